/- A part of the proof: an interpreter over abstract values, shown right against the model, and what the functions of the chapter compute on it. -/
import Derived.KernelRfl
import Derived.Test.YtjddchnjpobmkaaHx8
set_option linter.unusedVariables false
set_option linter.unusedSimpArgs false
set_option linter.unnecessarySimpa false
section
namespace Hx
open Go
set_option maxRecDepth 100000
noncomputable section
def C0:Cfg:=Go.Proofs.Ytjddchnjpobmkaa.Gen.cfg1
abbrev N.bp:Nat:=134
abbrev tII:Nat:=118
abbrev tPP:Nat:=183
abbrev N.bf:Nat:=137
abbrev N.be:Nat:=142
abbrev N.ba:Nat:=85
abbrev N.aF:Nat:=107
abbrev N.ah:Nat:=36
abbrev N.bo:Nat:=82
abbrev N.aK:Nat:=76
abbrev N.bh:Nat:=110
abbrev N.af:Nat:=83
abbrev N.ak:Nat:=84
abbrev N.aL:Nat:=81
abbrev N.aW:Nat:=116
abbrev N.bM:Nat:=75
abbrev N.bK:Nat:=126
abbrev N.aC:Nat:=128
abbrev N.aQ:Nat:=125
abbrev N.aa:Nat:=74
abbrev N.aB:Nat:=117
abbrev N.ae:Nat:=73
abbrev N.bD:Nat:=16
abbrev N.aE:Nat:=21
abbrev N.aN:Nat:=23
abbrev N.aJ:Nat:=17
abbrev N.bF:Nat:=19
abbrev N.aw:Nat:=51
abbrev N.aZ:Nat:=65
abbrev N.aS:Nat:=64
abbrev N.aq:Nat:=52
abbrev N.ac:Nat:=99
abbrev N.aR:Nat:=53
abbrev N.aT:Nat:=63
abbrev N.aI:Nat:=106
abbrev N.bg:Nat:=100
abbrev N.bH:Nat:=7
abbrev N.aD:Nat:=39
abbrev N.au:Nat:=86
abbrev N.aH:Nat:=24
abbrev N.ax:Nat:=67
abbrev N.ay:Nat:=25
abbrev N.aA:Nat:=38
abbrev N.bJ:Nat:=9
abbrev N.ap:Nat:=136
abbrev N.bO:Nat:=141
abbrev N.aX:Nat:=62
abbrev N.bN:Nat:=105
abbrev N.an:Nat:=54
abbrev N.aU:Nat:=127
abbrev N.bj:Nat:=98
abbrev N.bA:Nat:=97
abbrev N.br:Nat:=120
abbrev N.aV:Nat:=111
abbrev N.a_:Nat:=78
abbrev N.aM:Nat:=123
abbrev N.am:Nat:=133
abbrev N.bG:Nat:=112
abbrev N.bB:Nat:=95
abbrev N.bE:Nat:=94
abbrev N.aP:Nat:=47
abbrev N.a9:Nat:=48
abbrev N.bC:Nat:=96
abbrev N.bk:Nat:=10
abbrev N.bi:Nat:=30
abbrev N.bz:Nat:=49
abbrev N.aG:Nat:=50
abbrev N.bc:Nat:=131
abbrev N.bw:Nat:=31
abbrev N.bu:Nat:=87
abbrev N.bI:Nat:=132
abbrev N.aO:Nat:=15
abbrev N.aY:Nat:=138
def fq:SC:=sQ [o 137 (.bin .lss (.t 136) (.t 135))] (.seq (.cond (.t 137) (.skip) (.exit 2)) (.seq (.blk 3 (sQ [oM 138 136,o 139 (.ixs 2 (.t 134) (.t 136)),o 140 (.load true 2 (.t 139)),o 16 (.alloc [.int .i64 0,.int .i64 0]),oM 15 138,oz (.store 2 (.t 16) (.t 140))] (sQ [o 141 (.bsl 1 1 [.int .i64 0] [0] [.k (.int .i64 (-1))]),oF 142 1 5,oL 143 142,oN 144 143,o 145 (.call N.aO [.t 141,.t 144]),oM 17 145] (sQ [oM 146 17,oM 147 11,oM 148 15,oX 149 146 147,oz (.store 1 (.t 149) (.t 148))] (.seq (.feet [0,1,0,0,0,31,63,63,255,511,1023,2047,4095,2047,10239,2047,59391,124927,2047,524287,1048575,1048575,4194303,8388607,16777215] [o 150 (.load true 2 (.t 16)),o 151 (.call N.aH [.t 150]),o 152 (.load true 2 (.t 5)),oM 153 6,oM 154 17,o 155 (.call N.aE [.t 152,.t 153,.t 154]),o 156 (.ext (.t 155) 0),o 157 (.ext (.t 155) 1),o 158 (.dyn (.t 151) [.t 156,.t 157]),o 159 (.not (.t 158)),oM 160 159,og 161 160 false (.load true 2 (.t 16)),og 162 160 false (.call N.aH [.t 161]),og 163 160 false (.fad 2 (.t 13)),og 164 160 false (.load false 1 (.t 163)),og 165 160 false (.mv (.t 15)),og 166 160 false (.ixs 1 (.t 164) (.t 165)),og 167 160 false (.load false 1 (.t 166)),og 168 160 false (.mv (.t 9)),og 169 160 false (.call N.ah [.t 167,.t 168]),og 170 160 false (.ext (.t 169) 0),og 171 160 false (.ext (.t 169) 1),og 172 160 false (.dyn (.t 162) [.t 170,.t 171]),og 173 160 false (.not (.t 172)),o 174 (.pick (.t 160) (.k (.bool true)) (.t 173))]) (.cond (.t 174) (sQ [o 4 (.mv (.k (.bool false)))] (.ret)) (.skip))))))) (.ops [oA 175 136,oM 136 175])))
def rf:SC:=.ops [oA 176 64,oM 64 176]
def fm:SC:=sQ [o 65 (.bin .lss (.t 64) (.t 63))] (.seq (.cond (.t 65) (.skip) (.exit 0)) (.seq (.blk 1 (sQ [oM 66 64,oX 67 62 64,oL 68 67,oM 11 66,oM 12 68] (sQ [o 70 (.load true 2 (.t 5)),oM 71 6,oM 72 11,o 73 (.bsl 1 1 [.int .i64 0] [0] [.t 72]),o 74 (.call N.bF [.t 70,.t 71,.t 73]),oM 69 74,o 75 (.ext (.t 69) 0),o 76 (.ext (.t 69) 1),o 13 (.alloc [.nils,.nils,.nils]),oz (.store 3 (.t 13) (.t 75)),oM 14 76] (.seq (.seq (.feet [0,1,3,7,15,7,39,7,231,487,999,2047,4095,8191,16383,32767,65535,16383,147455,524287,1048575,2097151,4194303,8388607,16777215,33554431,67108863,134217727,268435455,268435455,1073741823,2147483647,4294967295,8589934591,17179869183,17179869183,17179869183,120259084287,257698037759,549755813887,1099511627775,17179869183,4398046511103,8796093022207,17592186044415,35184372088831,70368744177663,140737488355327,70368744177663,70368744177663,70368744177663,2251799813685247,4503599627370495,4503599627370495,18014398509481983,36028797018963967,72057594037927935] [oM 77 14,o 78 (.bin .neq (.t 77) (qI 0)),oM 79 78,og 80 79 false (.mv (.t 12)),og 81 79 false (.len .slice (.t 80)),og 82 79 false (.fad 1 (.t 5)),og 83 79 false (.load false 1 (.t 82)),og 84 79 false (.mv (.t 11)),og 85 79 false (.ixs 3 (.t 83) (.t 84)),og 86 79 false (.fad 0 (.t 85)),og 87 79 false (.load false 1 (.t 86)),og 88 79 false (.bin .neq (.t 81) (.t 87)),o 89 (.pick (.t 79) (.k (.bool true)) (.t 88)),oM 90 89,og 91 90 false (.fad 2 (.t 13)),og 92 90 false (.load false 1 (.t 91)),og 93 90 false (.len .slice (.t 92)),og 94 90 false (.mv (.t 12)),og 95 90 false (.len .slice (.t 94)),og 96 90 false (.bin .neq (.t 93) (.t 95)),o 97 (.pick (.t 90) (.k (.bool true)) (.t 96)),oM 98 97,og 99 98 false (.mv (.t 12)),og 100 98 false (.call N.aA [.t 99]),og 101 98 false (.call N.ay [.k (.int .i64 1),.k (.int .i64 1)]),og 102 98 false (.eq true (.flat [.int .i64,.int .i64]) (.t 100) (.t 101)),o 103 (.pick (.t 98) (.k (.bool true)) (.t 102)),oM 104 103,og 105 104 false (.mv (.t 6)),og 106 104 false (.mv (.t 11)),og 107 104 false (.ixs 1 (.t 105) (.t 106)),og 108 104 false (.load false 1 (.t 107)),og 109 104 false (.bin .geq (.t 108) (qI 0)),og 110 104 false (.mv (.t 109)),og 111 110 true (.mv (.t 12)),og 112 110 true (.mv (.t 6)),og 113 110 true (.mv (.t 11)),og 114 110 true (.ixs 1 (.t 112) (.t 113)),og 115 110 true (.load false 1 (.t 114)),og 116 110 true (.ixs 2 (.t 111) (.t 115)),og 117 110 true (.load true 2 (.t 116)),og 118 110 true (.call N.ay [.k (.int .i64 1),.k (.int .i64 1)]),og 119 110 true (.eq true (.flat [.int .i64,.int .i64]) (.t 117) (.t 118)),og 120 104 false (.pick (.t 110) (.t 119) (.k (.bool false))),o 121 (.pick (.t 104) (.k (.bool true)) (.t 120)),oM 122 121,og 123 122 false (.mv (.t 12)),og 124 122 false (.call N.aD [.t 123]),og 125 122 false (.load true 2 (.t 5)),og 126 122 false (.mv (.t 6)),og 127 122 false (.mv (.t 11)),og 128 122 false (.call N.aJ [.t 125,.t 126,.t 127]),og 129 122 false (.ext (.t 128) 0),og 130 122 false (.ext (.t 128) 1),og 131 122 false (.dyn (.t 124) [.t 129,.t 130]),og 132 122 false (.not (.t 131)),o 133 (.pick (.t 122) (.k (.bool true)) (.t 132))]) (.cond (.t 133) (sQ [o 4 (.mv (.k (.bool false)))] (.ret)) (.skip))) (sQ [oM 134 12,oN 135 134,oK 136 0] (.blk 2 (.loop fq))))))) rf))
def jD:SC:=sQ [o 4 (.mv (.k (.bool true)))] (.ret)
def kV:SC:=.seq (sQ [o 18 (.call N.bJ []),o 19 (.not (.t 18))] (.cond (.t 19) (sQ [o 4 (.mv (.k (.bool false)))] (.ret)) (.skip))) (sQ [o 20 (.load true 3 (.t 2)),o 21 (.call N.bk [.t 20]),o 5 (.alloc [.int .i64 0,.nils]),oz (.store 2 (.t 5) (.t 21))] (sQ [o 22 (.load true 9 (.t 3)),o 23 (.load true 2 (.t 5)),o 24 (.call N.bi [.t 22,.t 23]),oM 6 24] (sQ [o 26 (.load true 2 (.t 5)),oM 27 6,o 28 (.call N.bD [.t 26,.t 27]),oM 25 28,o 29 (.ext (.t 25) 0),o 30 (.ext (.t 25) 1),oM 7 29,oM 8 30] (sQ [o 32 (.load true 2 (.t 5)),oM 33 6,o 34 (.call N.aN [.t 32,.t 33]),oM 31 34,o 35 (.ext (.t 31) 0),o 36 (.ext (.t 31) 1),oM 9 35,oM 10 36] (.seq (sQ [oM 37 10,o 38 (.bin .neq (.t 37) (qI 0)),oM 39 38,og 40 39 false (.mv (.t 9)),og 41 39 false (.bin .lss (.t 40) (qI 0)),o 42 (.pick (.t 39) (.k (.bool true)) (.t 41))] (.cond (.t 42) (sQ [o 4 (.mv (.k (.bool false)))] (.ret)) (.skip))) (.seq (sQ [oM 43 9,o 44 (.bin .eql (.t 43) (qI 0))] (.cond (.t 44) (sQ [oM 45 8,o 46 (.bin .eql (.t 45) (qI 7)),oM 47 46,og 48 47 true (.mv (.t 7)),og 49 47 true (.len .slice (.t 48)),og 50 47 true (.bin .eql (.t 49) (qI 0)),o 51 (.pick (.t 47) (.t 50) (.k (.bool false))),oM 4 51] (.ret)) (.skip))) (.seq (sQ [oM 52 8,o 53 (.bin .neq (.t 52) (qI 0)),oM 54 53,og 55 54 false (.mv (.t 7)),og 56 54 false (.len .slice (.t 55)),og 57 54 false (.fad 1 (.t 5)),og 58 54 false (.load false 1 (.t 57)),og 59 54 false (.len .slice (.t 58)),og 60 54 false (.bin .neq (.t 56) (.t 59)),o 61 (.pick (.t 54) (.k (.bool true)) (.t 60))] (.cond (.t 61) (sQ [o 4 (.mv (.k (.bool false)))] (.ret)) (.skip))) (.seq (sQ [oM 62 7,oN 63 62,oK 64 0] (.blk 0 (.loop fm))) jD))))))))
def ir:SF:=⟨177,[.tm 4],sQ [o 2 (.box (.t 0)),o 3 (.box (.t 1)),o 4 (.mv (.k (.bool false)))] kV⟩
def pX:SC:=sQ [oM 65 6,oM 66 9,o 67 (.bin .mul (.t 65) (.t 66)),oM 6 67] (.feet [0,1,0,0,12,28,0,127,255,511] [oF 68 1 4,oL 69 68,oM 70 5,oM 71 7,oX 72 70 71,oL 73 72,oM 74 9,o 75 (.ixs 3 (.t 69) (.t 73)),oF 76 0 75,oz (.store 1 (.t 76) (.t 74))])
def o9:SC:=sQ [oF 50 0 8,oL 51 50,o 52 (.bin .rem (.t 51) (.k (.int .u8 2))),o 53 (.conv .i64 (.t 52)),o 54 (.bin .add (qI 2) (.t 53)),oM 9 54] (.seq (sQ [oM 55 6,oM 56 9,o 57 (.bin .mul (.t 55) (.t 56)),oM 58 3,o 59 (.bin .sub (.t 58) (qI 1)),oM 60 7,o 61 (.bin .sub (.t 59) (.t 60)),o 62 (.conv .u64 (.t 61)),o 63 (.bin .shl (.t 57) (.t 62)),o 64 (.bin .gtr (.t 63) (qI 100))] (.cond (.t 64) (.ops [oK 9 2]) (.skip))) pX)
def i6:SC:=.ops [oM 38 7,oA 39 38,oM 7 39]
def eM:SC:=.seq (sQ [oM 35 7,oM 36 3,o 37 (.bin .lss (.t 35) (.t 36))] (.cond (.t 37) (.skip) (.exit 0))) (.seq (.blk 1 (sQ [o 8 (.alloc [.int .u8 0,.int .u8 0,.nils])] (.seq (sQ [oM 40 7,oF 41 1 1,oL 42 41,oN 43 42,o 44 (.bin .lss (.t 40) (.t 43))] (.cond (.t 44) (.ops [oF 45 1 1,oL 46 45,oM 47 7,o 48 (.ixs 3 (.t 46) (.t 47)),o 49 (.load true 3 (.t 48)),oz (.store 3 (.t 8) (.t 49))]) (.skip))) o9))) i6)
def iW:SC:=.ops [oM 104 14,oA 105 104,oM 14 105]
def eF:SC:=.seq (sQ [oM 101 14,oM 102 10,o 103 (.bin .lss (.t 101) (.t 102))] (.cond (.t 103) (.skip) (.exit 6))) (.seq (.blk 7 (sQ [oM 106 5,oM 107 14,oX 108 106 107,oL 109 108,oM 110 13,o 111 (.bin .eql (.t 109) (.t 110)),oM 112 111,og 113 112 true (.fad 1 (.t 11)),og 114 112 true (.load false 1 (.t 113)),og 115 112 true (.mv (.t 14)),og 116 112 true (.conv .u64 (.t 115)),og 117 112 true (.bin .shr (.t 114) (.t 116)),og 118 112 true (.bin .and (.t 117) (.k (.int .u8 1))),og 119 112 true (.bin .eql (.t 118) (.k (.int .u8 1))),o 120 (.pick (.t 112) (.t 119) (.k (.bool false))),oM 121 120,og 122 121 true (.fad 1 (.t 4)),og 123 121 true (.load false 1 (.t 122)),og 124 121 true (.mv (.t 12)),og 125 121 true (.ixs 3 (.t 123) (.t 124)),og 126 121 true (.fad 1 (.t 125)),og 127 121 true (.load false 1 (.t 126)),og 128 121 true (.len .slice (.t 127)),og 129 121 true (.bin .lss (.t 128) (qI 3)),o 130 (.pick (.t 121) (.t 129) (.k (.bool false)))] (.cond (.t 130) (.feet [0,1,0,0,8,0,56,120,248,0,512,2040,4095,8191,16383] [oF 131 1 4,oL 132 131,oM 133 12,oF 134 1 4,oL 135 134,oM 136 12,o 137 (.ixs 3 (.t 135) (.t 136)),oF 138 1 137,oL 139 138,oM 140 13,o 141 (.bsl 1 1 [.int .i64 0] [0] [.t 140]),o 142 (.app 1 8 (.t 139) (.t 141)),o 143 (.ixs 3 (.t 132) (.t 133)),oF 144 1 143,oz (.store 1 (.t 144) (.t 142))]) (.skip)))) iW)
def ja:SC:=.ops [oM 99 13,oA 100 99,oM 13 100]
def eo:SC:=.seq (sQ [oM 96 13,oM 97 3,o 98 (.bin .lss (.t 96) (.t 97))] (.cond (.t 98) (.skip) (.exit 4))) (.seq (.blk 5 (sQ [oK 14 0] (.blk 6 (.loop eF)))) ja)
def eG:SC:=.seq (sQ [oM 145 15,o 146 (.load true 2 (.t 4)),oM 147 12,o 148 (.call N.bz [.t 146,.t 147]),o 149 (.call N.a9 [.t 148]),o 150 (.bin .lss (.t 145) (.t 149))] (.cond (.t 150) (.skip) (.exit 8))) (.seq (.blk 9 (.feet [0,1,0,0,8,0,56,120,248,0,512,0,2048,0,14336,30720,63488,0,131072,0,0,1048576,0,7340032,15728640,32505856,66060288,133693440,268434944,536870400,1073741816,2147483647,4294967295,8589934591] [oF 153 1 4,oL 154 153,oM 155 12,oF 156 1 4,oL 157 156,oM 158 12,o 159 (.ixs 3 (.t 157) (.t 158)),oF 160 2 159,oL 161 160,oF 162 0 4,oL 163 162,oF 164 1 4,oL 165 164,oM 166 12,o 167 (.ixs 3 (.t 165) (.t 166)),oF 168 0 167,oL 169 168,oF 170 2 11,oL 171 170,oM 172 15,oF 173 1 4,oL 174 173,oM 175 12,o 176 (.ixs 3 (.t 174) (.t 175)),oF 177 0 176,oL 178 177,oA 179 178,o 180 (.bin .mul (.t 172) (.t 179)),o 181 (.call N.aG [.t 163,.t 169,.t 171,.t 180]),o 182 (.bsl 1 1 [.nils] [0] [.t 181]),o 183 (.app 1 24 (.t 161) (.t 182)),o 184 (.ixs 3 (.t 154) (.t 155)),oF 185 2 184,oz (.store 1 (.t 185) (.t 183))])) (.ops [oM 151 15,oA 152 151,oM 15 152]))
def i4:SC:=sQ [oK 15 0] (.blk 8 (.loop eG))
def ic:SC:=sQ [oM 92 5,oM 93 10,oX 94 92 93,oL 95 94,oM 12 95] (.seq (sQ [oK 13 0] (.blk 4 (.loop eo))) i4)
def ia:SC:=.ops [oM 80 10,oA 81 80,oM 10 81]
def d4:SC:=.seq (sQ [oM 77 10,oM 78 3,o 79 (.bin .lss (.t 77) (.t 78))] (.cond (.t 79) (.skip) (.exit 2))) (.seq (.blk 3 (sQ [o 11 (.alloc [.int .u8 0,.int .u8 0,.nils])] (.seq (sQ [oM 82 10,oF 83 1 1,oL 84 83,oN 85 84,o 86 (.bin .lss (.t 82) (.t 85))] (.cond (.t 86) (.ops [oF 87 1 1,oL 88 87,oM 89 10,o 90 (.ixs 3 (.t 88) (.t 89)),o 91 (.load true 3 (.t 90)),oz (.store 3 (.t 11) (.t 91))]) (.skip))) ic))) ia)
def ii:SC:=sQ [o 186 (.load true 2 (.t 4)),oz (.store 2 (.t 2) (.t 186))] (.ret)
def ij:SC:=.seq (sQ [oK 10 0] (.blk 2 (.loop d4))) ii
def js:SC:=sQ [oF 16 1 1,oL 17 16,oN 18 17,o 19 (.mx (.t 18) (qI 1)),o 20 (.mn (.t 19) (qI 5)),oM 3 20] (.seq (.feet [0,1,3,7,15,0,32,127,0,511] [oF 21 0 1,oL 22 21,o 23 (.bin .rem (.t 22) (.k (.int .u8 60))),o 24 (.conv .i64 (.t 23)),o 25 (.bin .add (qI 1) (.t 24)),oM 26 3,o 27 (.mks 3 56 [.int .i64 0,.nils,.nils] (.t 26) (.t 26)),o 28 (.build [.int .i64 0,.nils] [(0,1),(1,1)] [.t 25,.t 27]),o 4 (.alloc [.int .i64 0,.nils]),oz (.store 2 (.t 4) (.t 28))]) (.seq (.feet [0,1,0,4,15,31,63] [oM 29 3,o 30 (.mks 1 1 [.int .u8 0] (.t 29) (.t 29)),oF 31 2 1,oL 32 31,o 33 (.build [.nils,.int .u16 0,.nils] [(0,1),(2,1)] [.t 30,.t 32]),o 34 (.call N.aP [.t 33]),oM 5 34]) (sQ [oK 6 1] (.seq (sQ [oK 7 0] (.blk 0 (.loop eM))) ij))))
def gX:SF:=⟨187,[.cell true 2 2],sQ [o 1 (.box (.t 0)),o 2 (.alloc [.int .i64 0,.nils])] js⟩
def qg:SC:=sQ [o 38 (.bin .lss (.t 37) (.t 36))] (.seq (.cond (.t 38) (.skip) (.exit 0)) (.seq (.blk 1 (sQ [oM 39 37,oM 10 39] (sQ [oM 41 9,oM 42 10,oM 43 8,oM 44 10,o 45 (.dyn (.t 43) [.t 44]),oM 40 45,o 46 (.ext (.t 40) 0),o 47 (.ext (.t 40) 1),oX 48 41 42,oz (.store 1 (.t 48) (.t 46)),oM 7 47] (sQ [oM 49 7,o 50 (.bin .neq (.t 49) (qI 0))] (.cond (.t 50) (sQ [oM 51 7,o 4 (.mv (.k (.nils))),oM 5 51] (.ret)) (.skip)))))) (.ops [oA 52 37,oM 37 52])))
def pE:SC:=sQ [oM 53 9,oM 4 53,oK 5 0] (.ret)
def rD:SC:=sQ [o 12 (.load true 2 (.t 2)),oM 13 1,o 14 (.bsl 1 1 [.nils] [0] [.t 13]),o 15 (.call N.aw [.t 12,.t 14]),oM 11 15,o 16 (.ext (.t 11) 0),o 17 (.ext (.t 11) 1),o 6 (.alloc [.int .i64 0,.nils,.nils,.nils]),oz (.store 4 (.t 6) (.t 16)),oM 7 17] (.seq (sQ [oM 18 7,o 19 (.bin .neq (.t 18) (qI 0))] (.cond (.t 19) (sQ [oM 20 7,o 4 (.mv (.k (.nils))),oM 5 20] (.ret)) (.skip))) (sQ [o 22 (.load true 4 (.t 6)),oM 23 1,o 24 (.call N.aT [.t 22,.t 23]),oM 21 24,o 25 (.ext (.t 21) 0),o 26 (.ext (.t 21) 1),oM 8 25,oM 7 26] (.seq (sQ [oM 27 7,o 28 (.bin .neq (.t 27) (qI 0))] (.cond (.t 28) (sQ [oM 29 7,o 4 (.mv (.k (.nils))),oM 5 29] (.ret)) (.skip))) (sQ [oF 30 0 6,oF 31 1 30,oL 32 31,oN 33 32,o 34 (.mks 1 24 [.nils] (.t 33) (.t 33)),oM 9 34] (.seq (sQ [oM 35 9,oN 36 35,oK 37 0] (.blk 0 (.loop qg))) pE)))))
def qm:SF:=⟨54,[.tm 4,.tm 5],sQ [o 2 (.box (.t 0)),o 4 (.mv (.k (.nils))),oK 5 0] rD⟩
def jv:SC:=sQ [o 12 (.load true 2 (.t 3)),oM 13 1,o 14 (.bsl 1 1 [.nils] [0] [.t 13]),o 15 (.call N.aw [.t 12,.t 14]),oM 11 15,o 16 (.ext (.t 11) 0),o 17 (.ext (.t 11) 1),o 8 (.alloc [.int .i64 0,.nils,.nils,.nils]),oz (.store 4 (.t 8) (.t 16)),oM 9 17] (.seq (sQ [oM 18 9,o 19 (.bin .neq (.t 18) (qI 0))] (.cond (.t 19) (sQ [oM 20 9,o 6 (.mv (.k (.nils))),oM 7 20] (.ret)) (.skip))) (.seq (sQ [oM 21 2,o 22 (.bin .lss (.t 21) (qI 0)),oM 23 22,og 24 23 false (.mv (.t 2)),og 25 23 false (.fad 0 (.t 8)),og 26 23 false (.fad 1 (.t 25)),og 27 23 false (.load false 1 (.t 26)),og 28 23 false (.len .slice (.t 27)),og 29 23 false (.bin .geq (.t 24) (.t 28)),o 30 (.pick (.t 23) (.k (.bool true)) (.t 29))] (.cond (.t 30) (sQ [o 6 (.mv (.k (.nils))),oK 7 2] (.ret)) (.skip))) (sQ [o 32 (.load true 4 (.t 8)),oM 33 1,o 34 (.call N.aT [.t 32,.t 33]),oM 31 34,o 35 (.ext (.t 31) 0),o 36 (.ext (.t 31) 1),oM 10 35,oM 9 36] (.seq (sQ [oM 37 9,o 38 (.bin .neq (.t 37) (qI 0))] (.cond (.t 38) (sQ [oM 39 9,o 6 (.mv (.k (.nils))),oM 7 39] (.ret)) (.skip))) (sQ [oM 40 10,oM 41 2,o 42 (.dyn (.t 40) [.t 41]),o 43 (.ext (.t 42) 0),o 44 (.ext (.t 42) 1),oM 6 43,oM 7 44] (.ret))))))
def gM:SF:=⟨45,[.tm 6,.tm 7],sQ [o 3 (.box (.t 0)),o 6 (.mv (.k (.nils))),oK 7 0] jv⟩
def it:SC:=sQ [o 35 (.bin .lss (.t 34) (.t 33))] (.seq (.cond (.t 35) (.skip) (.exit 0)) (.seq (.blk 1 (sQ [oX 36 32 34,oL 37 36,oM 13 37] (.seq (sQ [oM 38 13,oM 39 10,o 40 (.bin .leq (.t 38) (.t 39)),oM 41 40,og 42 41 false (.mv (.t 13)),og 43 41 false (.fad 0 (.t 8)),og 44 41 false (.fad 1 (.t 43)),og 45 41 false (.load false 1 (.t 44)),og 46 41 false (.len .slice (.t 45)),og 47 41 false (.bin .geq (.t 42) (.t 46)),o 48 (.pick (.t 41) (.k (.bool true)) (.t 47))] (.cond (.t 48) (sQ [o 49 (.build [.nils,.nils,.nils] [] []),oz (.store 3 (.t 6) (.t 49)),oK 7 2] (.ret)) (.skip))) (sQ [oM 50 13,oM 10 50] (.feet [0,0,2,7,15] [oL 51 11,oM 52 13,o 53 (.bin .shl (.k (.int .u64 1)) (.t 52)),o 54 (.bin .or (.t 51) (.t 53)),oz (.store 1 (.t 11) (.t 54))]))))) (.ops [oA 55 34,oM 34 55])))
def io:SC:=sQ [o 60 (.bin .lss (.t 59) (.t 58))] (.seq (.cond (.t 60) (.skip) (.exit 2)) (.seq (.blk 3 (sQ [oX 61 57 59,oL 62 61,oM 17 62] (sQ [oF 63 0 14,oL 64 63,oM 65 17,o 66 (.bsl 1 1 [.int .i64 0] [0] [.t 65]),o 67 (.app 1 8 (.t 64) (.t 66)),oF 68 0 14,oz (.store 1 (.t 68) (.t 67))] (.seq (.feet [0,1,0,4,12,0,60,124,252,508,1023,2047,4095] [oF 69 1 14,oL 70 69,oF 71 0 8,oF 72 1 71,oL 73 72,oM 74 17,o 75 (.ixs 3 (.t 73) (.t 74)),oF 76 0 75,oL 77 76,o 78 (.bsl 1 1 [.int .i64 0] [0] [.t 77]),o 79 (.app 1 8 (.t 70) (.t 78)),oF 80 1 14,oz (.store 1 (.t 80) (.t 79))]) (.ops [oM 81 15,oF 82 0 8,oF 83 1 82,oL 84 83,oM 85 17,o 86 (.ixs 3 (.t 84) (.t 85)),oF 87 0 86,oL 88 87,o 89 (.bin .mul (.t 81) (.t 88)),oM 15 89]))))) (.ops [oA 90 59,oM 59 90])))
def nu:SC:=.ops [o 19 (.alloc [.int .i64 0,.int .i64 0,.nils]),oz (.store 3 (.t 19) (.t 95))]
def mU:SC:=.blk 5 (.feet [0,0,0,4,0,30,63,0,128,511,1023] [oL 96 18,o 97 (.load true 4 (.t 8)),oF 98 2 19,oL 99 98,oL 100 11,o 101 (.call N.aR [.t 97,.t 99,.t 100]),o 102 (.raw (.lookup 118 (.tmp 96) (.tmp 101) false)),oF 103 1 19,oL 104 103,o 105 (.bin .add (.t 102) (.t 104)),oz (.raw (.mapUpdate 118 (.tmp 96) (.tmp 101) (.tmp 105)))])
def ni:SC:=sQ [o 113 (.bin .lss (.t 112) (.t 111))] (.seq (.cond (.t 113) (.skip) (.exit 6)) (.seq (.blk 7 (sQ [oM 114 112,oM 20 114] (.ops [oF 115 2 14,oL 116 115,oM 117 20,oL 118 18,oM 119 20,o 120 (.raw (.lookup 118 (.tmp 118) (.tmp 119) false)),oX 121 116 117,oz (.store 1 (.t 121) (.t 120))]))) (.ops [oA 122 112,oM 112 122])))
def iz:SC:=sQ [o 123 (.load true 3 (.t 14)),oz (.store 3 (.t 6) (.t 123)),oK 7 0] (.ret)
def iB:SC:=sQ [oM 106 15,o 107 (.mks 1 8 [.int .i64 0] (.t 106) (.t 106)),oF 108 2 14,oz (.store 1 (.t 108) (.t 107))] (.seq (sQ [oF 109 2 14,oL 110 109,oN 111 110,oK 112 0] (.blk 6 (.loop ni))) iz)
def mP:SC:=sQ [o 91 (.raw (.makeMap 118 none)),o 18 (.alloc [.nilm]),oz (.store 1 (.t 18) (.t 91))] (.seq (sQ [o 92 (.load true 4 (.t 8)),oM 93 1,o 94 (.call N.aq [.t 92,.t 93])] (.blk 4 (.rng 124 (.t 94) [95] nu mU))) iB)
def m7:SC:=sQ [o 56 (.build [.nils,.nils,.nils] [] []),o 14 (.alloc [.nils,.nils,.nils]),oz (.store 3 (.t 14) (.t 56)),oK 15 1] (.seq (sQ [oM 57 2,oN 58 57,oK 59 0] (.blk 2 (.loop io))) mP)
def oE:SC:=sQ [o 22 (.load true 2 (.t 3)),oM 23 1,o 24 (.bsl 1 1 [.nils] [0] [.t 23]),o 25 (.call N.aw [.t 22,.t 24]),oM 21 25,o 26 (.ext (.t 21) 0),o 27 (.ext (.t 21) 1),o 8 (.alloc [.int .i64 0,.nils,.nils,.nils]),oz (.store 4 (.t 8) (.t 26)),oM 9 27] (.seq (sQ [oM 28 9,o 29 (.bin .neq (.t 28) (qI 0))] (.cond (.t 29) (sQ [o 30 (.build [.nils,.nils,.nils] [] []),oM 31 9,oz (.store 3 (.t 6) (.t 30)),oM 7 31] (.ret)) (.skip))) (sQ [o 11 (.alloc [.int .u64 0]),oK 10 (-1),oz (.store 1 (.t 11) (.k (.int .u64 0)))] (.seq (sQ [oM 32 2,oN 33 32,oK 34 0] (.blk 0 (.loop it))) m7)))
def mJ:SF:=⟨124,[.cell true 3 6,.tm 7],sQ [o 3 (.box (.t 0)),o 6 (.alloc [.nils,.nils,.nils]),oK 7 0] oE⟩
def m8:SC:=.ops [o 12 (.alloc [.int .i64 0,.int .i64 0,.nils]),oz (.store 3 (.t 12) (.t 34))]
def iK:SC:=.blk 1 (sQ [oF 35 2 12,oL 36 35,oL 37 5,o 38 (.call N.aZ [.t 36,.t 37])] (.cond (.t 38) (.ops [oL 39 11,oF 40 1 12,oL 41 40,o 42 (.bin .add (.t 39) (.t 41)),oz (.store 1 (.t 11) (.t 42))]) (.skip)))
def nh:SC:=sQ [oL 43 11,oM 44 10,o 45 (.call N.ah [.t 43,.t 44]),o 46 (.ext (.t 45) 0),o 47 (.ext (.t 45) 1),oz (.store 2 (.t 6) (.t 46)),oM 7 47] (.ret)
def oQ:SC:=sQ [o 14 (.load true 2 (.t 3)),oM 15 1,oL 16 5,o 17 (.bsl 1 2 [.nils] [0,1] [.t 15,.t 16]),o 18 (.call N.aw [.t 14,.t 17]),oM 13 18,o 19 (.ext (.t 13) 0),o 20 (.ext (.t 13) 1),o 8 (.alloc [.int .i64 0,.nils,.nils,.nils]),oz (.store 4 (.t 8) (.t 19)),oM 9 20] (.seq (sQ [oM 21 9,o 22 (.bin .neq (.t 21) (qI 0))] (.cond (.t 22) (sQ [o 23 (.build [.int .i64 0,.int .i64 0] [] []),oM 24 9,oz (.store 2 (.t 6) (.t 23)),oM 7 24] (.ret)) (.skip))) (sQ [o 25 (.load true 4 (.t 8)),oM 26 1,o 27 (.call N.aS [.t 25,.t 26]),oM 10 27] (.seq (sQ [oM 28 10,o 29 (.bin .eql (.t 28) (qI 0))] (.cond (.t 29) (sQ [o 30 (.build [.int .i64 0,.int .i64 0] [] []),oz (.store 2 (.t 6) (.t 30)),oK 7 7] (.ret)) (.skip))) (sQ [o 11 (.alloc [.int .i64 0]),oz (.store 1 (.t 11) (qI 0))] (.seq (sQ [o 31 (.load true 4 (.t 8)),oM 32 1,o 33 (.call N.aq [.t 31,.t 32])] (.blk 0 (.rng 48 (.t 33) [34] m8 iK))) nh)))))
def mD:SF:=⟨48,[.cell true 2 6,.tm 7],sQ [o 3 (.box (.t 0)),o 5 (.box (.t 2)),o 6 (.alloc [.int .i64 0,.int .i64 0]),oK 7 0] oQ⟩
def pd:SC:=sQ [o 9 (.load true 2 (.t 2)),oM 10 1,o 11 (.bsl 1 1 [.nils] [0] [.t 10]),o 12 (.call N.aw [.t 9,.t 11]),oM 8 12,o 13 (.ext (.t 8) 0),o 14 (.ext (.t 8) 1),o 6 (.alloc [.int .i64 0,.nils,.nils,.nils]),oz (.store 4 (.t 6) (.t 13)),oM 7 14] (.seq (sQ [oM 15 7,o 16 (.bin .neq (.t 15) (qI 0))] (.cond (.t 16) (sQ [oM 17 7,oK 4 0,oM 5 17] (.ret)) (.skip))) (sQ [o 18 (.load true 4 (.t 6)),oM 19 1,o 20 (.call N.aS [.t 18,.t 19]),oM 4 20,oK 5 0] (.ret)))
def oo:SF:=⟨21,[.tm 4,.tm 5],sQ [o 2 (.box (.t 0)),oK 4 0,oK 5 0] pd⟩
def lJ:SC:=sQ [o 3 (.mkf N.ax [] [.t 1]),oM 2 3] (.ret)
def je:SF:=⟨4,[.tm 2],sQ [o 1 (.box (.t 0)),o 2 (.mv (.k (.nilf)))] lJ⟩
def tN:SC:=sQ [oM 5 0,oM 6 1,o 7 (.build [.int .i64 0,.int .i64 0] [(0,1),(1,1)] [.t 5,.t 6]),oz (.store 2 (.t 4) (.t 7))] (.ret)
def sU:SF:=⟨8,[.cell true 2 4],sQ [o 4 (.alloc [.int .i64 0,.int .i64 0])] tN⟩
def fk:SC:=.ops [oM 34 5,oM 35 7,o 36 (.bsl 1 1 [.int .i64 0] [0] [.t 35]),o 37 (.app 1 8 (.t 34) (.t 36)),oM 5 37]
def rk:SC:=.ops [oM 13 6,oA 14 13,oM 6 14]
def ri:SC:=.seq (sQ [oM 8 6,oF 9 1 3,oL 10 9,oN 11 10,o 12 (.bin .lss (.t 8) (.t 11))] (.cond (.t 12) (.skip) (.exit 0))) (.seq (.blk 1 (sQ [oK 7 (-1)] (.seq (sQ [oF 15 0 2,oL 16 15,oM 17 6,o 18 (.conv .u64 (.t 17)),o 19 (.bin .shr (.t 16) (.t 18)),o 20 (.bin .and (.t 19) (.k (.int .u8 1))),o 21 (.bin .eql (.t 20) (.k (.int .u8 1)))] (.cond (.t 21) (.quiet [oM 22 6,oF 23 1 2,o 24 (.ixa 8 1 (.t 23) (.t 22)),oL 25 24,o 26 (.conv .i64 (.t 25)),oF 27 1 3,oL 28 27,oM 29 6,o 30 (.ixs 3 (.t 28) (.t 29)),oF 31 0 30,oL 32 31,o 33 (.bin .rem (.t 26) (.t 32)),oM 7 33]) (.skip))) fk))) rk)
def jy:SC:=sQ [oM 38 5,oM 4 38] (.ret)
def ks:SC:=sQ [o 5 (.mv (.k (.nils)))] (.seq (sQ [oK 6 0] (.blk 0 (.loop ri))) jy)
def iv:SF:=⟨39,[.tm 4],sQ [o 2 (.box (.t 0)),o 3 (.box (.t 1)),o 4 (.mv (.k (.nils)))] ks⟩
def cK:SF:=⟨8,[.tm 2],sQ [o 2 (.mv (.k (.nils)))] (.seq (sQ [oM 3 0,o 4 (.eq false .slice (.t 3) (.k (.nils)))] (.cond (.t 4) (sQ [o 2 (.mv (.k (.nils)))] (.ret)) (.skip))) (sQ [o 5 (.bsl 1 0 [.int .i64 0] [] []),oM 6 0,o 7 (.app 1 8 (.t 5) (.t 6)),oM 2 7] (.ret)))⟩
def se:SC:=.seq (sQ [oL 6 3,o 7 (.bin .eql (.t 6) (qI 0))] (.cond (.t 7) (sQ [o 8 (.build [.int .i64 0,.int .i64 0] [] []),oz (.store 2 (.t 4) (.t 8)),oK 5 2] (.ret)) (.skip))) (sQ [o 9 (.mkf N.bo [] [.t 2,.t 3]),o 10 (.call N.aL [.t 9]),o 11 (.ext (.t 10) 0),o 12 (.ext (.t 10) 1),oz (.store 2 (.t 4) (.t 11)),oM 5 12] (.ret))
def pU:SF:=⟨13,[.cell true 2 4,.tm 5],sQ [o 2 (.box (.t 0)),o 3 (.box (.t 1)),o 4 (.alloc [.int .i64 0,.int .i64 0]),oK 5 0] se⟩
def pi:SC:=sQ [o 12 (.bin .lss (.t 11) (.t 10))] (.seq (.cond (.t 12) (.skip) (.exit 0)) (.seq (.blk 1 (sQ [o 13 (.ixs 2 (.t 9) (.t 11)),o 14 (.load true 2 (.t 13)),o 5 (.alloc [.int .i64 0,.int .i64 0]),oz (.store 2 (.t 5) (.t 14))] (sQ [o 16 (.load true 2 (.t 3)),o 17 (.load true 2 (.t 5)),o 18 (.call N.ba [.t 16,.t 17]),oM 15 18,o 19 (.ext (.t 15) 0),o 20 (.ext (.t 15) 1),o 6 (.alloc [.int .i64 0,.int .i64 0]),oz (.store 2 (.t 6) (.t 19)),oM 7 20] (.seq (sQ [oM 21 7,o 22 (.bin .neq (.t 21) (qI 0))] (.cond (.t 22) (sQ [o 23 (.build [.int .i64 0,.int .i64 0] [] []),oz (.store 2 (.t 2) (.t 23))] (.ret)) (.skip))) (.ops [o 24 (.load true 2 (.t 6)),oz (.store 2 (.t 3) (.t 24))]))))) (.ops [oA 25 11,oM 11 25])))
def pC:SC:=sQ [o 26 (.load true 2 (.t 3)),oz (.store 2 (.t 2) (.t 26))] (.ret)
def rO:SC:=sQ [o 8 (.call N.ay [.k (.int .i64 0),.k (.int .i64 1)]),o 3 (.alloc [.int .i64 0,.int .i64 0]),oz (.store 2 (.t 3) (.t 8))] (.seq (sQ [oM 9 0,oN 10 9,oK 11 0] (.blk 0 (.loop pi))) pC)
def qr:SF:=⟨27,[.cell true 2 2],sQ [o 2 (.alloc [.int .i64 0,.int .i64 0])] rO⟩
def rP:SC:=sQ [o 3 (.mkf N.au [] [.t 1]),oM 2 3] (.ret)
def pM:SF:=⟨4,[.tm 2],sQ [o 1 (.box (.t 0)),o 2 (.mv (.k (.nilf)))] rP⟩
def bX:SC:=sQ [o 6 (.mv (.k (.nils)))] (sQ [oM 28 6,oM 29 3,oM 30 5,o 31 (.slc 1 (.t 29) [] [.t 30]),o 32 (.app 1 8 (.t 28) (.t 31)),oM 33 4,o 34 (.bsl 1 1 [.int .i64 0] [0] [.t 33]),o 35 (.app 1 8 (.t 32) (.t 34)),oM 6 35] (.ops [oM 36 6,oM 37 3,oM 38 5,o 39 (.slc 1 (.t 37) [.t 38] []),o 40 (.app 1 8 (.t 36) (.t 39)),oM 3 40]))
def jr:SC:=.ops [oM 12 4,oA 13 12,oM 4 13]
def jq:SC:=.seq (sQ [oM 7 4,o 8 (.load true 3 (.t 1)),o 9 (.call N.bE [.t 8]),oN 10 9,o 11 (.bin .lss (.t 7) (.t 10))] (.cond (.t 11) (.skip) (.exit 0))) (.seq (.blk 1 (sQ [oK 5 0] (.seq (sQ [oM 14 4,oF 15 2 1,oL 16 15,oN 17 16,o 18 (.bin .lss (.t 14) (.t 17))] (.cond (.t 18) (.ops [oF 19 2 1,oL 20 19,oM 21 4,oX 22 20 21,oL 23 22,o 24 (.conv .i64 (.t 23)),oM 25 4,oA 26 25,o 27 (.bin .rem (.t 24) (.t 26)),oM 5 27]) (.skip))) bX))) jr)
def dP:SC:=sQ [oM 41 3,oM 2 41] (.ret)
def d5:SC:=sQ [o 3 (.mv (.k (.nils)))] (.seq (sQ [oK 4 0] (.blk 0 (.loop jq))) dP)
def cE:SF:=⟨42,[.tm 2],sQ [o 1 (.box (.t 0)),o 2 (.mv (.k (.nils)))] d5⟩
def ve:SC:=.seq (sQ [oM 5 4,oM 6 0,oN 7 6,o 8 (.bin .lss (.t 5) (.t 7))] (.cond (.t 8) (.skip) (.exit 0))) (.seq (.blk 1 (.ops [oM 11 3,oM 12 0,oM 13 4,oX 14 12 13,oL 15 14,o 16 (.bin .mul (.t 11) (.t 15)),oM 3 16])) (.ops [oM 9 4,oA 10 9,oM 4 10]))
def oH:SC:=sQ [oM 17 3,oM 2 17] (.ret)
def nM:SF:=⟨18,[.tm 2],sQ [oK 2 0] (sQ [oK 3 1] (.seq (sQ [oK 4 0] (.blk 0 (.loop ve))) oH))⟩
def h_:SC:=.seq (.quiet [o 5 (.load true 2 (.t 2)),o 6 (.call N.bC [.t 5]),oF 7 1 2,oL 8 7,oM 9 1,o 10 (.ixs 3 (.t 8) (.t 9)),oF 11 1 10,oL 12 11,o 13 (.call N.bB [.t 6,.t 12]),oM 4 13]) (.ret)
def fp:SF:=⟨14,[.tm 4],sQ [o 2 (.box (.t 0)),o 4 (.mv (.k (.nils)))] h_⟩
def pf:SC:=.ops [oM 39 10,oM 40 9,oM 41 11,oX 42 40 41,oL 43 42,o 44 (.bin .add (.t 39) (.t 43)),oM 10 44]
def pA:SC:=.ops [oM 20 11,oA 21 20,oM 11 21]
def jQ:SC:=.seq (sQ [oM 17 11,oM 18 1,o 19 (.bin .lss (.t 17) (.t 18))] (.cond (.t 19) (.skip) (.exit 0))) (.seq (.blk 1 (.seq (sQ [oM 22 2,oN 23 22,o 24 (.bin .gtr (.t 23) (qI 0))] (.cond (.t 24) (.ops [oM 25 9,oM 26 11,oM 27 2,oM 28 3,oM 29 11,o 30 (.bin .add (.t 28) (.t 29)),oM 31 2,oN 32 31,o 33 (.bin .rem (.t 30) (.t 32)),oX 34 27 33,oL 35 34,o 36 (.bin .rem (.t 35) (.k (.int .u8 8))),o 37 (.conv .i64 (.t 36)),oX 38 25 26,oz (.store 1 (.t 38) (.t 37))]) (.skip))) pf)) pA)
def pP:SC:=.ops [oM 68 12,oM 69 9,oM 70 14,oX 71 69 70,oL 72 71,o 73 (.bin .sub (.t 68) (.t 72)),oM 12 73]
def qe:SC:=.ops [oM 49 14,oA 50 49,oM 14 50]
def jV:SC:=.seq (sQ [oM 46 14,oM 47 1,o 48 (.bin .lss (.t 46) (.t 47))] (.cond (.t 48) (.skip) (.exit 2))) (.seq (.blk 3 (.seq (sQ [oM 51 9,oM 52 14,oX 53 51 52,oL 54 53,o 55 (.bin .gtr (.t 54) (qI 0))] (.cond (.t 55) (sQ [oM 56 9,oM 57 14,oM 58 0,oM 59 9,oM 60 14,oX 61 59 60,oL 62 61,o 63 (.bin .mul (.t 58) (.t 62)),oM 64 10,o 65 (.bin .quo (.t 63) (.t 64)),oX 66 56 57,oz (.store 1 (.t 66) (.t 65))] (.ops [oM 67 14,oM 13 67])) (.skip))) pP)) qe)
def pH:SC:=sQ [oM 74 9,oM 75 13,oM 76 9,oM 77 13,oX 78 76 77,oL 79 78,oM 80 12,o 81 (.bin .add (.t 79) (.t 80)),oX 82 74 75,oz (.store 1 (.t 82) (.t 81))] (sQ [oM 83 9,oM 8 83] (.ret))
def qA:SC:=sQ [oM 45 0,oM 12 45,oK 13 0] (.seq (sQ [oK 14 0] (.blk 2 (.loop jV))) pH)
def qB:SF:=⟨84,[.tm 8],sQ [o 8 (.mv (.k (.nils)))] (sQ [oM 15 1,o 16 (.mks 1 8 [.int .i64 0] (.t 15) (.t 15)),oM 9 16] (sQ [oK 10 0] (.seq (sQ [oK 11 0] (.blk 0 (.loop jQ))) qA)))⟩
def qd:SC:=sQ [o 28 (.bin .lss (.t 27) (.t 26))] (.seq (.cond (.t 28) (.skip) (.exit 0)) (.seq (.blk 1 (sQ [oX 29 25 27,oL 30 29,oM 9 30] (sQ [o 31 (.load true 2 (.t 2)),oM 32 9,o 33 (.call N.bj [.t 31,.t 32]),oM 10 33] (sQ [oM 34 10,o 35 (.bin .neq (.t 34) (qI 0))] (.cond (.t 35) (sQ [o 36 (.build [.int .i64 0,.nils,.nils,.nils] [] []),oM 37 10,oz (.store 4 (.t 4) (.t 36)),oM 5 37] (.ret)) (.skip)))))) (.ops [oA 38 27,oM 27 38])))
def lj:SC:=.seq (sQ [oM 64 15,o 65 (.bin .geq (.t 64) (qI 0))] (.cond (.t 65) (.skip) (.exit 4))) (.seq (.blk 5 (.seq (.feet [0,1,0,7,15,0,32,0,224,480,0,2047,4095] [oF 68 3 11,oL 69 68,oM 70 12,oX 71 69 70,oL 72 71,oF 73 0 13,oL 74 73,oM 75 15,oX 76 74 75,oL 77 76,oM 78 14,oX 79 72 77,oz (.store 1 (.t 79) (.t 78))]) (.ops [oM 80 14,oF 81 1 13,oL 82 81,oM 83 15,oX 84 82 83,oL 85 84,o 86 (.bin .mul (.t 80) (.t 85)),oM 14 86]))) (.ops [oM 66 15,o 67 (.bin .sub (.t 66) (qI 1)),oM 15 67]))
def pK:SC:=.ops [oA 87 47,oM 47 87]
def kH:SC:=sQ [o 48 (.bin .lss (.t 47) (.t 46))] (.seq (.cond (.t 48) (.skip) (.exit 2)) (.seq (.blk 3 (sQ [oM 49 47,o 50 (.ixs 3 (.t 45) (.t 47)),o 51 (.load true 3 (.t 50)),o 13 (.alloc [.nils,.nils,.nils]),oM 12 49,oz (.store 3 (.t 13) (.t 51))] (.seq (.feet [0,1,0,0,8,24,56,127,255] [oF 52 3 11,oL 53 52,oM 54 12,oF 55 1 2,oL 56 55,oN 57 56,o 58 (.mks 1 8 [.int .i64 0] (.t 57) (.t 57)),oX 59 53 54,oz (.store 1 (.t 59) (.t 58))]) (sQ [oK 14 1] (sQ [oF 60 0 13,oL 61 60,oN 62 61,o 63 (.bin .sub (.t 62) (qI 1)),oM 15 63] (.blk 4 (.loop lj))))))) pK))
def pY:SC:=sQ [o 88 (.load true 4 (.t 11)),oz (.store 4 (.t 4) (.t 88)),oK 5 0] (.ret)
def pD:SC:=.seq (.feet [0,0,0,4,12,31,0,127] [o 39 (.load true 2 (.t 2)),oM 40 6,oM 41 6,oN 42 41,o 43 (.mks 1 24 [.nils] (.t 42) (.t 42)),o 44 (.build [.int .i64 0,.nils,.nils,.nils] [(0,2),(2,1),(3,1)] [.t 39,.t 40,.t 43]),o 11 (.alloc [.int .i64 0,.nils,.nils,.nils]),oz (.store 4 (.t 11) (.t 44))]) (.seq (sQ [oM 45 6,oN 46 45,oK 47 0] (.blk 2 (.loop kH))) pY)
def rL:SC:=sQ [o 17 (.load true 2 (.t 2)),o 18 (.call N.bA [.t 17]),oM 16 18,o 19 (.ext (.t 16) 0),o 20 (.ext (.t 16) 1),oM 6 19,oM 7 20] (.seq (sQ [oM 21 7,o 22 (.bin .neq (.t 21) (qI 0))] (.cond (.t 22) (sQ [o 23 (.build [.int .i64 0,.nils,.nils,.nils] [] []),oM 24 7,oz (.store 4 (.t 4) (.t 23)),oM 5 24] (.ret)) (.skip))) (.seq (sQ [oM 25 1,oN 26 25,oK 27 0] (.blk 0 (.loop qd))) pD))
def pu:SF:=⟨89,[.cell true 4 4,.tm 5],sQ [o 2 (.box (.t 0)),o 4 (.alloc [.int .i64 0,.nils,.nils,.nils]),oK 5 0] rL⟩
def d9:SC:=sQ [o 5 (.mkf N.ac [] [.t 2,.t 3]),oM 4 5] (.ret)
def cD:SF:=⟨6,[.tm 4],sQ [o 2 (.box (.t 0)),o 3 (.box (.t 1)),o 4 (.mv (.k (.nilf)))] d9⟩
def eK:SC:=.ops [oA 33 12,oM 12 33]
def eA:SC:=sQ [o 13 (.bin .lss (.t 12) (.t 11))] (.seq (.cond (.t 13) (.skip) (.exit 0)) (.seq (.blk 1 (sQ [oM 14 12,oX 15 10 12,oL 16 15,oM 8 14,oM 9 16] (sQ [oM 17 2,oM 18 8,o 19 (.bin .shr (.t 17) (.t 18)),o 20 (.bin .and (.t 19) (.k (.int .u64 1))),o 21 (.bin .eql (.t 20) (.k (.int .u64 1)))] (.cond (.t 21) (.ops [oM 22 7,oF 23 0 3,oF 24 1 23,oL 25 24,oM 26 8,o 27 (.ixs 3 (.t 25) (.t 26)),oF 28 0 27,oL 29 28,o 30 (.bin .mul (.t 22) (.t 29)),oM 31 9,o 32 (.bin .add (.t 30) (.t 31)),oM 7 32]) (.skip))))) eK))
def eh:SC:=sQ [oM 34 7,oM 6 34] (.ret)
def ff:SC:=sQ [oK 7 0] (.seq (sQ [oM 10 1,oN 11 10,oK 12 0] (.blk 0 (.loop eA))) eh)
def dF:SF:=⟨35,[.tm 6],sQ [o 3 (.box (.t 0)),oK 6 0] ff⟩
def iI:SF:=⟨51,[.tm 4,.tm 5],sQ [o 4 (.mv (.k (.int .u64 0))),o 5 (.mv (.k (.int .u64 0)))] (sQ [oM 14 0,o 15 (.bin .and (.t 14) (.k (.int .u64 4294967295))),oM 6 15] (sQ [oM 16 0,o 17 (.bin .shr (.t 16) (.k (.int .u64 32))),oM 7 17] (sQ [oM 18 1,o 19 (.bin .and (.t 18) (.k (.int .u64 4294967295))),oM 8 19] (sQ [oM 20 1,o 21 (.bin .shr (.t 20) (.k (.int .u64 32))),oM 9 21] (sQ [oM 22 6,oM 23 8,o 24 (.bin .mul (.t 22) (.t 23)),oM 10 24] (sQ [oM 25 7,oM 26 8,o 27 (.bin .mul (.t 25) (.t 26)),oM 28 10,o 29 (.bin .shr (.t 28) (.k (.int .u64 32))),o 30 (.bin .add (.t 27) (.t 29)),oM 11 30] (sQ [oM 31 11,o 32 (.bin .and (.t 31) (.k (.int .u64 4294967295))),oM 12 32] (sQ [oM 33 11,o 34 (.bin .shr (.t 33) (.k (.int .u64 32))),oM 13 34] (sQ [oM 35 12,oM 36 6,oM 37 9,o 38 (.bin .mul (.t 36) (.t 37)),o 39 (.bin .add (.t 35) (.t 38)),oM 12 39] (sQ [oM 40 7,oM 41 9,o 42 (.bin .mul (.t 40) (.t 41)),oM 43 13,o 44 (.bin .add (.t 42) (.t 43)),oM 45 12,o 46 (.bin .shr (.t 45) (.k (.int .u64 32))),o 47 (.bin .add (.t 44) (.t 46)),oM 4 47] (sQ [oM 48 0,oM 49 1,o 50 (.bin .mul (.t 48) (.t 49)),oM 5 50] (.ret))))))))))))⟩
def lf:SF:=⟨30,[.tm 4,.tm 5],sQ [o 4 (.mv (.k (.int .u64 0))),o 5 (.mv (.k (.int .u64 0)))] (.seq (.cond (.k (.bool false)) (sQ [oM 11 0,o 12 (.conv .u32 (.t 11)),oM 13 1,o 14 (.conv .u32 (.t 13)),o 15 (.call N.bN [.t 12,.t 14]),oM 10 15,o 16 (.ext (.t 10) 0),o 17 (.ext (.t 10) 1),oM 6 16,oM 7 17] (sQ [oM 18 6,o 19 (.conv .u64 (.t 18)),oM 20 7,o 21 (.conv .u64 (.t 20)),oM 4 19,oM 5 21] (.ret))) (.skip)) (sQ [oM 23 0,oM 24 1,o 25 (.call N.an [.t 23,.t 24]),oM 22 25,o 26 (.ext (.t 22) 0),o 27 (.ext (.t 22) 1),oM 8 26,oM 9 27] (sQ [oM 28 8,oM 29 9,oM 4 28,oM 5 29] (.ret))))⟩
def dv:SC:=.ops [o 8 (.alloc [.int .i64 0,.int .i64 0,.nils]),oz (.store 3 (.t 8) (.t 15))]
def bK:SC:=sQ [o 24 (.bin .lss (.t 23) (.t 22))] (.seq (.cond (.t 24) (.skip) (.exit 2)) (.seq (.blk 3 (sQ [oM 25 23,oX 26 21 23,oL 27 26,oM 9 25,oM 10 27] (.feet [0,0,0,6,15,0,32,127,111,367,1023] [oL 28 6,oM 29 9,oM 30 10,o 31 (.build [.int .i64 0,.int .i64 0] [(0,1),(1,1)] [.t 29,.t 30]),o 32 (.raw (.lookup 183 (.tmp 28) (.tmp 31) false)),oF 33 1 8,oL 34 33,o 35 (.bin .add (.t 32) (.t 34)),o 36 (.raw (.mapEntry 183 (.tmp 28) (.tmp 31))),o 37 (.ext (.t 36) 1),oz (.raw (.entryStore 183 (.tmp 28) (.tmp 37) (.tmp 35)))]))) (.ops [oA 38 23,oM 23 38])))
def dj:SC:=.blk 1 (sQ [oL 16 7,oF 17 1 8,oL 18 17,o 19 (.bin .add (.t 16) (.t 18)),oz (.store 1 (.t 7) (.t 19))] (sQ [oF 20 2 8,oL 21 20,oN 22 21,oK 23 0] (.blk 2 (.loop bK))))
def bM:SC:=.seq (sQ [oL 39 7,o 40 (.bin .eql (.t 39) (qI 0))] (.cond (.t 40) (sQ [o 4 (.mv (.k (.nilf))),oK 5 7] (.ret)) (.skip))) (sQ [o 41 (.mkf N.aI [] [.t 2,.t 6,.t 7]),oM 4 41,oK 5 0] (.ret))
def dG:SC:=sQ [o 11 (.raw (.makeMap 183 none)),o 6 (.alloc [.nilm]),o 7 (.alloc [.int .i64 0]),oz (.store 1 (.t 6) (.t 11)),oz (.store 1 (.t 7) (qI 0))] (.seq (sQ [o 12 (.load true 4 (.t 2)),oM 13 1,o 14 (.call N.aq [.t 12,.t 13])] (.blk 0 (.rng 42 (.t 14) [15] dv dj))) bM)
def cd:SF:=⟨42,[.tm 4,.tm 5],sQ [o 2 (.box (.t 0)),o 4 (.mv (.k (.nilf))),oK 5 0] dG⟩
def fK:SC:=.ops [o 6 (.alloc [.int .i64 0,.int .i64 0,.nils]),oz (.store 3 (.t 6) (.t 10))]
def fF:SC:=.blk 1 (.ops [oL 11 5,oF 12 1 6,oL 13 12,o 14 (.bin .add (.t 11) (.t 13)),oz (.store 1 (.t 5) (.t 14))])
def fC:SC:=sQ [oL 15 5,oM 4 15] (.ret)
def gk:SC:=sQ [o 5 (.alloc [.int .i64 0]),oz (.store 1 (.t 5) (qI 0))] (.seq (sQ [o 7 (.load true 4 (.t 2)),oM 8 1,o 9 (.call N.aq [.t 7,.t 8])] (.blk 0 (.rng 16 (.t 9) [10] fK fF))) fC)
def dZ:SF:=⟨16,[.tm 4],sQ [o 2 (.box (.t 0)),oK 4 0] gk⟩
def jZ:SC:=sQ [o 11 (.bin .lss (.t 10) (.t 9))] (.seq (.cond (.t 11) (.skip) (.exit 0)) (.seq (.blk 1 (sQ [oM 12 10,oX 13 8 10,oL 14 13,oM 6 12,oM 7 14] (sQ [oM 15 7] (.blk 2 (.seq (sQ [o 17 (.bin .eql (.t 15) (qI (-1))),oM 16 17] (.cond (.t 16) (.skip) (.ops [oM 18 0,oM 19 6,oX 20 18 19,oL 21 20,o 22 (.bin .eql (.t 15) (.t 21)),oM 16 22]))) (.cond (.t 16) (.skip) (sQ [o 5 (.mv (.k (.bool false)))] (.exit 0)))))))) (.ops [oA 23 10,oM 10 23])))
def fY:SC:=sQ [oM 24 5,oM 4 24] (.ret)
def jn:SF:=⟨25,[.tm 4],sQ [o 4 (.mv (.k (.bool false)))] (sQ [o 5 (.mv (.k (.bool true)))] (.seq (.skip) (.seq (sQ [oM 8 1,oN 9 8,oK 10 0] (.blk 0 (.loop jZ))) fY)))⟩
def jC:SC:=sQ [o 6 (.load true 2 (.t 3)),o 7 (.load true 2 (.t 2)),o 8 (.eq false (.flat [.int .i64,.int .i64]) (.t 6) (.t 7)),oM 9 8,og 10 9 true (.mv (.t 1)),og 11 9 true (.bin .eql (.t 10) (qI 0)),o 12 (.pick (.t 9) (.t 11) (.k (.bool false))),oM 5 12] (.ret)
def gI:SF:=⟨13,[.tm 5],sQ [o 3 (.box (.t 0)),o 5 (.mv (.k (.bool false)))] jC⟩
def qj:SC:=sQ [oM 8 0,oM 9 1,o 10 (.call N.an [.t 8,.t 9]),oM 7 10,o 11 (.ext (.t 7) 0),o 12 (.ext (.t 7) 1),oM 5 11,oM 6 12] (sQ [oM 13 5,oM 14 6,o 15 (.build [.int .u64 0,.int .u64 0] [(0,1),(1,1)] [.t 13,.t 14]),oz (.store 2 (.t 4) (.t 15))] (.ret))
def nK:SF:=⟨16,[.cell true 2 4],sQ [o 4 (.alloc [.int .u64 0,.int .u64 0])] qj⟩
def pF:SF:=⟨10,[.tm 2],sQ [o 2 (.mv (.k (.int .u64 0)))] (.seq (sQ [oM 3 0,o 4 (.bin .lss (.t 3) (qI 0))] (.cond (.t 4) (sQ [oM 5 0,o 6 (.conv .u64 (.t 5)),o 7 (.un .neg (.t 6)),oM 2 7] (.ret)) (.skip))) (sQ [oM 8 0,o 9 (.conv .u64 (.t 8)),oM 2 9] (.ret)))⟩
def kW:SC:=.seq (sQ [o 9 (.load true 2 (.t 3)),o 10 (.call N.aF [.t 9]),o 11 (.bin .neq (.t 10) (qI 0)),oM 12 11,og 13 12 false (.load true 2 (.t 4)),og 14 12 false (.call N.aF [.t 13]),og 15 12 false (.bin .neq (.t 14) (qI 0)),o 16 (.pick (.t 12) (.k (.bool true)) (.t 15))] (.cond (.t 16) (sQ [o 8 (.alloc [.int .i64 0,.int .i64 0])] (sQ [o 17 (.load true 2 (.t 8)),oz (.store 2 (.t 6) (.t 17)),oK 7 5] (.ret))) (.skip))) (sQ [o 18 (.mkf N.bh [] [.t 5,.t 3,.t 4]),o 19 (.call N.aL [.t 18]),o 20 (.ext (.t 19) 0),o 21 (.ext (.t 19) 1),oz (.store 2 (.t 6) (.t 20)),oM 7 21] (.ret))
def iA:SF:=⟨22,[.cell true 2 6,.tm 7],sQ [o 3 (.box (.t 0)),o 4 (.box (.t 1)),o 5 (.box (.t 2)),o 6 (.alloc [.int .i64 0,.int .i64 0]),oK 7 0] kW⟩
def mA:SC:=sQ [o 51 (.bin .lss (.t 50) (.t 49))] (.seq (.cond (.t 51) (.skip) (.exit 0)) (.seq (.blk 1 (sQ [oM 52 50,o 53 (.ixs 3 (.t 48) (.t 50)),o 54 (.load true 3 (.t 53)),o 7 (.alloc [.int .i64 0,.nils,.nils]),oM 6 52,oz (.store 3 (.t 7) (.t 54))] (.seq (sQ [oF 55 0 7,oL 56 55,o 57 (.bin .lss (.t 56) (qI 1)),oM 58 57,og 59 58 false (.fad 0 (.t 7)),og 60 58 false (.load false 1 (.t 59)),og 61 58 false (.bin .gtr (.t 60) (qI 4)),o 62 (.pick (.t 58) (.k (.bool true)) (.t 61))] (.cond (.t 62) (sQ [o 63 (.build [.int .i64 0,.nils,.nils,.nils,.nils] [] []),oz (.store 5 (.t 2) (.t 63)),oK 3 50] (.ret)) (.skip))) (sQ [oF 64 2 4,oL 65 64,oM 66 6,oF 67 0 7,oL 68 67,oX 69 65 66,oz (.store 1 (.t 69) (.t 68))] (.ops [oM 70 5,oF 71 0 7,oL 72 71,o 73 (.bin .mul (.t 70) (.t 72)),oM 5 73]))))) (.ops [oA 74 50,oM 50 74])))
def mz:SC:=sQ [o 91 (.bin .lss (.t 90) (.t 89))] (.seq (.cond (.t 91) (.skip) (.exit 4)) (.seq (.blk 5 (sQ [oX 92 88 90,oL 93 92,oM 12 93] (.seq (sQ [oM 94 12,oM 95 10,o 96 (.bin .leq (.t 94) (.t 95)),oM 97 96,og 98 97 false (.mv (.t 12)),og 99 97 false (.fad 0 (.t 4)),og 100 97 false (.fad 1 (.t 99)),og 101 97 false (.load false 1 (.t 100)),og 102 97 false (.len .slice (.t 101)),og 103 97 false (.bin .geq (.t 98) (.t 102)),o 104 (.pick (.t 97) (.k (.bool true)) (.t 103)),oM 105 104,og 106 105 false (.mv (.t 12)),og 107 105 false (.mv (.t 8)),og 108 105 false (.bin .eql (.t 106) (.t 107)),o 109 (.pick (.t 105) (.k (.bool true)) (.t 108))] (.cond (.t 109) (sQ [o 110 (.build [.int .i64 0,.nils,.nils,.nils,.nils] [] []),oz (.store 5 (.t 2) (.t 110)),oK 3 50] (.ret)) (.skip))) (sQ [oM 111 12,oM 10 111] (.feet [0,1,0,7,15,0,32,127,255,511] [oF 112 3 4,oL 113 112,oM 114 8,oX 115 113 114,oL 116 115,oM 117 12,o 118 (.bin .shl (.k (.int .u64 1)) (.t 117)),o 119 (.bin .or (.t 116) (.t 118)),oX 120 113 114,oz (.store 1 (.t 120) (.t 119))]))))) (.ops [oA 121 90,oM 90 121])))
def mE:SC:=sQ [o 122 (.load true 5 (.t 4)),o 123 (.load true 3 (.t 9)),o 124 (.call N.aV [.t 122,.t 123]),o 125 (.not (.t 124))] (.cond (.t 125) (sQ [o 126 (.build [.int .i64 0,.nils,.nils,.nils,.nils] [] []),oz (.store 5 (.t 2) (.t 126)),oK 3 50] (.ret)) (.skip))
def rT:SC:=.ops [oA 127 82,oM 82 127]
def mj:SC:=sQ [o 83 (.bin .lss (.t 82) (.t 81))] (.seq (.cond (.t 83) (.skip) (.exit 2)) (.seq (.blk 3 (sQ [oM 84 82,o 85 (.ixs 3 (.t 80) (.t 82)),o 86 (.load true 3 (.t 85)),o 9 (.alloc [.int .i64 0,.nils,.nils]),oM 8 84,oz (.store 3 (.t 9) (.t 86))] (sQ [oK 10 (-1)] (.seq (sQ [oF 87 1 9,oL 88 87,oN 89 88,oK 90 0] (.blk 4 (.loop mz))) mE)))) rT))
def mw:SC:=sQ [oF 129 3 4,oL 130 129,o 131 (.call N.bG [.t 130]),oM 128 131,o 132 (.ext (.t 128) 0),o 133 (.ext (.t 128) 1),oM 13 132,oM 14 133] (.seq (sQ [oM 134 14,o 135 (.not (.t 134))] (.cond (.t 135) (sQ [o 136 (.build [.int .i64 0,.nils,.nils,.nils,.nils] [] []),oz (.store 5 (.t 2) (.t 136)),oK 3 50] (.ret)) (.skip))) (sQ [oM 137 13,oF 138 4 4,oz (.store 1 (.t 138) (.t 137))] (sQ [o 139 (.load true 5 (.t 4)),oz (.store 5 (.t 2) (.t 139)),oK 3 0] (.ret))))
def rI:SC:=.seq (sQ [oM 75 5,o 76 (.bin .gtr (.t 75) (qI 1024))] (.cond (.t 76) (sQ [o 77 (.build [.int .i64 0,.nils,.nils,.nils,.nils] [] []),oz (.store 5 (.t 2) (.t 77)),oK 3 50] (.ret)) (.skip))) (.seq (sQ [oF 78 0 4,oF 79 1 78,oL 80 79,oN 81 80,oK 82 0] (.blk 2 (.loop mj))) mw)
def tM:SC:=.seq (sQ [oF 15 0 1,oL 16 15,o 17 (.bin .lss (.t 16) (qI 1)),oM 18 17,og 19 18 false (.fad 0 (.t 1)),og 20 18 false (.load false 1 (.t 19)),og 21 18 false (.bin .gtr (.t 20) (qI 60)),o 22 (.pick (.t 18) (.k (.bool true)) (.t 21)),oM 23 22,og 24 23 false (.fad 1 (.t 1)),og 25 23 false (.load false 1 (.t 24)),og 26 23 false (.len .slice (.t 25)),og 27 23 false (.bin .lss (.t 26) (qI 1)),o 28 (.pick (.t 23) (.k (.bool true)) (.t 27)),oM 29 28,og 30 29 false (.fad 1 (.t 1)),og 31 29 false (.load false 1 (.t 30)),og 32 29 false (.len .slice (.t 31)),og 33 29 false (.bin .gtr (.t 32) (qI 8)),o 34 (.pick (.t 29) (.k (.bool true)) (.t 33))] (.cond (.t 34) (sQ [o 35 (.build [.int .i64 0,.nils,.nils,.nils,.nils] [] []),oz (.store 5 (.t 2) (.t 35)),oK 3 50] (.ret)) (.skip))) (.seq (.feet [0,0,2,6,14,0,32,96,224,511,0,2047] [o 36 (.load true 2 (.t 1)),oF 37 1 1,oL 38 37,oN 39 38,o 40 (.mks 1 8 [.int .i64 0] (.t 39) (.t 39)),oF 41 1 1,oL 42 41,oN 43 42,o 44 (.mks 1 8 [.int .u64 0] (.t 43) (.t 43)),o 45 (.build [.int .i64 0,.nils,.nils,.nils,.nils] [(0,2),(2,1),(3,1)] [.t 36,.t 40,.t 44]),o 4 (.alloc [.int .i64 0,.nils,.nils,.nils,.nils]),oz (.store 5 (.t 4) (.t 45))]) (sQ [oK 5 1] (.seq (sQ [oF 46 0 4,oF 47 1 46,oL 48 47,oN 49 48,oK 50 0] (.blk 0 (.loop mA))) rI)))
def ld:SF:=⟨140,[.cell true 5 2,.tm 3],sQ [o 1 (.box (.t 0)),o 2 (.alloc [.int .i64 0,.nils,.nils,.nils,.nils]),oK 3 0] tM⟩
def jz:SC:=sQ [o 4 (.mkf N.aW [] [.t 2,.t 3]),oz (.raw (.defer ⟨.value (.tmp 4),#[],#[]⟩))] (sQ [oM 5 0,o 6 (.dyn (.t 5) []),oz (.store 2 (.t 2) (.t 6)),oz (.store 1 (.t 3) (qI 0))] (.ret))
def gR:SF:=⟨7,[.cell true 2 2,.cell false 1 3],sQ [o 2 (.alloc [.int .i64 0,.int .i64 0]),o 3 (.alloc [.int .i64 0])] jz⟩
def oP:SC:=.seq (.quiet [oL 4 0,o 5 (.call N.aa [.t 4]),oL 6 1,o 7 (.call N.aa [.t 6]),o 8 (.call N.af [.t 5,.t 7]),oM 3 8]) (.seq (.feet [0,1,0,4,15,0,32,0,224,480,0,1120,0,7264,15456,32767,65535] [oL 9 0,o 10 (.bin .lss (.t 9) (qI 0)),oL 11 1,o 12 (.bin .lss (.t 11) (qI 0)),o 13 (.eq true .bool (.t 10) (.t 12)),oL 14 0,o 15 (.call N.aa [.t 14]),oM 16 3,o 17 (.bin .quo (.t 15) (.t 16)),o 18 (.build [.int .u64 0,.int .u64 0] [(0,1),(1,1)] [.k (.int .u64 0),.t 17]),oL 19 1,o 20 (.call N.aa [.t 19]),oM 21 3,o 22 (.bin .quo (.t 20) (.t 21)),o 23 (.build [.int .u64 0,.int .u64 0] [(0,1),(1,1)] [.k (.int .u64 0),.t 22]),o 24 (.call N.ak [.t 13,.t 18,.t 23]),oz (.store 2 (.t 2) (.t 24))]) (.ret))
def mi:SF:=⟨25,[.cell true 2 2],sQ [o 2 (.alloc [.int .i64 0,.int .i64 0])] oP⟩
def mN:SC:=.seq (sQ [oM 5 1,o 6 (.bin .neq (.t 5) (.k (.int .u64 0)))] (.cond (.t 6) (.skip) (.exit 0))) (.blk 1 (.quiet [oM 7 1,oM 8 0,oM 9 1,o 10 (.bin .rem (.t 8) (.t 9)),oM 0 7,oM 1 10]))
def nc:SC:=sQ [oM 11 0,oM 4 11] (.ret)
def lY:SF:=⟨12,[.tm 4],sQ [o 4 (.mv (.k (.int .u64 0)))] (.seq (.blk 0 (.loop mN)) nc)⟩
def rF:SC:=.seq (sQ [oM 27 0] (.cond (.t 27) (sQ [o 28 (.ixa 2 1 (.t 4) (qI 1)),oL 29 28,o 30 (.conv .i64 (.t 29)),o 31 (.un .neg (.t 30)),o 32 (.ixa 2 1 (.t 5) (qI 1)),oL 33 32,o 34 (.conv .i64 (.t 33)),o 35 (.build [.int .i64 0,.int .i64 0] [(0,1),(1,1)] [.t 31,.t 34]),oz (.store 2 (.t 6) (.t 35))] (.ret)) (.skip))) (sQ [o 36 (.ixa 2 1 (.t 4) (qI 1)),oL 37 36,o 38 (.conv .i64 (.t 37)),o 39 (.ixa 2 1 (.t 5) (qI 1)),oL 40 39,o 41 (.conv .i64 (.t 40)),o 42 (.build [.int .i64 0,.int .i64 0] [(0,1),(1,1)] [.t 38,.t 41]),oz (.store 2 (.t 6) (.t 42))] (.ret))
def tE:SC:=.seq (sQ [o 7 (.ixa 2 1 (.t 4) (qI 0)),oL 8 7,o 9 (.bin .neq (.t 8) (.k (.int .u64 0))),oM 10 9,og 11 10 false (.ixa 2 1 (.t 4) (qI 1)),og 12 10 false (.load false 1 (.t 11)),og 13 10 false (.bin .gtr (.t 12) (.k (.int .u64 4611686018427387903))),o 14 (.pick (.t 10) (.k (.bool true)) (.t 13)),oM 15 14,og 16 15 false (.ixa 2 1 (.t 5) (qI 0)),og 17 15 false (.load false 1 (.t 16)),og 18 15 false (.bin .neq (.t 17) (.k (.int .u64 0))),o 19 (.pick (.t 15) (.k (.bool true)) (.t 18)),oM 20 19,og 21 20 false (.ixa 2 1 (.t 5) (qI 1)),og 22 20 false (.load false 1 (.t 21)),og 23 20 false (.bin .gtr (.t 22) (.k (.int .u64 4611686018427387903))),o 24 (.pick (.t 20) (.k (.bool true)) (.t 23))] (.cond (.t 24) (.ops [o 25 (.build [] [] []),o 26 (.raw (.makeInterface 199 (.tmp 25))),oz (.raw (.panic (.tmp 26)))]) (.skip))) rF
def sM:SF:=⟨43,[.cell true 2 6],sQ [o 4 (.box (.t 1)),o 5 (.box (.t 2)),o 6 (.alloc [.int .i64 0,.int .i64 0])] tE⟩
def tA:SC:=sQ [o 6 (.load true 2 (.t 2)),o 7 (.load true 2 (.t 3)),o 8 (.call N.aK [.t 6,.t 7,.k (.clo 117 [] [])]),o 9 (.ext (.t 8) 0),o 10 (.ext (.t 8) 1),oz (.store 2 (.t 4) (.t 9)),oM 5 10] (.ret)
def sS:SF:=⟨11,[.cell true 2 4,.tm 5],sQ [o 2 (.box (.t 0)),o 3 (.box (.t 1)),o 4 (.alloc [.int .i64 0,.int .i64 0]),oK 5 0] tA⟩
def mq:SF:=⟨13,[.tm 5],sQ [o 5 (.mv (.k (.bool false)))] (sQ [oM 6 1,o 7 (.bin .eql (.t 6) (qI 0)),oM 8 7,og 9 8 true (.mv (.t 0)),og 10 8 true (.load false 1 (.t 2)),og 11 8 true (.call N.bu [.t 9,.t 10]),o 12 (.pick (.t 8) (.t 11) (.k (.bool false))),oM 5 12] (.ret))⟩
def d8:SC:=sQ [o 14 (.bin .lss (.t 13) (.t 12))] (.seq (.cond (.t 14) (.skip) (.exit 0)) (.seq (.blk 1 (sQ [oM 15 13,oM 5 15] (.seq (.quiet [oM 16 0,oM 17 5,o 18 (.ixs 2 (.t 16) (.t 17)),o 19 (.load true 2 (.t 18)),oM 20 1,oM 21 5,o 22 (.ixs 2 (.t 20) (.t 21)),o 23 (.load true 2 (.t 22)),o 24 (.eq true (.flat [.int .i64,.int .i64]) (.t 19) (.t 23))]) (.cond (.t 24) (sQ [o 4 (.mv (.k (.bool false)))] (.ret)) (.skip))))) (.ops [oA 25 13,oM 13 25])))
def d7:SC:=sQ [o 4 (.mv (.k (.bool true)))] (.ret)
def cX:SF:=⟨26,[.tm 4],sQ [o 4 (.mv (.k (.bool false)))] (.seq (sQ [oM 6 0,oN 7 6,oM 8 1,oN 9 8,o 10 (.bin .neq (.t 7) (.t 9))] (.cond (.t 10) (sQ [o 4 (.mv (.k (.bool false)))] (.ret)) (.skip))) (.seq (sQ [oM 11 0,oN 12 11,oK 13 0] (.blk 0 (.loop d8))) d7))⟩
def nN:SC:=.seq (sQ [oM 5 4,oF 6 0 1,oL 7 6,oN 8 7,o 9 (.bin .lss (.t 5) (.t 8)),oM 10 9,og 11 10 true (.mv (.t 4)),og 12 10 true (.bin .lss (.t 11) (qI 5)),o 13 (.pick (.t 10) (.t 12) (.k (.bool false)))] (.cond (.t 13) (.skip) (.exit 0))) (.seq (.blk 1 (.ops [oM 16 3,oF 17 0 1,oL 18 17,oM 19 4,oX 20 18 19,oL 21 20,o 22 (.bin .rem (.t 21) (.k (.int .u8 4))),o 23 (.conv .i64 (.t 22)),o 24 (.bin .add (qI 1) (.t 23)),o 25 (.bsl 1 1 [.int .i64 0] [0] [.t 24]),o 26 (.app 1 8 (.t 16) (.t 25)),oM 3 26])) (.ops [oM 14 4,oA 15 14,oM 4 15]))
def gD:SC:=sQ [oM 27 3,oM 2 27] (.ret)
def ib:SC:=sQ [o 3 (.mv (.k (.nils)))] (.seq (sQ [oK 4 0] (.blk 0 (.loop nN))) gD)
def fw:SF:=⟨28,[.tm 2],sQ [o 1 (.box (.t 0)),o 2 (.mv (.k (.nils)))] ib⟩
def yj:SC:=.seq (sQ [oM 7 6,oM 8 1,oN 9 8,o 10 (.bin .lss (.t 7) (.t 9))] (.cond (.t 10) (.skip) (.exit 0))) (.seq (.blk 1 (.ops [oM 13 5,oM 14 0,oM 15 1,oM 16 6,oX 17 15 16,oL 18 17,oX 19 14 18,oL 20 19,o 21 (.bsl 1 1 [.int .i64 0] [0] [.t 20]),o 22 (.app 1 8 (.t 13) (.t 21)),oM 5 22])) (.ops [oM 11 6,oA 12 11,oM 6 12]))
def rC:SC:=sQ [oM 23 5,oM 4 23] (.ret)
def sE:SF:=⟨24,[.tm 4],sQ [o 4 (.mv (.k (.nils)))] (sQ [o 5 (.mv (.k (.nils)))] (.seq (sQ [oK 6 0] (.blk 0 (.loop yj))) rC))⟩
def mO:SC:=.seq (sQ [oM 5 4,oF 6 1 1,oL 7 6,oN 8 7,o 9 (.bin .lss (.t 5) (.t 8))] (.cond (.t 9) (.skip) (.exit 0))) (.seq (.blk 1 (.ops [oM 12 3,oF 13 1 1,oL 14 13,oM 15 4,o 16 (.ixs 3 (.t 14) (.t 15)),oF 17 0 16,oL 18 17,o 19 (.bsl 1 1 [.int .i64 0] [0] [.t 18]),o 20 (.app 1 8 (.t 12) (.t 19)),oM 3 20])) (.ops [oM 10 4,oA 11 10,oM 4 11]))
def mX:SC:=sQ [oM 21 3,oM 2 21] (.ret)
def oG:SC:=sQ [o 3 (.mv (.k (.nils)))] (.seq (sQ [oK 4 0] (.blk 0 (.loop mO))) mX)
def lZ:SF:=⟨22,[.tm 2],sQ [o 1 (.box (.t 0)),o 2 (.mv (.k (.nils)))] oG⟩
def nA:SC:=sQ [o 24 (.bin .lss (.t 23) (.t 22))] (.seq (.cond (.t 24) (.skip) (.exit 0)) (.seq (.blk 1 (sQ [oM 25 23,oM 7 25] (.ops [oM 26 6,oM 27 7,o 28 (.load true 5 (.t 4)),oM 29 7,o 30 (.call N.br [.t 28,.t 29]),o 31 (.ixs 3 (.t 26) (.t 27)),oz (.store 3 (.t 31) (.t 30))]))) (.ops [oA 32 23,oM 23 32])))
def m_:SC:=sQ [oM 33 6,oM 2 33,oK 3 0] (.ret)
def oT:SC:=sQ [o 9 (.load true 2 (.t 1)),o 10 (.call N.a_ [.t 9]),oM 8 10,o 11 (.ext (.t 8) 0),o 12 (.ext (.t 8) 1),o 4 (.alloc [.int .i64 0,.nils,.nils,.nils,.nils]),oz (.store 5 (.t 4) (.t 11)),oM 5 12] (.seq (sQ [oM 13 5,o 14 (.bin .neq (.t 13) (qI 0))] (.cond (.t 14) (sQ [oM 15 5,o 2 (.mv (.k (.nils))),oM 3 15] (.ret)) (.skip))) (sQ [oF 16 0 4,oF 17 1 16,oL 18 17,oN 19 18,o 20 (.mks 3 72 [.nils,.nils,.nils] (.t 19) (.t 19)),oM 6 20] (.seq (sQ [oM 21 6,oN 22 21,oK 23 0] (.blk 0 (.loop nA))) m_)))
def mh:SF:=⟨34,[.tm 2,.tm 3],sQ [o 1 (.box (.t 0)),o 2 (.mv (.k (.nils))),oK 3 0] oT⟩
def gQ:SC:=sQ [o 27 (.bin .lss (.t 26) (.t 25))] (.seq (.cond (.t 27) (.skip) (.exit 0)) (.seq (.blk 1 (sQ [oM 28 26,oX 29 24 26,oL 30 29,oM 7 28,oM 8 30] (sQ [oM 31 8,o 32 (.bin .lss (.t 31) (qI (-1))),oM 33 32,og 34 33 false (.mv (.t 8)),og 35 33 false (.fad 2 (.t 5)),og 36 33 false (.load false 1 (.t 35)),og 37 33 false (.mv (.t 7)),og 38 33 false (.ixs 1 (.t 36) (.t 37)),og 39 33 false (.load false 1 (.t 38)),og 40 33 false (.bin .geq (.t 34) (.t 39)),o 41 (.pick (.t 33) (.k (.bool true)) (.t 40))] (.cond (.t 41) (sQ [oK 4 2] (.ret)) (.skip))))) (.ops [oA 42 26,oM 26 42])))
def gH:SC:=sQ [oK 4 0] (.ret)
def ie:SC:=sQ [o 10 (.load true 2 (.t 2)),o 11 (.call N.a_ [.t 10]),oM 9 11,o 12 (.ext (.t 9) 0),o 13 (.ext (.t 9) 1),o 5 (.alloc [.int .i64 0,.nils,.nils,.nils,.nils]),oz (.store 5 (.t 5) (.t 12)),oM 6 13] (.seq (sQ [oM 14 6,o 15 (.bin .neq (.t 14) (qI 0))] (.cond (.t 15) (sQ [oM 16 6,oM 4 16] (.ret)) (.skip))) (.seq (sQ [oM 17 1,oN 18 17,oF 19 0 5,oF 20 1 19,oL 21 20,oN 22 21,o 23 (.bin .neq (.t 18) (.t 22))] (.cond (.t 23) (sQ [oK 4 2] (.ret)) (.skip))) (.seq (sQ [oM 24 1,oN 25 24,oK 26 0] (.blk 0 (.loop gQ))) gH)))
def fu:SF:=⟨43,[.tm 4],sQ [o 2 (.box (.t 0)),oK 4 0] ie⟩
def bi:SC:=.seq (.seq (.quiet [oM 31 6,o 32 (.bin .geq (.t 31) (qI 0)),oM 33 32,og 34 33 true (.mv (.t 4)),og 35 33 true (.mv (.t 6)),og 36 33 true (.ixs 1 (.t 34) (.t 35)),og 37 33 true (.load false 1 (.t 36)),og 38 33 true (.fad 0 (.t 1)),og 39 33 true (.fad 1 (.t 38)),og 40 33 true (.load false 1 (.t 39)),og 41 33 true (.mv (.t 6)),og 42 33 true (.ixs 3 (.t 40) (.t 41)),og 43 33 true (.fad 0 (.t 42)),og 44 33 true (.load false 1 (.t 43)),og 45 33 true (.bin .sub (.t 44) (qI 1)),og 46 33 true (.bin .eql (.t 37) (.t 45)),o 47 (.pick (.t 33) (.t 46) (.k (.bool false)))]) (.cond (.t 47) (.skip) (.exit 2))) (.blk 3 (sQ [oM 48 4,oM 49 6,oX 50 48 49,oz (.store 1 (.t 50) (qI 0))] (.ops [oM 51 6,o 52 (.bin .sub (.t 51) (qI 1)),oM 6 52])))
def bg:SC:=.seq (sQ [oM 53 6,o 54 (.bin .lss (.t 53) (qI 0))] (.cond (.t 54) (.ret) (.skip))) (.ops [oM 55 4,oM 56 6,oX 57 55 56,oL 58 57,oA 59 58,oX 60 55 56,oz (.store 1 (.t 60) (.t 59))])
def bG:SC:=.ops [oM 12 5,oA 13 12,oM 5 13]
def dm:SC:=.seq (.blk 1 (.seq (sQ [oM 14 4,oL 15 2,o 16 (.call N.aZ [.t 14,.t 15]),oM 17 16,og 18 17 true (.mv (.t 0)),og 19 17 true (.mv (.t 5)),og 20 17 true (.load true 4 (.t 1)),og 21 17 true (.mv (.t 4)),og 22 17 true (.call N.bg [.t 20,.t 21]),og 23 17 true (.mv (.t 4)),og 24 17 true (.build [.int .i64 0,.int .i64 0,.nils] [(0,1),(1,1),(2,1)] [.t 19,.t 22,.t 23]),og 25 17 true (.dyn (.t 18) [.t 24]),og 26 17 true (.not (.t 25)),o 27 (.pick (.t 17) (.t 26) (.k (.bool false)))] (.cond (.t 27) (.ret) (.skip))) (sQ [oM 28 4,oN 29 28,o 30 (.bin .sub (.t 29) (qI 1)),oM 6 30] (.seq (.blk 2 (.loop bi)) bg)))) bG
def aF:SF:=⟨61,[],sQ [oF 7 0 1,oF 8 1 7,oL 9 8,oN 10 9,o 11 (.mks 1 8 [.int .i64 0] (.t 10) (.t 10)),oM 4 11] (sQ [oK 5 0] (.blk 0 (.loop dm)))⟩
def cz:SC:=sQ [o 23 (.bin .lss (.t 22) (.t 21))] (.seq (.cond (.t 23) (.skip) (.exit 2)) (.seq (.blk 3 (sQ [oX 24 20 22,oL 25 24,oM 10 25] (.quiet [oM 26 8,oM 27 1,oM 28 10,oX 29 27 28,oL 30 29,oF 31 3 2,oL 32 31,oM 33 6,oX 34 32 33,oL 35 34,oM 36 10,oX 37 35 36,oL 38 37,o 39 (.bin .mul (.t 30) (.t 38)),o 40 (.bin .add (.t 26) (.t 39)),oM 8 40]))) (.ops [oA 41 22,oM 22 41])))
def eP:SC:=.ops [oM 42 5,oF 43 2 7,oL 44 43,oM 45 8,oX 46 44 45,oL 47 46,o 48 (.bin .mul (.t 42) (.t 47)),oM 5 48]
def eD:SC:=.ops [oA 49 14,oM 14 49]
def eT:SC:=sQ [o 15 (.bin .lss (.t 14) (.t 13))] (.seq (.cond (.t 15) (.skip) (.exit 0)) (.seq (.blk 1 (sQ [oM 16 14,o 17 (.ixs 3 (.t 12) (.t 14)),o 18 (.load true 3 (.t 17)),o 7 (.alloc [.nils,.nils,.nils]),oM 6 16,oz (.store 3 (.t 7) (.t 18))] (sQ [oK 8 0] (.seq (sQ [oF 19 0 7,oL 20 19,oN 21 20,oK 22 0] (.blk 2 (.loop cz))) eP)))) eD))
def eL:SC:=sQ [oM 50 5,oM 4 50] (.ret)
def fe:SC:=sQ [oK 5 1] (.seq (sQ [oF 11 2 2,oL 12 11,oN 13 12,oK 14 0] (.blk 0 (.loop eT))) eL)
def dg:SF:=⟨51,[.tm 4],sQ [o 2 (.box (.t 0)),oK 4 0] fe⟩
def cN:SC:=sQ [o 22 (.bin .lss (.t 21) (.t 20))] (.seq (.cond (.t 22) (.skip) (.exit 0)) (.seq (.blk 1 (sQ [oM 23 21,oM 8 23] (.seq (.feet [0,0,0,6,15,0,63,127,255,255,0,1535,4095] [oL 25 2,oM 26 0,oM 27 8,o 28 (.build [.int .i64 0,.int .i64 0] [(0,1),(1,1)] [.t 26,.t 27]),o 29 (.raw (.lookup 183 (.tmp 25) (.tmp 28) false)),oL 30 3,o 31 (.call N.ah [.t 29,.t 30]),oM 24 31,o 32 (.ext (.t 24) 0),o 33 (.ext (.t 24) 1),o 9 (.alloc [.int .i64 0,.int .i64 0]),oz (.store 2 (.t 9) (.t 32)),oM 10 33]) (.seq (sQ [oM 34 10,o 35 (.bin .neq (.t 34) (qI 0))] (.cond (.t 35) (sQ [oM 36 10,o 5 (.mv (.k (.nils))),oM 6 36] (.ret)) (.skip))) (.ops [oM 37 7,oM 38 8,o 39 (.load true 2 (.t 9)),o 40 (.ixs 2 (.t 37) (.t 38)),oz (.store 2 (.t 40) (.t 39))]))))) (.ops [oA 41 21,oM 21 41])))
def cU:SC:=sQ [oM 42 7,oM 5 42,oK 6 0] (.ret)
def bP:SF:=⟨43,[.tm 5,.tm 6],sQ [o 5 (.mv (.k (.nils))),oK 6 0] (sQ [oF 11 0 1,oF 12 1 11,oL 13 12,oM 14 0,o 15 (.ixs 3 (.t 13) (.t 14)),oF 16 0 15,oL 17 16,o 18 (.mks 2 16 [.int .i64 0,.int .i64 0] (.t 17) (.t 17)),oM 7 18] (.seq (sQ [oM 19 7,oN 20 19,oK 21 0] (.blk 0 (.loop cN))) cU))⟩
def pg:SC:=.seq (sQ [oF 3 1 1,oL 4 3,o 5 (.bin .lss (.t 4) (qI 1)),oM 6 5,og 7 6 false (.fad 1 (.t 1)),og 8 6 false (.load false 1 (.t 7)),og 9 6 false (.bin .gtr (.t 8) (qI 4611686018427387903)),o 10 (.pick (.t 6) (.k (.bool true)) (.t 9)),oM 11 10,og 12 11 false (.fad 0 (.t 1)),og 13 11 false (.load false 1 (.t 12)),og 14 11 false (.bin .lss (.t 13) (qI (-4611686018427387903))),o 15 (.pick (.t 11) (.k (.bool true)) (.t 14)),oM 16 15,og 17 16 false (.fad 0 (.t 1)),og 18 16 false (.load false 1 (.t 17)),og 19 16 false (.bin .gtr (.t 18) (qI 4611686018427387903)),o 20 (.pick (.t 16) (.k (.bool true)) (.t 19))] (.cond (.t 20) (sQ [oK 2 5] (.ret)) (.skip))) (.seq (.seq (.quiet [oF 21 0 1,oL 22 21,o 23 (.call N.aa [.t 22]),oF 24 1 1,oL 25 24,o 26 (.conv .u64 (.t 25)),o 27 (.call N.af [.t 23,.t 26]),o 28 (.bin .neq (.t 27) (.k (.int .u64 1)))]) (.cond (.t 28) (sQ [oK 2 5] (.ret)) (.skip))) (sQ [oK 2 0] (.ret)))
def ol:SF:=⟨29,[.tm 2],sQ [o 1 (.box (.t 0)),oK 2 0] pg⟩
def i8:SC:=sQ [oL 4 0,o 5 (.load true 2 (.t 1)),o 6 (.load true 2 (.t 2)),o 7 (.dyn (.t 4) [.t 5,.t 6]),oz (.store 2 (.t 3) (.t 7))] (.ret)
def fU:SF:=⟨8,[.cell true 2 3],sQ [o 3 (.alloc [.int .i64 0,.int .i64 0])] i8⟩
def gz:SC:=sQ [o 17 (.bin .lss (.t 16) (.t 15))] (.seq (.cond (.t 17) (.skip) (.exit 0)) (.seq (.blk 1 (sQ [oX 18 14 16,oL 19 18,oM 7 19] (.ops [oM 20 5,oF 21 2 2,oL 22 21,oM 23 7,oX 24 22 23,oL 25 24,o 26 (.bin .mul (.t 20) (.t 25)),oM 5 26]))) (.ops [oA 27 16,oM 16 27])))
def gq:SC:=.ops [oM 9 36]
def dA:SC:=sQ [o 43 (.bin .lss (.t 42) (.t 41))] (.seq (.cond (.t 43) (.skip) (.exit 4)) (.seq (.blk 5 (sQ [oX 44 40 42,oL 45 44,oM 12 45] (.seq (sQ [oM 46 12,o 47 (.bin .lss (.t 46) (qI 0)),oM 48 47,og 49 48 false (.mv (.t 12)),og 50 48 false (.mv (.t 10)),og 51 48 false (.bin .gtr (.t 49) (.t 50)),o 52 (.pick (.t 48) (.k (.bool true)) (.t 51))] (.cond (.t 52) (sQ [oz (.store 1 (.t 4) (.k (.bool false)))] (.ret)) (.skip))) (.ops [oM 53 10,oM 54 12,o 55 (.bin .sub (.t 53) (.t 54)),oM 10 55])))) (.ops [oA 56 42,oM 42 56])))
def bT:SC:=sQ [oM 57 9,oN 58 57,oF 59 0 3,oL 60 59,o 61 (.bin .neq (.t 58) (.t 60)),oM 62 61,og 63 62 false (.mv (.t 10)),og 64 62 false (.bin .neq (.t 63) (qI 0)),o 65 (.pick (.t 62) (.k (.bool true)) (.t 64))] (.cond (.t 65) (sQ [oz (.store 1 (.t 4) (.k (.bool false)))] (.ret)) (.skip))
def gm:SC:=.blk 3 (sQ [oF 37 0 2,oF 38 0 37,oL 39 38,oM 10 39] (.seq (sQ [oM 40 9,oN 41 40,oK 42 0] (.blk 4 (.loop dA))) bT))
def gg:SC:=sQ [oz (.store 1 (.t 4) (.k (.bool true)))] (.ret)
def f_:SC:=.seq (sQ [oF 28 2 3,oL 29 28,oN 30 29,oM 31 5,o 32 (.bin .neq (.t 30) (.t 31))] (.cond (.t 32) (sQ [oz (.store 1 (.t 4) (.k (.bool false)))] (.ret)) (.skip))) (.seq (sQ [o 33 (.load true 3 (.t 3)),o 34 (.call N.aM [.t 33])] (.blk 2 (.rng 66 (.t 34) [35,36] gq gm))) gg)
def gO:SC:=sQ [oK 5 1] (.seq (sQ [oF 13 1 3,oL 14 13,oN 15 14,oK 16 0] (.blk 0 (.loop gz))) f_)
def eJ:SF:=⟨66,[.cell false 1 4],sQ [o 2 (.box (.t 0)),o 3 (.box (.t 1)),o 4 (.alloc [.bool false])] gO⟩
def oI:SC:=sQ [o 19 (.bin .lss (.t 18) (.t 17))] (.seq (.cond (.t 19) (.skip) (.exit 2)) (.seq (.blk 3 (sQ [oM 20 18,oX 21 16 18,oL 22 21,oM 6 20,oM 7 22] (sQ [oM 23 5,oM 24 6,o 25 (.bin .shr (.t 23) (.t 24)),o 26 (.bin .and (.t 25) (.k (.int .u64 1))),o 27 (.bin .eql (.t 26) (.k (.int .u64 0))),oM 28 27,og 29 28 true (.mv (.t 7)),og 30 28 true (.mv (.t 5)),og 31 28 true (.bin .andNot (.t 29) (.t 30)),og 32 28 true (.bin .eql (.t 31) (.k (.int .u64 0))),o 33 (.pick (.t 28) (.t 32) (.k (.bool false)))] (.cond (.t 33) (sQ [oM 34 4,oM 35 6,o 36 (.bsl 1 1 [.int .i64 0] [0] [.t 35]),o 37 (.app 1 8 (.t 34) (.t 36)),oM 4 37] (sQ [oM 38 5,oM 39 6,o 40 (.bin .shl (.k (.int .u64 1)) (.t 39)),o 41 (.bin .or (.t 38) (.t 40)),oM 5 41] (.exit 1))) (.skip))))) (.ops [oA 42 18,oM 18 42])))
def oV:SC:=sQ [o 2 (.mv (.k (.nils))),o 3 (.mv (.k (.bool false)))] (.ret)
def oS:SC:=.seq (sQ [oM 11 4,oN 12 11,oM 13 0,oN 14 13,o 15 (.bin .lss (.t 12) (.t 14))] (.cond (.t 15) (.skip) (.exit 0))) (.blk 1 (.seq (sQ [oM 16 0,oN 17 16,oK 18 0] (.blk 2 (.loop oI))) oV))
def oD:SC:=sQ [oM 43 4,oM 2 43,o 3 (.mv (.k (.bool true)))] (.ret)
def nQ:SF:=⟨44,[.tm 2,.tm 3],sQ [o 2 (.mv (.k (.nils))),o 3 (.mv (.k (.bool false)))] (sQ [oM 8 0,oN 9 8,o 10 (.mks 1 8 [.int .i64 0] (qI 0) (.t 9)),oM 4 10,o 5 (.mv (.k (.int .u64 0)))] (.seq (.skip) (.seq (.blk 0 (.loop oS)) oD)))⟩
def fB:SF:=⟨6,[],sQ [o 3 (.raw (.call ⟨.builtin .recover,#[],#[]⟩)),o 4 (.eq true (.iface true) (.t 3) (.k (.nili)))] (.cond (.t 4) (sQ [o 2 (.alloc [.int .i64 0,.int .i64 0])] (.ops [o 5 (.load true 2 (.t 2)),oz (.store 2 (.t 0) (.t 5)),oz (.store 1 (.t 1) (qI 6))])) (.skip))⟩
def rR:SC:=sQ [o 61 (.ixa 2 1 (.t 9) (qI 0)),oL 62 61,o 63 (.ixa 2 1 (.t 9) (qI 1)),oL 64 63,oM 65 5,o 66 (.call N.aU [.t 62,.t 64,.t 65]),oM 67 5,o 68 (.call N.af [.t 66,.t 67]),oM 10 68] (.seq (.feet [0,0,0,6,0,16,48,0,240,0,512,1536,0,7680,16382,32767,65535] [oM 69 8,o 70 (.load true 2 (.t 9)),oM 71 10,o 72 (.call N.aC [.t 70,.t 71]),oF 73 1 2,oL 74 73,o 75 (.conv .u64 (.t 74)),oM 76 5,o 77 (.bin .quo (.t 75) (.t 76)),oF 78 1 3,oL 79 78,o 80 (.conv .u64 (.t 79)),oM 81 10,o 82 (.bin .quo (.t 80) (.t 81)),o 83 (.call N.ae [.t 77,.t 82]),o 84 (.call N.ak [.t 69,.t 72,.t 83]),oz (.store 2 (.t 4) (.t 84))]) (.ret))
def tw:SC:=sQ [oF 11 1 2,oL 12 11,o 13 (.conv .u64 (.t 12)),oF 14 1 3,oL 15 14,o 16 (.conv .u64 (.t 15)),o 17 (.call N.af [.t 13,.t 16]),oM 5 17] (.seq (.feet [0,1,3,0,8,24,0,120,255,0,512,2047,0,4096,12288,0,61440,131071,0,0,1048575,2097151] [oF 18 0 2,oL 19 18,o 20 (.call N.aa [.t 19]),oF 21 1 3,oL 22 21,o 23 (.conv .u64 (.t 22)),oM 24 5,o 25 (.bin .quo (.t 23) (.t 24)),o 26 (.call N.ae [.t 20,.t 25]),oF 27 0 3,oL 28 27,o 29 (.call N.aa [.t 28]),oF 30 1 2,oL 31 30,o 32 (.conv .u64 (.t 31)),oM 33 5,o 34 (.bin .quo (.t 32) (.t 33)),o 35 (.call N.ae [.t 29,.t 34]),o 6 (.alloc [.int .u64 0,.int .u64 0]),o 7 (.alloc [.int .u64 0,.int .u64 0]),oz (.store 2 (.t 6) (.t 26)),oz (.store 2 (.t 7) (.t 35))]) (sQ [oF 36 0 2,oL 37 36,o 38 (.bin .lss (.t 37) (qI 0)),o 39 (.build [.int .u64 0,.int .u64 0] [] []),o 9 (.alloc [.int .u64 0,.int .u64 0]),oM 8 38,oz (.store 2 (.t 9) (.t 39))] (.seq (.blk 0 (sQ [oM 44 8,oF 45 0 3,oL 46 45,o 47 (.bin .lss (.t 46) (qI 0)),o 48 (.eq false .bool (.t 44) (.t 47)),oM 43 48] (.cond (.t 43) (.ops [o 49 (.load true 2 (.t 6)),o 50 (.load true 2 (.t 7)),o 51 (.call N.aQ [.t 49,.t 50]),oz (.store 2 (.t 9) (.t 51))]) (sQ [o 53 (.load true 2 (.t 6)),o 54 (.load true 2 (.t 7)),o 55 (.call N.bM [.t 53,.t 54]),oM 52 55] (.cond (.t 52) (.ops [oM 56 8,o 57 (.not (.t 56)),o 58 (.load true 2 (.t 7)),o 59 (.load true 2 (.t 6)),o 60 (.call N.bK [.t 58,.t 59]),oM 8 57,oz (.store 2 (.t 9) (.t 60))]) (.ops [o 40 (.load true 2 (.t 6)),o 41 (.load true 2 (.t 7)),o 42 (.call N.bK [.t 40,.t 41]),oz (.store 2 (.t 9) (.t 42))])))))) rR)))
def sV:SF:=⟨85,[.cell true 2 4],sQ [o 2 (.box (.t 0)),o 3 (.box (.t 1)),o 4 (.alloc [.int .i64 0,.int .i64 0])] tw⟩
def gc:SC:=.ops [oA 65 40,oM 40 65]
def du:SC:=sQ [o 41 (.bin .lss (.t 40) (.t 39))] (.seq (.cond (.t 41) (.skip) (.exit 0)) (.seq (.blk 1 (sQ [oM 42 40,oX 43 38 40,oL 44 43,oM 10 42,oM 11 44] (.seq (.feet [0,1,0,4,0,28,60,124,255,511,1023] [oF 45 1 8,oL 46 45,oF 47 2 2,oL 48 47,oM 49 11,oX 50 48 49,oL 51 50,o 52 (.bsl 1 1 [.int .i64 0] [0] [.t 51]),o 53 (.app 1 8 (.t 46) (.t 52)),oF 54 1 8,oz (.store 1 (.t 54) (.t 53))]) (sQ [oM 55 10,oM 56 6,o 57 (.bin .gtr (.t 55) (.t 56))] (.cond (.t 57) (.feet [0,0,2,0,14,30,63,127] [oL 58 9,oF 59 2 2,oL 60 59,oM 61 11,oX 62 60 61,oL 63 62,o 64 (.bin .mul (.t 58) (.t 63)),oz (.store 1 (.t 9) (.t 64))]) (.skip)))))) gc))
def dh:SC:=sQ [oM 12 76] (.ops [oM 13 77])
def dk:SC:=sQ [o 81 (.bin .lss (.t 80) (.t 79))] (.seq (.cond (.t 81) (.skip) (.exit 4)) (.seq (.blk 5 (sQ [oM 82 80,oX 83 78 80,oL 84 83,oM 14 82,oM 15 84] (.feet [0,1,0,0,12,0,32,124,0,508,0,2044,0,0,12288,32764,0,131071,262143] [oF 85 2 8,oL 86 85,oM 87 12,oL 88 9,o 89 (.bin .quo (.t 87) (.t 88)),oF 90 0 5,oL 91 90,o 92 (.bin .mul (.t 89) (.t 91)),oM 93 14,o 94 (.bin .add (.t 92) (.t 93)),oL 95 9,o 96 (.bin .mul (.t 94) (.t 95)),oM 97 12,oL 98 9,o 99 (.bin .rem (.t 97) (.t 98)),o 100 (.bin .add (.t 96) (.t 99)),oM 101 15,oX 102 86 100,oz (.store 1 (.t 102) (.t 101))]))) (.ops [oA 103 80,oM 80 103])))
def dC:SC:=.blk 3 (sQ [oM 78 13,oN 79 78,oK 80 0] (.blk 4 (.loop dk)))
def gn:SC:=sQ [o 104 (.load true 3 (.t 8)),oz (.store 3 (.t 4) (.t 104))] (.ret)
def gw:SC:=sQ [oF 66 2 5,oL 67 66,oN 68 67,oF 69 0 5,oL 70 69,o 71 (.bin .mul (.t 68) (.t 70)),o 72 (.mks 1 8 [.int .i64 0] (.t 71) (.t 71)),oF 73 2 8,oz (.store 1 (.t 73) (.t 72))] (.seq (sQ [o 74 (.load true 3 (.t 5)),o 75 (.call N.aM [.t 74])] (.blk 2 (.rng 105 (.t 75) [76,77] dh dC))) gn)
def g_:SC:=sQ [oF 16 0 2,oF 17 1 16,oL 18 17,oM 19 1,o 20 (.ixs 3 (.t 18) (.t 19)),o 21 (.load true 3 (.t 20)),o 5 (.alloc [.int .i64 0,.nils,.nils]),oz (.store 3 (.t 5) (.t 21))] (sQ [oF 23 1 5,oL 24 23,oM 25 1,o 26 (.call N.bc [.t 24,.t 25]),oM 22 26,o 27 (.ext (.t 22) 0),o 28 (.ext (.t 22) 1),oM 6 27,oM 7 28] (sQ [oF 29 1 5,oL 30 29,o 31 (.call N.bw [.t 30]),oM 32 6,oM 33 1,o 34 (.bsl 1 1 [.int .i64 0] [0] [.t 33]),o 35 (.call N.bI [.t 31,.t 32,.t 34]),o 36 (.build [.nils,.nils,.nils] [(0,1)] [.t 35]),o 8 (.alloc [.nils,.nils,.nils]),oz (.store 3 (.t 8) (.t 36))] (sQ [o 9 (.alloc [.int .i64 0]),oz (.store 1 (.t 9) (qI 1))] (.seq (sQ [oF 37 0 8,oL 38 37,oN 39 38,oK 40 0] (.blk 0 (.loop du))) gw))))
def eQ:SF:=⟨105,[.cell true 3 4],sQ [o 2 (.box (.t 0)),o 4 (.alloc [.nils,.nils,.nils])] g_⟩
def tz:SC:=sQ [o 3 (.mkf N.am [] [.t 1]),oM 2 3] (.ret)
def sA:SF:=⟨4,[.tm 2],sQ [o 1 (.box (.t 0)),o 2 (.mv (.k (.nilf)))] tz⟩
def rE:SC:=sQ [o 10 (.ixa 2 1 (.t 2) (qI 1)),oL 11 10,o 12 (.ixa 2 1 (.t 3) (qI 1)),oL 13 12,o 14 (.call N.bp [.t 11,.t 13,.k (.int .u64 0)]),oM 9 14,o 15 (.ext (.t 9) 0),o 16 (.ext (.t 9) 1),oM 5 15,oM 6 16] (sQ [o 18 (.ixa 2 1 (.t 2) (qI 0)),oL 19 18,o 20 (.ixa 2 1 (.t 3) (qI 0)),oL 21 20,oM 22 6,o 23 (.call N.bp [.t 19,.t 21,.t 22]),oM 17 23,o 24 (.ext (.t 17) 0),o 25 (.ext (.t 17) 1),oM 7 24,oM 8 25] (sQ [oM 26 7,oM 27 5,o 28 (.build [.int .u64 0,.int .u64 0] [(0,1),(1,1)] [.t 26,.t 27]),oz (.store 2 (.t 4) (.t 28))] (.ret)))
def pO:SF:=⟨29,[.cell true 2 4],sQ [o 2 (.box (.t 0)),o 3 (.box (.t 1)),o 4 (.alloc [.int .u64 0,.int .u64 0])] rE⟩
def iC:SF:=⟨19,[.tm 6],sQ [o 6 (.mv (.k (.int .u64 0)))] (sQ [oM 10 0,oM 11 2,o 12 (.bin .rem (.t 10) (.t 11)),oM 13 1,oM 14 2,o 15 (.call N.ap [.t 12,.t 13,.t 14]),oM 9 15,o 16 (.ext (.t 9) 0),o 17 (.ext (.t 9) 1),oM 7 16,oM 8 17] (sQ [oM 18 8,oM 6 18] (.ret)))⟩
def rK:SC:=.seq (.quiet [o 8 (.ixa 2 1 (.t 2) (qI 0)),oL 9 8,oM 10 1,o 11 (.bin .rem (.t 9) (.t 10)),o 12 (.ixa 2 1 (.t 2) (qI 1)),oL 13 12,oM 14 1,o 15 (.call N.ap [.t 11,.t 13,.t 14]),oM 7 15,o 16 (.ext (.t 7) 0),o 17 (.ext (.t 7) 1),oM 5 16,oM 6 17]) (sQ [o 18 (.ixa 2 1 (.t 2) (qI 0)),oL 19 18,oM 20 1,o 21 (.bin .quo (.t 19) (.t 20)),oM 22 5,o 23 (.build [.int .u64 0,.int .u64 0] [(0,1),(1,1)] [.t 21,.t 22]),oz (.store 2 (.t 4) (.t 23))] (.ret))
def px:SF:=⟨24,[.cell true 2 4],sQ [o 2 (.box (.t 0)),o 4 (.alloc [.int .u64 0,.int .u64 0])] rK⟩
def dw:SC:=.seq (sQ [oM 13 7,oM 14 8,o 15 (.bin .lss (.t 13) (.t 14))] (.cond (.t 15) (.skip) (.exit 0))) (.blk 1 (sQ [oM 16 7,oM 17 8,o 18 (.bin .add (.t 16) (.t 17)),o 19 (.conv .u64 (.t 18)),o 20 (.bin .shr (.t 19) (.k (.int .u64 1))),o 21 (.conv .i64 (.t 20)),oM 9 21] (sQ [oM 22 0,oM 23 9,oX 24 22 23,oL 25 24,oM 26 1,o 27 (.call N.bf [.t 25,.t 26])] (.cond (.t 27) (.ops [oM 28 9,oA 29 28,oM 7 29]) (.ops [oM 30 9,oM 8 30])))))
def dE:SC:=sQ [oM 31 7,oM 32 7,oM 33 6,o 34 (.bin .lss (.t 32) (.t 33)),oM 35 34,og 36 35 true (.mv (.t 0)),og 37 35 true (.mv (.t 7)),og 38 35 true (.ixs 1 (.t 36) (.t 37)),og 39 35 true (.load false 1 (.t 38)),og 40 35 true (.mv (.t 1)),og 41 35 true (.bin .eql (.t 39) (.t 40)),og 42 35 true (.mv (.t 41)),og 43 42 false (.mv (.t 0)),og 44 42 false (.mv (.t 7)),og 45 42 false (.ixs 1 (.t 43) (.t 44)),og 46 42 false (.load false 1 (.t 45)),og 47 42 false (.call N.aY [.t 46]),og 48 42 false (.mv (.t 47)),og 49 48 true (.mv (.t 1)),og 50 48 true (.call N.aY [.t 49]),og 51 42 false (.pick (.t 48) (.t 50) (.k (.bool false))),og 52 35 true (.pick (.t 42) (.k (.bool true)) (.t 51)),o 53 (.pick (.t 35) (.t 52) (.k (.bool false))),oM 4 31,oM 5 53] (.ret)
def cg:SF:=⟨54,[.tm 4,.tm 5],sQ [oK 4 0,o 5 (.mv (.k (.bool false)))] (sQ [oM 10 0,oN 11 10,oM 6 11] (sQ [oM 12 6,oK 7 0,oM 8 12] (.seq (.blk 0 (.loop dw)) dE)))⟩
def oR:SC:=sQ [o 9 (.bin .lss (.t 8) (.t 7))] (.seq (.cond (.t 9) (.skip) (.exit 0)) (.seq (.blk 1 (sQ [oM 10 8,oX 11 6 8,oL 12 11,oM 3 10,oM 4 12] (sQ [oM 13 0,oM 14 3,oM 15 4,o 16 (.dyn (.t 13) [.t 14,.t 15]),o 17 (.not (.t 16))] (.cond (.t 17) (.ret) (.skip))))) (.ops [oA 18 8,oM 8 18])))
def eU:SF:=⟨19,[],sQ [oF 5 2 1,oL 6 5,oN 7 6,oK 8 0] (.blk 0 (.loop oR))⟩
def ma:SF:=⟨17,[.tm 4],sQ [o 4 (.mv (.k (.bool false)))] (sQ [oM 5 0,o 6 (.call N.be [.t 5]),oM 7 6,og 8 7 true (.mv (.t 1)),og 9 7 true (.call N.be [.t 8]),og 10 7 true (.not (.t 9)),o 11 (.pick (.t 7) (.t 10) (.k (.bool false))),oM 12 11,og 13 12 false (.mv (.t 0)),og 14 12 false (.mv (.t 1)),og 15 12 false (.bin .lss (.t 13) (.t 14)),o 16 (.pick (.t 12) (.k (.bool true)) (.t 15)),oM 4 16] (.ret))⟩
def gZ:SF:=⟨6,[.tm 2],sQ [o 2 (.mv (.k (.bool false)))] (sQ [oM 3 0,oM 4 0,o 5 (.bin .neq (.t 3) (.t 4)),oM 2 5] (.ret))⟩
def j_:SF:=⟨6,[.tm 2],sQ [o 2 (.mv (.k (.bool false)))] (sQ [oM 3 0,oM 4 0,o 5 (.bin .neq (.t 3) (.t 4)),oM 2 5] (.ret))⟩
theorem tZ:nFn C0 N.bH=some ir:=by kernel_rfl
theorem sZ:nFn C0 N.bk=some gX:=by kernel_rfl
theorem o6 (d:Nat)(xs:List AV)(g:G):ac C0 d N.bk xs g=am (I C0) d g N.bk xs:=by kernel_rfl
theorem Aw:nFn C0 N.bD=some qm:=by kernel_rfl
theorem xR (d:Nat)(xs:List AV)(g:G):ac C0 d N.bD xs g=am (I C0) d g N.bD xs:=by kernel_rfl
theorem sH:nFn C0 N.aJ=some gM:=by kernel_rfl
theorem iZ (t:T)(g:G)(xs:List Od):SO.foot C0 t g (.call N.aJ xs)=af ((dQ t xs).flatMap (aB g.h aA)):=by kernel_rfl
theorem qC (d:Nat)(xs:List AV)(g:G):ac C0 d N.aJ xs g=am (I C0) d g N.aJ xs:=by kernel_rfl
theorem xJ:nFn C0 N.bF=some mJ:=by kernel_rfl
theorem uq (d:Nat)(xs:List AV)(g:G):ac C0 d N.bF xs g=am (I C0) d g N.bF xs:=by kernel_rfl
theorem xy:nFn C0 N.aE=some mD:=by kernel_rfl
theorem ue (t:T)(g:G)(xs:List Od):SO.foot C0 t g (.call N.aE xs)=af ((dQ t xs).flatMap (aB g.h aA)):=by kernel_rfl
theorem uf (d:Nat)(xs:List AV)(g:G):ac C0 d N.aE xs g=am (I C0) d g N.aE xs:=by kernel_rfl
theorem yA:nFn C0 N.aN=some oo:=by kernel_rfl
theorem u9 (d:Nat)(xs:List AV)(g:G):ac C0 d N.aN xs g=am (I C0) d g N.aN xs:=by kernel_rfl
theorem ut:nFn C0 N.aH=some je:=by kernel_rfl
theorem sG (t:T)(g:G)(xs:List Od):SO.foot C0 t g (.call N.aH xs)=af ((dQ t xs).flatMap (aB g.h aA)):=by kernel_rfl
theorem s6 (d:Nat)(xs:List AV)(g:G):ac C0 d N.aH xs g=am (I C0) d g N.aH xs:=by kernel_rfl
theorem Ci:nFn C0 N.ay=some sU:=by kernel_rfl
theorem rV (t:T)(g:G)(xs:List Od):SO.foot C0 t g (.call N.ay xs)=af ((dQ t xs).flatMap (aB g.h aA)):=by kernel_rfl
theorem xW (d:Nat)(xs:List AV)(g:G):ac C0 d N.ay xs g=am (I C0) d g N.ay xs:=by kernel_rfl
theorem tK:nFn C0 N.bi=some iv:=by kernel_rfl
theorem q9 (d:Nat)(xs:List AV)(g:G):ac C0 d N.bi xs g=am (I C0) d g N.bi xs:=by kernel_rfl
theorem oY:nFn C0 N.bw=some cK:=by kernel_rfl
theorem mV (d:Nat)(xs:List AV)(g:G):ac C0 d N.bw xs g=orF ((I C0).call d N.bw xs g):=by kernel_rfl
theorem Ag:nFn C0 N.ah=some pU:=by kernel_rfl
theorem o_ (t:T)(g:G)(xs:List Od):SO.foot C0 t g (.call N.ah xs)=af ((dQ t xs).flatMap (aB g.h aA)):=by kernel_rfl
theorem w_ (d:Nat)(xs:List AV)(g:G):ac C0 d N.ah xs g=am (I C0) d g N.ah xs:=by kernel_rfl
theorem AP:nFn C0 N.aA=some qr:=by kernel_rfl
theorem py (t:T)(g:G)(xs:List Od):SO.foot C0 t g (.call N.aA xs)=af ((dQ t xs).flatMap (aB g.h aA)):=by kernel_rfl
theorem we (d:Nat)(xs:List AV)(g:G):ac C0 d N.aA xs g=am (I C0) d g N.aA xs:=by kernel_rfl
theorem AL:nFn C0 N.aD=some pM:=by kernel_rfl
theorem qz (t:T)(g:G)(xs:List Od):SO.foot C0 t g (.call N.aD xs)=af ((dQ t xs).flatMap (aB g.h aA)):=by kernel_rfl
theorem xz (d:Nat)(xs:List AV)(g:G):ac C0 d N.aD xs g=am (I C0) d g N.aD xs:=by kernel_rfl
theorem lF:nFn C0 N.aP=some cE:=by kernel_rfl
theorem jg (t:T)(g:G)(xs:List Od):SO.foot C0 t g (.call N.aP xs)=af ((dQ t xs).flatMap (aB g.h aA)):=by kernel_rfl
theorem jj (d:Nat)(xs:List AV)(g:G):ac C0 d N.aP xs g=am (I C0) d g N.aP xs:=by kernel_rfl
theorem yd:nFn C0 N.a9=some nM:=by kernel_rfl
theorem vy (d:Nat)(xs:List AV)(g:G):ac C0 d N.a9 xs g=am (I C0) d g N.a9 xs:=by kernel_rfl
theorem pN:nFn C0 N.bz=some fp:=by kernel_rfl
theorem nW (d:Nat)(xs:List AV)(g:G):ac C0 d N.bz xs g=am (I C0) d g N.bz xs:=by kernel_rfl
theorem Ah:nFn C0 N.aG=some qB:=by kernel_rfl
theorem wS (t:T)(g:G)(xs:List Od):SO.foot C0 t g (.call N.aG xs)=af ((dQ t xs).flatMap (aB g.h aA)):=by kernel_rfl
theorem xA (d:Nat)(xs:List AV)(g:G):ac C0 d N.aG xs g=am (I C0) d g N.aG xs:=by kernel_rfl
theorem zM:nFn C0 N.aw=some pu:=by kernel_rfl
theorem xk (d:Nat)(xs:List AV)(g:G):ac C0 d N.aw xs g=am (I C0) d g N.aw xs:=by kernel_rfl
theorem lC:nFn C0 N.aq=some cD:=by kernel_rfl
theorem jk (d:Nat)(xs:List AV)(g:G):ac C0 d N.aq xs g=am (I C0) d g N.aq xs:=by kernel_rfl
theorem mu:nFn C0 N.aR=some dF:=by kernel_rfl
theorem kw (t:T)(g:G)(xs:List Od):SO.foot C0 t g (.call N.aR xs)=af ((dQ t xs).flatMap (aB g.h aA)):=by kernel_rfl
theorem kN (d:Nat)(xs:List AV)(g:G):ac C0 d N.aR xs g=am (I C0) d g N.aR xs:=by kernel_rfl
theorem tW:nFn C0 N.an=some iI:=by kernel_rfl
theorem q7 (d:Nat)(xs:List AV)(g:G):ac C0 d N.an xs g=am (I C0) d g N.an xs:=by kernel_rfl
theorem uZ:nFn C0 N.aX=some lf:=by kernel_rfl
theorem tx (d:Nat)(xs:List AV)(g:G):ac C0 d N.aX xs g=am (I C0) d g N.aX xs:=by kernel_rfl
theorem jl:nFn C0 N.aT=some cd:=by kernel_rfl
theorem iM (d:Nat)(xs:List AV)(g:G):ac C0 d N.aT xs g=orF ((I C0).call d N.aT xs g):=by kernel_rfl
theorem oq:nFn C0 N.aS=some dZ:=by kernel_rfl
theorem mr (d:Nat)(xs:List AV)(g:G):ac C0 d N.aS xs g=am (I C0) d g N.aS xs:=by kernel_rfl
theorem ui:nFn C0 N.aZ=some jn:=by kernel_rfl
theorem sJ (d:Nat)(xs:List AV)(g:G):ac C0 d N.aZ xs g=am (I C0) d g N.aZ xs:=by kernel_rfl
theorem su:nFn C0 N.ax=some gI:=by kernel_rfl
theorem yq:nFn C0 N.ae=some nK:=by kernel_rfl
theorem jd (t:T)(g:G)(xs:List Od):SO.foot C0 t g (.call N.ae xs)=af ((dQ t xs).flatMap (aB g.h aA)):=by kernel_rfl
theorem vp (d:Nat)(xs:List AV)(g:G):ac C0 d N.ae xs g=am (I C0) d g N.ae xs:=by kernel_rfl
theorem Aa:nFn C0 N.aa=some pF:=by kernel_rfl
theorem jU (t:T)(g:G)(xs:List Od):SO.foot C0 t g (.call N.aa xs)=af ((dQ t xs).flatMap (aB g.h aA)):=by kernel_rfl
theorem xI (d:Nat)(xs:List AV)(g:G):ac C0 d N.aa xs g=am (I C0) d g N.aa xs:=by kernel_rfl
theorem tp:nFn C0 N.aK=some iA:=by kernel_rfl
theorem rg (d:Nat)(xs:List AV)(g:G):ac C0 d N.aK xs g=am (I C0) d g N.aK xs:=by kernel_rfl
theorem B8:nFn C0 N.a_=some ld:=by kernel_rfl
theorem yC (d:Nat)(xs:List AV)(g:G):ac C0 d N.a_ xs g=am (I C0) d g N.a_ xs:=by kernel_rfl
theorem sB:nFn C0 N.aL=some gR:=by kernel_rfl
theorem pL (d:Nat)(xs:List AV)(g:G):ac C0 d N.aL xs g=am (I C0) d g N.aL xs:=by kernel_rfl
theorem v_:nFn C0 N.bo=some mi:=by kernel_rfl
theorem xu:nFn C0 N.af=some lY:=by kernel_rfl
theorem ud (d:Nat)(xs:List AV)(g:G):ac C0 d N.af xs g=am (I C0) d g N.af xs:=by kernel_rfl
theorem B0:nFn C0 N.ak=some sM:=by kernel_rfl
theorem rH (t:T)(g:G)(xs:List Od):SO.foot C0 t g (.call N.ak xs)=af ((dQ t xs).flatMap (aB g.h aA)):=by kernel_rfl
theorem xX (d:Nat)(xs:List AV)(g:G):ac C0 d N.ak xs g=am (I C0) d g N.ak xs:=by kernel_rfl
theorem BA:nFn C0 N.ba=some sS:=by kernel_rfl
theorem xU (d:Nat)(xs:List AV)(g:G):ac C0 d N.ba xs g=am (I C0) d g N.ba xs:=by kernel_rfl
theorem vY:nFn C0 N.au=some mq:=by kernel_rfl
theorem lH:nFn C0 N.bu=some cX:=by kernel_rfl
theorem jG (d:Nat)(xs:List AV)(g:G):ac C0 d N.bu xs g=am (I C0) d g N.bu xs:=by kernel_rfl
theorem qw:nFn C0 N.bE=some fw:=by kernel_rfl
theorem nP (d:Nat)(xs:List AV)(g:G):ac C0 d N.bE xs g=am (I C0) d g N.bE xs:=by kernel_rfl
theorem A6:nFn C0 N.bB=some sE:=by kernel_rfl
theorem yx (d:Nat)(xs:List AV)(g:G):ac C0 d N.bB xs g=am (I C0) d g N.bB xs:=by kernel_rfl
theorem xB:nFn C0 N.bC=some lZ:=by kernel_rfl
theorem ur (d:Nat)(xs:List AV)(g:G):ac C0 d N.bC xs g=am (I C0) d g N.bC xs:=by kernel_rfl
theorem wP:nFn C0 N.bA=some mh:=by kernel_rfl
theorem ul (d:Nat)(xs:List AV)(g:G):ac C0 d N.bA xs g=am (I C0) d g N.bA xs:=by kernel_rfl
theorem qp:nFn C0 N.bj=some fu:=by kernel_rfl
theorem oy (d:Nat)(xs:List AV)(g:G):ac C0 d N.bj xs g=am (I C0) d g N.bj xs:=by kernel_rfl
theorem jf:nFn C0 N.ac=some aF:=by kernel_rfl
theorem mC:nFn C0 N.bg=some dg:=by kernel_rfl
theorem k_ (d:Nat)(xs:List AV)(g:G):ac C0 d N.bg xs g=am (I C0) d g N.bg xs:=by kernel_rfl
theorem iE:nFn C0 N.aI=some bP:=by kernel_rfl
theorem yB:nFn C0 N.aF=some ol:=by kernel_rfl
theorem uX (d:Nat)(xs:List AV)(g:G):ac C0 d N.aF xs g=am (I C0) d g N.aF xs:=by kernel_rfl
theorem rA:nFn C0 N.bh=some fU:=by kernel_rfl
theorem o5:nFn C0 N.aV=some eJ:=by kernel_rfl
theorem mS (d:Nat)(xs:List AV)(g:G):ac C0 d N.aV xs g=am (I C0) d g N.aV xs:=by kernel_rfl
theorem yu:nFn C0 N.bG=some nQ:=by kernel_rfl
theorem uV (d:Nat)(xs:List AV)(g:G):ac C0 d N.bG xs g=am (I C0) d g N.bG xs:=by kernel_rfl
theorem pp:nFn C0 N.aW=some fB:=by kernel_rfl
theorem Cd:nFn C0 N.aB=some sV:=by kernel_rfl
theorem yh (d:Nat)(xs:List AV)(g:G):ac C0 d N.aB xs g=am (I C0) d g N.aB xs:=by kernel_rfl
theorem oZ:nFn C0 N.br=some eQ:=by kernel_rfl
theorem nf (d:Nat)(xs:List AV)(g:G):ac C0 d N.br xs g=am (I C0) d g N.br xs:=by kernel_rfl
theorem Bq:nFn C0 N.aM=some sA:=by kernel_rfl
theorem ym (d:Nat)(xs:List AV)(g:G):ac C0 d N.aM xs g=am (I C0) d g N.aM xs:=by kernel_rfl
theorem zK:nFn C0 N.aQ=some pO:=by kernel_rfl
theorem xE (d:Nat)(xs:List AV)(g:G):ac C0 d N.aQ xs g=am (I C0) d g N.aQ xs:=by kernel_rfl
theorem th:nFn C0 N.aU=some iC:=by kernel_rfl
theorem rB (d:Nat)(xs:List AV)(g:G):ac C0 d N.aU xs g=am (I C0) d g N.aU xs:=by kernel_rfl
theorem AE:nFn C0 N.aC=some px:=by kernel_rfl
theorem vX (t:T)(g:G)(xs:List Od):SO.foot C0 t g (.call N.aC xs)=af ((dQ t xs).flatMap (aB g.h aA)):=by kernel_rfl
theorem xK (d:Nat)(xs:List AV)(g:G):ac C0 d N.aC xs g=am (I C0) d g N.aC xs:=by kernel_rfl
theorem ji:nFn C0 N.bc=some cg:=by kernel_rfl
theorem ip (d:Nat)(xs:List AV)(g:G):ac C0 d N.bc xs g=am (I C0) d g N.bc xs:=by kernel_rfl
theorem yD:nFn C0 N.am=some eU:=by kernel_rfl
theorem xw:nFn C0 N.bf=some ma:=by kernel_rfl
theorem uj (d:Nat)(xs:List AV)(g:G):ac C0 d N.bf xs g=am (I C0) d g N.bf xs:=by kernel_rfl
theorem sR:nFn C0 N.aY=some gZ:=by kernel_rfl
theorem pJ (d:Nat)(xs:List AV)(g:G):ac C0 d N.aY xs g=am (I C0) d g N.aY xs:=by kernel_rfl
theorem vz:nFn C0 N.be=some j_:=by kernel_rfl
theorem tk (d:Nat)(xs:List AV)(g:G):ac C0 d N.be xs g=am (I C0) d g N.be xs:=by kernel_rfl
theorem oO {α:Type}{f:Nat->α->Nat->α->Bool}{i:Nat}{x:α}:∀{l:List α} {j:Nat},(∀b y,l[b]?=some y->f i x (j+b) y=true)->fd f i x j l=true
 | [],_,_=>rfl
 | y::r,j,h=>by
  simp only[fd,Bool.and_eq_true]
  refine ⟨by simpa using h 0 y rfl,oO fun b z hb=>?_⟩
  have:=h (b+1) z (by simpa using hb)
  rwa [show j+(b+1)=j+1+b by omega] at this
theorem lK {α:Type}{f:Nat->α->Nat->α->Bool}:∀{l:List α} {i:Nat},(∀a b x y,a<b->l[a]?=some x->l[b]?=some y->f (i+a) x (i+b) y=true)->iY f i l=true
 | [],_,_=>rfl
 | x::r,i,h=>by
  simp only[iY,Bool.and_eq_true]
  refine ⟨oO fun b y hb=>?_,lK fun a b x' y hab ha hb=>?_⟩
  ·have:=h 0 (b+1) x y (by omega) rfl (by simpa using hb)
   rwa [Nat.add_zero,show i+(b+1)=i+1+b by omega] at this
  ·have:=h (a+1) (b+1) x' y (by omega) (by simpa using ha) (by simpa using hb)
   rwa [show i+(a+1)=i+1+a by omega,show i+(b+1)=i+1+b by omega] at this
theorem uC {pm:List Nat}:∀{l:List Foot} {i:Nat},(∀f∈l,f.lk.sr=[])->ej pm i l=true
 | [],_,_=>rfl
 | x::r,i,h=>by
  simp only[ej,h x (by simp)]
  exact uC fun f hf=>h f (by simp[hf])
def zZ (pm:List Nat)(ws:List Bool)(L:List (Nat×Nat))(i j:Nat):Bool:=(pm.getD j 0).testBit i || (!(ws.getD i false)&&!(ws.getD j false)) || L.contains (i,j)
def AQ (pm:List Nat)(ws:List Bool)(L:List (Nat×Nat)):Bool:=(List.range ws.length).all fun j=>(List.range j).all fun i=>zZ pm ws L i j
theorem aR {pm:List Nat}{fs:List Foot}(ws:List Bool)(L:List (Nat×Nat))(hw:All2 (fun (f:Foot) (w:Bool)=>f.lk.sr=[]/\(w=false->f.wr=[])) fs ws)(hd:AQ pm ws L=true)
  (hL:∀p∈L,∀x y,fs[p.1]?=some x->fs[p.2]?=some y->bk x y=true):gU pm fs=true:=by
 unfold gU
 rw[aa,if_pos]
 ·exact uC fun f hf=>by
   obtain ⟨i,hi,rfl⟩:=List.mem_iff_getElem.1 hf
   obtain ⟨w,-,h⟩:=hw.get (List.getElem?_eq_getElem hi)
   exact h.1
 ·refine lK fun a b x y hab ha hb=>?_
  simp only[Nat.zero_add]
  obtain ⟨wa,hwa,ka⟩:=hw.get ha
  obtain ⟨wb,hwb,kb⟩:=hw.get hb
  have hbl:=(List.getElem?_eq_some_iff.1 hwb).1
  have:=List.all_eq_true.1 (List.all_eq_true.1 hd b (List.mem_range.2 hbl)) a (List.mem_range.2 hab)
  simp only[zZ,Bool.or_eq_true] at this
  rcases this with (h | h) | h
  ·rw[h,Bool.true_or]
  ·simp only[List.getD_eq_getElem?_getD,hwa,hwb,Option.getD_some,Bool.and_eq_true,Bool.not_eq_true'] at h
   have ex:=ka.2 h.1
   have ey:=kb.2 h.2
   simp only[bk,eO,di,ex,ey,Bool.and_self,Bool.or_true]
  ·rw[hL (a,b) (List.contains_iff_mem.1 h) x y ha hb,Bool.or_true]
structure Mech where
 card:Int
 frm:List Int
 noise:List Int
 out:List Int
structure Causal where
 grain:Int
 roots:List (List Int)
 nodes:List Mech
structure Node where
 card:Int
 parents:List Int
 rows:List (List Int)
structure Net where
 grain:Int
 nodes:List Node
structure Factor where
 vars:List Int
 cards:List Int
 w:List Int
instance : Rp Mech:=Rp.via fun m:Mech=>(m.card,m.frm,m.noise,m.out)
instance : Rp Causal:=Rp.via fun m:Causal=>(m.grain,m.roots,m.nodes)
instance : Rp Node:=Rp.via fun m:Node=>(m.card,m.parents,m.rows)
instance : Rp Net:=Rp.via fun m:Net=>(m.grain,m.nodes)
instance : Rp Factor:=Rp.via fun m:Factor=>(m.vars,m.cards,m.w)
section
variable {P:Nat->Prop}{k:Nat}{h:H}{cs:List AV}
theorem cT {m:Node}:Rp.rp P k h m cs↔∃a b,cs=[.int .i64 m.card,a,b]/\SlR P k h m.parents a/\SlR P k h m.rows b:=by
 constructor
 ·rintro ⟨c1,c2,rfl,h1,d1,d2,rfl,⟨a,rfl,h2⟩,⟨b,rfl,h3⟩⟩
  rw[aC.1 h1];exact ⟨a,b,rfl,h2,h3⟩
 ·rintro ⟨a,b,rfl,h2,h3⟩
  exact ⟨[.int .i64 m.card],[a,b],rfl,aC.2 rfl,[a],[b],rfl,⟨a,rfl,h2⟩,⟨b,rfl,h3⟩⟩
theorem kU {m:Net}:Rp.rp P k h m cs↔∃a,cs=[.int .i64 m.grain,a]/\SlR P k h m.nodes a:=by
 constructor
 ·rintro ⟨c1,c2,rfl,h1,⟨a,rfl,h2⟩⟩
  rw[aC.1 h1];exact ⟨a,rfl,h2⟩
 ·rintro ⟨a,rfl,h2⟩
  exact ⟨[.int .i64 m.grain],[a],rfl,aC.2 rfl,⟨a,rfl,h2⟩⟩
theorem gx {m:Factor}:Rp.rp P k h m cs↔∃a b c,cs=[a,b,c]/\SlR P k h m.vars a/\SlR P k h m.cards b/\SlR P k h m.w c:=by
 constructor
 ·rintro ⟨c1,c2,rfl,⟨a,rfl,h2⟩,e1,e2,rfl,⟨b,rfl,h3⟩,⟨c,rfl,h4⟩⟩
  exact ⟨a,b,c,rfl,h2,h3,h4⟩
 ·rintro ⟨a,b,c,rfl,h2,h3,h4⟩
  exact ⟨[a],[b,c],rfl,⟨a,rfl,h2⟩,[b],[c],rfl,⟨b,rfl,h3⟩,⟨c,rfl,h4⟩⟩
end
theorem SlR.len {α:Type} [Rp α]{P:Nat->Prop}{k:Nat}{h:H}{l:List α}{v:AV}(r:SlR P k h l v)(g:G):gB .slice v g=.val (.int .i64 (l.length:Int)):=by
 obtain ⟨rows,h1,h2⟩:=r.rows
 rw[eV h1,h2.len]
theorem SlR.tree {α:Type} [Rp α]{k k':Nat}{h h':H}{l:List α}{v:AV}(r:SlR NoP k h l v)(hk:k<=k'):SlR NoP k' h' l v:=by
 obtain ⟨w,hw,q⟩:=Rp.tree (P:=NoP) (k':=k') (h':=h') (show Rp.rp NoP k h l [v] from ⟨v,rfl,r⟩) hk
 injection hw with hw;subst hw;exact q
theorem dX {α:Type} [Rp α]{P:Nat->Prop}{k:Nat}{h:H}{l:List α}{v:AV}(r:SlR P k h l v)(d:Nat)(hd:Rp.dp (List α)<=20:=by decide) :
  ∃v',Hx.snap h d aA v=some v'/\∀h',SlR NoP (max k d) h' l v':=by
 obtain ⟨v',e,w,hw,q⟩:=qi (aQ l hd) (by decide) d (show One l P k h v from ⟨v,rfl,r⟩)
 injection hw with hw;subst hw
 exact ⟨v',e,fun h'=>q.tree (Nat.le_refl _)⟩
theorem SlR.all {α:Type} [Rp α]{k:Nat}{h:H}{l:List α}{v:AV}(r:SlR NoP k h l v) :
  ∃rows:List (List AV),(∀h',ak h' (Rp.sz α) v=some rows)/\rows.length=l.length/\(∀(i:Nat) (x:α),l[i]?=some x->∃row,rows[i]?=some row/\Rp.rp NoP k .nil x row)/\(0<l.length->om v=true):=by
 have r0:=(r.tree (h':=.nil) (Nat.le_refl _))
 obtain ⟨rows,h1,h2⟩:=r0.rows
 refine ⟨rows,fun h'=>?_,h2.len.symm,fun i x hi=>h2.get hi,fun hl=>nI h1 (i:=0) (by rw[<-h2.len];exact hl)⟩
 rw[<-h1]
 exact uR fun id ep off len lim e=>by subst e;exact r.2.1.elim
theorem zX {P:Nat->Prop}{k:Nat}{h:H}{l:List Nat}{v:AV}(r:SlR P k h l v):∀x∈l,x<18446744073709551616:=by
 obtain ⟨rows,h1,h2⟩:=r.rows
 intro x hx
 obtain ⟨i,hi,e⟩:=List.mem_iff_getElem.1 hx
 obtain ⟨row,h3,h4⟩:=h2.get (i:=i) (a:=x) (by rw[List.getElem?_eq_getElem hi,e])
 exact (dN.1 h4).2
theorem qt (p:Nat->Bool)(j:Nat):(List.range (j+1)).all p=((List.range j).all p&&p j):=by rw[List.range_succ,List.all_append];simp
theorem u_ {p:Nat->Bool}{j n:Nat}(h:j<n)(hp:p j=false):(List.range n).all p=false:=by
 rw[List.all_eq_false];exact ⟨j,List.mem_range.2 h,by rw[hp];decide⟩
end
end Hx
end
section
namespace Hx
open Go
noncomputable section
theorem qW {C:Cfg}{nt d:Nat}{rd:Option Nat}{c:Code}{t:T}{df:List ADf}{g:G}{Q:QT}(h:wp C d rd (dS C nt c) Q t df g):((I C).code nt d rd c t df g).sat Q:=by
 rw[CW];exact LK _ _ _ _ _ h
end
end Hx
end
