/- A part of the proof: an interpreter over abstract values, shown right against the model, and what the functions of the chapter compute on it. -/
import Derived.KernelRfl
import Derived.Test.YteaikmdilmfbeaaGreatHx9
set_option linter.unusedVariables false
set_option linter.unusedSimpArgs false
set_option linter.unnecessarySimpa false
section
namespace Hx
open Go
set_option maxRecDepth 100000
noncomputable section
def C0:Cfg:=Go.Proofs.YteaikmdilmfbeaaGreat.Gen.cfg1
def CS:Cfg:=Go.Proofs.YteaikmdilmfbeaaGreat.Gen.cfg
abbrev N.ON:Nat:=80
abbrev N.O0:Nat:=79
abbrev N.O1:Nat:=111
abbrev N.Pe:Nat:=28
abbrev N.OO:Nat:=78
abbrev N.Pf:Nat:=51
abbrev N.Pg:Nat:=14
abbrev N.PM:Nat:=6
abbrev N.Ph:Nat:=13
abbrev N.PO:Nat:=12
abbrev N.Pi:Nat:=93
abbrev N.O2:Nat:=123
abbrev N.Pj:Nat:=87
abbrev N.O3:Nat:=150
abbrev N.OG:Nat:=165
abbrev N.Pk:Nat:=124
abbrev N.O4:Nat:=85
abbrev N.O5:Nat:=40
abbrev N.OP:Nat:=162
abbrev N.OH:Nat:=161
abbrev N.OQ:Nat:=117
abbrev N.OS:Nat:=147
abbrev N.Pl:Nat:=146
abbrev N.OT:Nat:=116
abbrev N.Pm:Nat:=164
abbrev N.O6:Nat:=163
abbrev N.OI:Nat:=148
abbrev N.O7:Nat:=68
abbrev N.Pn:Nat:=91
abbrev N.OU:Nat:=47
abbrev N.Po:Nat:=67
abbrev N.Pp:Nat:=60
abbrev N.OK:Nat:=48
abbrev N.Pq:Nat:=104
abbrev N.Pr:Nat:=133
abbrev N.O8:Nat:=46
abbrev N.OV:Nat:=92
abbrev N.O9:Nat:=15
abbrev N.Ps:Nat:=103
abbrev N.O_:Nat:=152
abbrev N.Pt:Nat:=31
abbrev N.Pu:Nat:=54
abbrev N.Pa:Nat:=65
abbrev N.OW:Nat:=49
abbrev N.Pv:Nat:=134
abbrev N.Pw:Nat:=102
abbrev N.Px:Nat:=105
abbrev N.Py:Nat:=153
abbrev N.OX:Nat:=64
abbrev N.OL:Nat:=69
abbrev N.Pb:Nat:=63
abbrev N.OM:Nat:=50
abbrev N.Pz:Nat:=59
abbrev N.PA:Nat:=30
abbrev N.PB:Nat:=32
abbrev N.PC:Nat:=29
abbrev N.PD:Nat:=37
abbrev N.PG:Nat:=94
abbrev N.PI:Nat:=18
abbrev N.PJ:Nat:=129
abbrev N.PN:Nat:=77
abbrev N.Pc:Nat:=97
abbrev N.OY:Nat:=96
abbrev N.OJ:Nat:=131
abbrev N.OZ:Nat:=53
abbrev N.PK:Nat:=130
abbrev N.PL:Nat:=98
abbrev N.Pd:Nat:=95
def cT:SC:=sQ [o 43 (.bin .lss (.t 42) (qI 3))] (.seq (.cond (.t 43) (.skip) (.exit 4)) (.seq (.blk 5 (sQ [o 44 (.ix false 3 1 (.t 41) (.t 42)),oM 14 44] (sQ [o 46 (.load true 2 (.t 10)),o 47 (.ixa 2 1 (.t 12) (qI 0)),oL 48 47,oM 49 14,o 50 (.call N.Pe [.t 46,.t 48,.t 49]),oM 45 50,o 51 (.ext (.t 45) 0),o 52 (.ext (.t 45) 1),o 53 (.ext (.t 45) 2),oM 15 51,oM 16 52,oM 17 53] (sQ [o 55 (.load true 2 (.t 10)),o 56 (.ixa 2 1 (.t 12) (qI 0)),oL 57 56,oM 58 14,o 59 (.call N.PC [.t 55,.t 57,.t 58]),oM 54 59,o 60 (.ext (.t 54) 0),o 61 (.ext (.t 54) 1),o 62 (.ext (.t 54) 2),oM 18 60,oM 19 61,oM 20 62] (sQ [oM 63 17,oM 64 20,o 65 (.bin .neq (.t 63) (.t 64)),oM 66 65,og 67 66 false (.mv (.t 15)),og 68 66 false (.mv (.t 18)),og 69 66 false (.call N.PI [.t 67,.t 68]),og 70 66 false (.not (.t 69)),o 71 (.pick (.t 66) (.k (.bool true)) (.t 70)),oM 72 71,og 73 72 false (.mv (.t 16)),og 74 72 false (.mv (.t 19)),og 75 72 false (.call N.PA [.t 73,.t 74]),og 76 72 false (.not (.t 75)),o 77 (.pick (.t 72) (.k (.bool true)) (.t 76))] (.cond (.t 77) (sQ [o 8 (.mv (.k (.bool false)))] (.ret)) (.skip))))))) (.ops [oA 78 42,oM 42 78])))
def eZ:SC:=.ops [oA 79 33,oM 33 79]
def cU:SC:=sQ [o 34 (.bin .lss (.t 33) (qI 3))] (.seq (.cond (.t 34) (.skip) (.exit 2)) (.seq (.blk 3 (sQ [o 35 (.ix true 3 2 (.t 32) (.t 33)),o 12 (.alloc [.nils,.nils]),oz (.store 2 (.t 12) (.t 35))] (sQ [oM 36 3,oM 37 3,o 38 (.mn (.t 37) (qI 0)),oM 39 3,o 40 (.mx (.t 39) (qI 51)),o 41 (.build [.int .i64 0,.int .i64 0,.int .i64 0] [(0,1),(1,1),(2,1)] [.t 36,.t 38,.t 40]),oK 42 0] (.blk 4 (.loop cT))))) eZ))
def e8:SC:=.ops [oA 80 26,oM 26 80]
def eX:SC:=sQ [o 27 (.bin .lss (.t 26) (qI 2))] (.seq (.cond (.t 27) (.skip) (.exit 0)) (.seq (.blk 1 (sQ [o 28 (.ix true 2 2 (.t 25) (.t 26)),o 10 (.alloc [.int .i64 0,.nils]),oz (.store 2 (.t 10) (.t 28))] (.seq (.quiet [o 29 (.load true 12 (.t 6)),o 30 (.load true 3 (.t 4)),o 31 (.call N.O9 [.t 30]),o 32 (.call N.Pg [.t 29,.t 31]),oK 33 0]) (.blk 2 (.loop cU))))) e8))
def e_:SC:=sQ [o 8 (.mv (.k (.bool true)))] (.ret)
def fS:SC:=.seq (sQ [o 21 (.call N.PO []),o 22 (.not (.t 21))] (.cond (.t 22) (sQ [o 8 (.mv (.k (.bool false)))] (.ret)) (.skip))) (.seq (sQ [o 23 (.load true 3 (.t 4)),o 24 (.load true 4 (.t 5)),o 25 (.call N.Ph [.t 23,.t 24]),oK 26 0] (.blk 0 (.loop eX))) e_)
def dS:SF:=⟨81,[.tm 8],sQ [o 4 (.box (.t 0)),o 5 (.box (.t 1)),o 6 (.box (.t 2)),o 8 (.mv (.k (.bool false)))] fS⟩
def qw:SC:=sQ [o 6 (.load true 3 (.t 2)),o 7 (.call N.O9 [.t 6]),o 5 (.alloc [.int .i64 0,.nils]),oz (.store 2 (.t 5) (.t 7))] (.seq (.feet [0,0,0,6,15,31] [o 8 (.load true 2 (.t 5)),o 9 (.load true 4 (.t 3)),o 10 (.load true 2 (.t 5)),o 11 (.call N.O8 [.t 9,.t 10]),o 12 (.build [.int .i64 0,.nils,.int .i64 0,.nils] [(0,2),(2,2)] [.t 8,.t 11]),oz (.store 4 (.t 4) (.t 12))]) (.ret))
def oS:SF:=⟨13,[.cell true 4 4],sQ [o 2 (.box (.t 0)),o 3 (.box (.t 1)),o 4 (.alloc [.int .i64 0,.nils,.int .i64 0,.nils])] qw⟩
def jH:SC:=.seq (.quiet [oF 7 0 2,o 8 (.load true 9 (.t 7)),o 9 (.load true 2 (.t 3)),o 10 (.call N.Pt [.t 8,.t 9]),oF 11 9 2,oL 12 11,oF 13 1 3,oL 14 13,oN 15 14,o 16 (.call N.PB [.t 12,.t 15]),oM 5 10,oM 6 16]) (.seq (.feet [0,0,3,0,8,0,32,96,224,504,0,2040,0,0,8192,0,32768,98304,229376,516096,1044480,2097151,4194303] [oM 17 5,oM 18 6,o 19 (.build [.nils,.nils] [(0,1),(1,1)] [.t 17,.t 18]),oF 20 10 2,oL 21 20,oF 22 10 2,oL 23 22,oN 24 23,o 25 (.mn (.t 24) (qI 10)),o 26 (.slc 1 (.t 21) [] [.t 25]),oM 27 6,o 28 (.build [.nils,.nils] [(0,1),(1,1)] [.t 26,.t 27]),oM 29 5,oF 30 11 2,oL 31 30,oF 32 11 2,oL 33 32,oN 34 33,o 35 (.mn (.t 34) (qI 10)),o 36 (.slc 1 (.t 31) [] [.t 35]),o 37 (.build [.nils,.nils] [(0,1),(1,1)] [.t 29,.t 36]),o 38 (.build [.nils,.nils,.nils,.nils,.nils,.nils] [(0,2),(2,2),(4,2)] [.t 19,.t 28,.t 37]),oz (.store 6 (.t 4) (.t 38))]) (.ret))
def gD:SF:=⟨39,[.cell true 6 4],sQ [o 2 (.box (.t 0)),o 3 (.box (.t 1)),o 4 (.alloc [.nils,.nils,.nils,.nils,.nils,.nils])] jH⟩
def qF:SC:=sQ [oM 65 6,oM 66 9,o 67 (.bin .mul (.t 65) (.t 66)),oM 6 67] (.feet [0,1,0,0,12,28,0,127,255,511] [oF 68 1 4,oL 69 68,oM 70 5,oM 71 7,oX 72 70 71,oL 73 72,oM 74 9,o 75 (.ixs 3 (.t 69) (.t 73)),oF 76 0 75,oz (.store 1 (.t 76) (.t 74))])
def qG:SC:=sQ [oF 50 0 8,oL 51 50,o 52 (.bin .rem (.t 51) (.k (.int .u8 2))),o 53 (.conv .i64 (.t 52)),o 54 (.bin .add (qI 2) (.t 53)),oM 9 54] (.seq (sQ [oM 55 6,oM 56 9,o 57 (.bin .mul (.t 55) (.t 56)),oM 58 3,o 59 (.bin .sub (.t 58) (qI 1)),oM 60 7,o 61 (.bin .sub (.t 59) (.t 60)),o 62 (.conv .u64 (.t 61)),o 63 (.bin .shl (.t 57) (.t 62)),o 64 (.bin .gtr (.t 63) (qI 100))] (.cond (.t 64) (.ops [oK 9 2]) (.skip))) qF)
def iV:SC:=.ops [oM 38 7,oA 39 38,oM 7 39]
def d7:SC:=.seq (sQ [oM 35 7,oM 36 3,o 37 (.bin .lss (.t 35) (.t 36))] (.cond (.t 37) (.skip) (.exit 0))) (.seq (.blk 1 (sQ [o 8 (.alloc [.int .u8 0,.int .u8 0,.nils])] (.seq (sQ [oM 40 7,oF 41 1 1,oL 42 41,oN 43 42,o 44 (.bin .lss (.t 40) (.t 43))] (.cond (.t 44) (.ops [oF 45 1 1,oL 46 45,oM 47 7,o 48 (.ixs 3 (.t 46) (.t 47)),o 49 (.load true 3 (.t 48)),oz (.store 3 (.t 8) (.t 49))]) (.skip))) qG))) iV)
def iW:SC:=.ops [oM 104 14,oA 105 104,oM 14 105]
def d8:SC:=.seq (sQ [oM 101 14,oM 102 10,o 103 (.bin .lss (.t 101) (.t 102))] (.cond (.t 103) (.skip) (.exit 6))) (.seq (.blk 7 (sQ [oM 106 5,oM 107 14,oX 108 106 107,oL 109 108,oM 110 13,o 111 (.bin .eql (.t 109) (.t 110)),oM 112 111,og 113 112 true (.fad 1 (.t 11)),og 114 112 true (.load false 1 (.t 113)),og 115 112 true (.mv (.t 14)),og 116 112 true (.conv .u64 (.t 115)),og 117 112 true (.bin .shr (.t 114) (.t 116)),og 118 112 true (.bin .and (.t 117) (.k (.int .u8 1))),og 119 112 true (.bin .eql (.t 118) (.k (.int .u8 1))),o 120 (.pick (.t 112) (.t 119) (.k (.bool false))),oM 121 120,og 122 121 true (.fad 1 (.t 4)),og 123 121 true (.load false 1 (.t 122)),og 124 121 true (.mv (.t 12)),og 125 121 true (.ixs 3 (.t 123) (.t 124)),og 126 121 true (.fad 1 (.t 125)),og 127 121 true (.load false 1 (.t 126)),og 128 121 true (.len .slice (.t 127)),og 129 121 true (.bin .lss (.t 128) (qI 3)),o 130 (.pick (.t 121) (.t 129) (.k (.bool false)))] (.cond (.t 130) (.feet [0,1,0,0,8,0,56,120,248,0,512,2040,4095,8191,16383] [oF 131 1 4,oL 132 131,oM 133 12,oF 134 1 4,oL 135 134,oM 136 12,o 137 (.ixs 3 (.t 135) (.t 136)),oF 138 1 137,oL 139 138,oM 140 13,o 141 (.bsl 1 1 [.int .i64 0] [0] [.t 140]),o 142 (.app 1 8 (.t 139) (.t 141)),o 143 (.ixs 3 (.t 132) (.t 133)),oF 144 1 143,oz (.store 1 (.t 144) (.t 142))]) (.skip)))) iW)
def iX:SC:=.ops [oM 99 13,oA 100 99,oM 13 100]
def d9:SC:=.seq (sQ [oM 96 13,oM 97 3,o 98 (.bin .lss (.t 96) (.t 97))] (.cond (.t 98) (.skip) (.exit 4))) (.seq (.blk 5 (sQ [oK 14 0] (.blk 6 (.loop d8)))) iX)
def d_:SC:=.seq (sQ [oM 145 15,o 146 (.load true 2 (.t 4)),oM 147 12,o 148 (.call N.OW [.t 146,.t 147]),o 149 (.call N.OK [.t 148]),o 150 (.bin .lss (.t 145) (.t 149))] (.cond (.t 150) (.skip) (.exit 8))) (.seq (.blk 9 (.feet [0,1,0,0,8,0,56,120,248,0,512,0,2048,0,14336,30720,63488,0,131072,0,0,1048576,0,7340032,15728640,32505856,66060288,133693440,268434944,536870400,1073741816,2147483647,4294967295,8589934591] [oF 153 1 4,oL 154 153,oM 155 12,oF 156 1 4,oL 157 156,oM 158 12,o 159 (.ixs 3 (.t 157) (.t 158)),oF 160 2 159,oL 161 160,oF 162 0 4,oL 163 162,oF 164 1 4,oL 165 164,oM 166 12,o 167 (.ixs 3 (.t 165) (.t 166)),oF 168 0 167,oL 169 168,oF 170 2 11,oL 171 170,oM 172 15,oF 173 1 4,oL 174 173,oM 175 12,o 176 (.ixs 3 (.t 174) (.t 175)),oF 177 0 176,oL 178 177,oA 179 178,o 180 (.bin .mul (.t 172) (.t 179)),o 181 (.call N.OM [.t 163,.t 169,.t 171,.t 180]),o 182 (.bsl 1 1 [.nils] [0] [.t 181]),o 183 (.app 1 24 (.t 161) (.t 182)),o 184 (.ixs 3 (.t 154) (.t 155)),oF 185 2 184,oz (.store 1 (.t 185) (.t 183))])) (.ops [oM 151 15,oA 152 151,oM 15 152]))
def iY:SC:=sQ [oK 15 0] (.blk 8 (.loop d_))
def hY:SC:=sQ [oM 92 5,oM 93 10,oX 94 92 93,oL 95 94,oM 12 95] (.seq (sQ [oK 13 0] (.blk 4 (.loop d9))) iY)
def hZ:SC:=.ops [oM 80 10,oA 81 80,oM 10 81]
def dT:SC:=.seq (sQ [oM 77 10,oM 78 3,o 79 (.bin .lss (.t 77) (.t 78))] (.cond (.t 79) (.skip) (.exit 2))) (.seq (.blk 3 (sQ [o 11 (.alloc [.int .u8 0,.int .u8 0,.nils])] (.seq (sQ [oM 82 10,oF 83 1 1,oL 84 83,oN 85 84,o 86 (.bin .lss (.t 82) (.t 85))] (.cond (.t 86) (.ops [oF 87 1 1,oL 88 87,oM 89 10,o 90 (.ixs 3 (.t 88) (.t 89)),o 91 (.load true 3 (.t 90)),oz (.store 3 (.t 11) (.t 91))]) (.skip))) hY))) hZ)
def h_:SC:=sQ [o 186 (.load true 2 (.t 4)),oz (.store 2 (.t 2) (.t 186))] (.ret)
def ia:SC:=.seq (sQ [oK 10 0] (.blk 2 (.loop dT))) h_
def jI:SC:=sQ [oF 16 1 1,oL 17 16,oN 18 17,o 19 (.mx (.t 18) (qI 1)),o 20 (.mn (.t 19) (qI 5)),oM 3 20] (.seq (.feet [0,1,3,7,15,0,32,127,0,511] [oF 21 0 1,oL 22 21,o 23 (.bin .rem (.t 22) (.k (.int .u8 60))),o 24 (.conv .i64 (.t 23)),o 25 (.bin .add (qI 1) (.t 24)),oM 26 3,o 27 (.mks 3 56 [.int .i64 0,.nils,.nils] (.t 26) (.t 26)),o 28 (.build [.int .i64 0,.nils] [(0,1),(1,1)] [.t 25,.t 27]),o 4 (.alloc [.int .i64 0,.nils]),oz (.store 2 (.t 4) (.t 28))]) (.seq (.feet [0,1,0,4,15,31,63] [oM 29 3,o 30 (.mks 1 1 [.int .u8 0] (.t 29) (.t 29)),oF 31 2 1,oL 32 31,o 33 (.build [.nils,.int .u16 0,.nils] [(0,1),(2,1)] [.t 30,.t 32]),o 34 (.call N.OU [.t 33]),oM 5 34]) (sQ [oK 6 1] (.seq (sQ [oK 7 0] (.blk 0 (.loop d7))) ia))))
def gM:SF:=⟨187,[.cell true 2 2],sQ [o 1 (.box (.t 0)),o 2 (.alloc [.int .i64 0,.nils])] jI⟩
def fY:SC:=sQ [o 14 (.bin .lss (.t 13) (.t 12))] (.seq (.cond (.t 14) (.skip) (.exit 0)) (.seq (.blk 1 (sQ [oM 15 13,oM 5 15] (.seq (.quiet [oM 16 0,oM 17 5,oX 18 16 17,oL 19 18,oM 20 1,oM 21 5,oX 22 20 21,oL 23 22,o 24 (.bin .neq (.t 19) (.t 23))]) (.cond (.t 24) (sQ [o 4 (.mv (.k (.bool false)))] (.ret)) (.skip))))) (.ops [oA 25 13,oM 13 25])))
def fZ:SC:=sQ [o 4 (.mv (.k (.bool true)))] (.ret)
def cR:SF:=⟨26,[.tm 4],sQ [o 4 (.mv (.k (.bool false)))] (.seq (sQ [oM 6 0,oN 7 6,oM 8 1,oN 9 8,o 10 (.bin .neq (.t 7) (.t 9))] (.cond (.t 10) (sQ [o 4 (.mv (.k (.bool false)))] (.ret)) (.skip))) (.seq (sQ [oM 11 0,oN 12 11,oK 13 0] (.blk 0 (.loop fY))) fZ))⟩
def jE:SC:=.ops [oA 53 42,oM 42 53]
def jC:SC:=sQ [o 43 (.bin .lss (.t 42) (.t 41))] (.seq (.cond (.t 43) (.skip) (.exit 0)) (.seq (.blk 1 (sQ [oM 44 42,oX 45 40 42,oL 46 45,oM 12 44,oM 13 46] (sQ [oM 47 13,o 48 (.bin .gtr (.t 47) (qI 0))] (.cond (.t 48) (.ops [oM 49 11,oM 50 12,o 51 (.bsl 1 1 [.int .i64 0] [0] [.t 50]),o 52 (.app 1 8 (.t 49) (.t 51)),oM 11 52]) (.skip))))) jE))
def jD:SC:=sQ [o 67 (.bin .lss (.t 66) (.t 65))] (.seq (.cond (.t 67) (.skip) (.exit 2)) (.seq (.blk 3 (sQ [oX 68 64 66,oL 69 68,oM 16 69] (.feet [0,0,2,6,14,0,62,126,0,256,768,1792,4094,8190,16383,32767] [oM 70 14,oL 71 9,o 72 (.nilc (.t 71)),oF 73 4 72,oL 74 73,oM 75 16,oX 76 74 75,oL 77 76,oL 78 9,o 79 (.nilc (.t 78)),oF 80 5 79,oL 81 80,o 82 (.call N.OZ [.t 77,.t 81]),o 83 (.bsl 2 1 [.int .i64 0,.int .i64 0] [0] [.t 82]),o 84 (.app 2 16 (.t 70) (.t 83)),oM 14 84]))) (.ops [oA 85 66,oM 66 85])))
def jF:SC:=sQ [oM 86 11,oM 87 14,oM 6 86,oM 7 87,oK 8 0] (.ret)
def jG:SC:=sQ [oM 54 11,o 55 (.mkf N.OO [] [.t 9]),o 56 (.call N.PN [.t 54,.t 55])] (sQ [oM 57 11,oM 58 2,oM 59 11,oN 60 59,o 61 (.mn (.t 58) (.t 60)),o 62 (.slc 1 (.t 57) [] [.t 61]),o 63 (.call N.PD [.t 62]),oM 11 63] (sQ [o 14 (.mv (.k (.nils)))] (.seq (sQ [oM 64 11,oN 65 64,oK 66 0] (.blk 2 (.loop jD))) jF)))
def ku:SC:=sQ [o 18 (.load true 2 (.t 3)),oM 19 1,o 20 (.call N.Pf [.t 18,.t 19,.k (.nils)]),oM 17 20,o 21 (.ext (.t 17) 0),o 22 (.ext (.t 17) 1),o 9 (.alloc [.nilp]),oz (.store 1 (.t 9) (.t 21)),oM 10 22] (.seq (sQ [oM 23 10,o 24 (.bin .neq (.t 23) (qI 0))] (.cond (.t 24) (sQ [oM 25 10,o 6 (.mv (.k (.nils))),o 7 (.mv (.k (.nils))),oM 8 25] (.ret)) (.skip))) (.seq (sQ [oM 26 2,o 27 (.bin .lss (.t 26) (qI 1)),oM 28 27,og 29 28 false (.mv (.t 2)),og 30 28 false (.bin .gtr (.t 29) (qI 50)),o 31 (.pick (.t 28) (.k (.bool true)) (.t 30))] (.cond (.t 31) (sQ [o 6 (.mv (.k (.nils))),o 7 (.mv (.k (.nils))),oK 8 2] (.ret)) (.skip))) (.seq (sQ [oL 32 9,o 33 (.nilc (.t 32)),oF 34 5 33,oL 35 34,o 36 (.bin .eql (.t 35) (qI 0))] (.cond (.t 36) (sQ [o 6 (.mv (.k (.nils))),o 7 (.mv (.k (.nils))),oK 8 7] (.ret)) (.skip))) (sQ [o 11 (.mv (.k (.nils)))] (.seq (sQ [oL 37 9,o 38 (.nilc (.t 37)),oF 39 4 38,oL 40 39,oN 41 40,oK 42 0] (.blk 0 (.loop jC))) jG)))))
def io:SF:=⟨88,[.tm 6,.tm 7,.tm 8],sQ [o 3 (.box (.t 0)),o 6 (.mv (.k (.nils))),o 7 (.mv (.k (.nils))),oK 8 0] ku⟩
def md:SC:=.ops [oM 45 16,oA 46 45,oM 16 46]
def gN:SC:=.seq (sQ [oM 41 16,oM 42 11,oN 43 42,o 44 (.bin .lss (.t 41) (.t 43))] (.cond (.t 44) (.skip) (.exit 2))) (.seq (.blk 3 (sQ [oM 47 11,oM 48 16,oX 49 47 48,oL 50 49,o 51 (.not (.t 50)),oM 52 51,og 53 52 true (.load true 2 (.t 3)),og 54 52 true (.mv (.t 16)),og 55 52 true (.call N.OX [.t 53,.t 54]),og 56 52 true (.mv (.t 1)),og 57 52 true (.call N.Pa [.t 55,.t 56]),o 58 (.pick (.t 52) (.t 57) (.k (.bool false))),oM 59 58,og 60 59 true (.load true 2 (.t 3)),og 61 59 true (.mv (.t 16)),og 62 59 true (.call N.OL [.t 60,.t 61]),og 63 59 true (.mv (.t 14)),og 64 59 true (.bin .gtr (.t 62) (.t 63)),o 65 (.pick (.t 59) (.t 64) (.k (.bool false)))] (.cond (.t 65) (sQ [o 66 (.load true 2 (.t 3)),oM 67 16,o 68 (.call N.OL [.t 66,.t 67]),oM 14 68] (.ops [oM 69 16,oM 15 69])) (.skip)))) md)
def gO:SC:=.seq (sQ [oM 70 15,o 71 (.bin .lss (.t 70) (qI 0))] (.cond (.t 71) (.exit 0) (.skip))) (sQ [oM 72 11,oM 73 15,oX 74 72 73,oz (.store 1 (.t 74) (.k (.bool true)))] (sQ [oM 75 12,oM 76 15,o 77 (.bsl 1 1 [.int .i64 0] [0] [.t 76]),o 78 (.app 1 8 (.t 75) (.t 77)),oM 12 78] (.ops [oM 79 13,oM 80 14,oM 81 10,o 82 (.call N.O5 [.t 80,.t 81]),o 83 (.bsl 2 1 [.int .i64 0,.int .i64 0] [0] [.t 82]),o 84 (.app 2 16 (.t 79) (.t 83)),oM 13 84])))
def dY:SC:=.seq (sQ [oM 37 12,oN 38 37,oM 39 2,o 40 (.bin .lss (.t 38) (.t 39))] (.cond (.t 40) (.skip) (.exit 0))) (.blk 1 (sQ [oK 14 0,oK 15 (-1)] (.seq (sQ [oK 16 0] (.blk 2 (.loop gN))) gO)))
def me:SC:=sQ [oM 85 12,oM 86 13,oM 6 85,oM 7 86,oK 8 0] (.ret)
def ct:SC:=.seq (sQ [o 17 (.load true 2 (.t 3)),oM 18 1,o 19 (.call N.Pz [.t 17,.t 18]),oM 9 19] (sQ [oM 20 9,o 21 (.bin .neq (.t 20) (qI 0))] (.cond (.t 21) (sQ [oM 22 9,o 6 (.mv (.k (.nils))),o 7 (.mv (.k (.nils))),oM 8 22] (.ret)) (.skip)))) (.seq (sQ [oM 23 2,o 24 (.bin .lss (.t 23) (qI 1)),oM 25 24,og 26 25 false (.mv (.t 2)),og 27 25 false (.bin .gtr (.t 26) (qI 50)),o 28 (.pick (.t 25) (.k (.bool true)) (.t 27))] (.cond (.t 28) (sQ [o 6 (.mv (.k (.nils))),o 7 (.mv (.k (.nils))),oK 8 2] (.ret)) (.skip))) (sQ [o 29 (.load true 2 (.t 3)),oM 30 1,o 31 (.call N.Pu [.t 29,.t 30]),oM 10 31] (.seq (sQ [oM 32 10,o 33 (.bin .eql (.t 32) (qI 0))] (.cond (.t 33) (sQ [o 6 (.mv (.k (.nils))),o 7 (.mv (.k (.nils))),oK 8 7] (.ret)) (.skip))) (sQ [o 34 (.load true 2 (.t 3)),o 35 (.call N.Pb [.t 34]),o 36 (.mks 1 1 [.bool false] (.t 35) (.t 35)),oM 11 36] (sQ [o 12 (.mv (.k (.nils)))] (sQ [o 13 (.mv (.k (.nils)))] (.seq (.blk 0 (.loop dY)) me)))))))
def cz:SF:=⟨87,[.tm 6,.tm 7,.tm 8],sQ [o 3 (.box (.t 0)),o 6 (.mv (.k (.nils))),o 7 (.mv (.k (.nils))),oK 8 0] ct⟩
def nU:SC:=.seq (sQ [oM 11 5,oM 12 0,oN 13 12,o 14 (.bin .lss (.t 11) (.t 13))] (.cond (.t 14) (.skip) (.exit 0))) (.seq (.blk 1 (.seq (.quiet [oM 17 0,oM 18 5,o 19 (.ixs 2 (.t 17) (.t 18)),o 20 (.load true 2 (.t 19)),oM 21 1,oM 22 5,o 23 (.ixs 2 (.t 21) (.t 22)),o 24 (.load true 2 (.t 23)),o 25 (.eq true (.flat [.int .i64,.int .i64]) (.t 20) (.t 24))]) (.cond (.t 25) (sQ [o 4 (.mv (.k (.bool false)))] (.ret)) (.skip)))) (.ops [oM 15 5,oA 16 15,oM 5 16]))
def nV:SC:=sQ [o 4 (.mv (.k (.bool true)))] (.ret)
def mQ:SF:=⟨26,[.tm 4],sQ [o 4 (.mv (.k (.bool false)))] (.seq (sQ [oM 6 0,oN 7 6,oM 8 1,oN 9 8,o 10 (.bin .neq (.t 7) (.t 9))] (.cond (.t 10) (sQ [o 4 (.mv (.k (.bool false)))] (.ret)) (.skip))) (.seq (sQ [oK 5 0] (.blk 0 (.loop nU))) nV))⟩
def eR:SC:=.ops [oM 34 5,oM 35 7,o 36 (.bsl 1 1 [.int .i64 0] [0] [.t 35]),o 37 (.app 1 8 (.t 34) (.t 36)),oM 5 37]
def sD:SC:=.ops [oM 13 6,oA 14 13,oM 6 14]
def sC:SC:=.seq (sQ [oM 8 6,oF 9 1 3,oL 10 9,oN 11 10,o 12 (.bin .lss (.t 8) (.t 11))] (.cond (.t 12) (.skip) (.exit 0))) (.seq (.blk 1 (sQ [oK 7 (-1)] (.seq (sQ [oF 15 0 2,oL 16 15,oM 17 6,o 18 (.conv .u64 (.t 17)),o 19 (.bin .shr (.t 16) (.t 18)),o 20 (.bin .and (.t 19) (.k (.int .u8 1))),o 21 (.bin .eql (.t 20) (.k (.int .u8 1)))] (.cond (.t 21) (.quiet [oM 22 6,oF 23 1 2,o 24 (.ixa 8 1 (.t 23) (.t 22)),oL 25 24,o 26 (.conv .i64 (.t 25)),oF 27 1 3,oL 28 27,oM 29 6,o 30 (.ixs 3 (.t 28) (.t 29)),oF 31 0 30,oL 32 31,o 33 (.bin .rem (.t 26) (.t 32)),oM 7 33]) (.skip))) eR))) sD)
def jL:SC:=sQ [oM 38 5,oM 4 38] (.ret)
def kT:SC:=sQ [o 5 (.mv (.k (.nils)))] (.seq (sQ [oK 6 0] (.blk 0 (.loop sC))) jL)
def it:SF:=⟨39,[.tm 4],sQ [o 2 (.box (.t 0)),o 3 (.box (.t 1)),o 4 (.mv (.k (.nils)))] kT⟩
def nX:SC:=.ops [oM 14 6,oA 15 14,oM 6 15]
def nW:SC:=.seq (sQ [oM 7 6,oM 8 1,o 9 (.bin .lss (.t 7) (.t 8)),oM 10 9,og 11 10 true (.mv (.t 6)),og 12 10 true (.bin .lss (.t 11) (qI 8)),o 13 (.pick (.t 10) (.t 12) (.k (.bool false)))] (.cond (.t 13) (.skip) (.exit 0))) (.seq (.blk 1 (sQ [oM 16 0,oM 17 6,o 18 (.conv .u64 (.t 17)),o 19 (.bin .shr (.t 16) (.t 18)),o 20 (.bin .and (.t 19) (.k (.int .u8 1))),o 21 (.bin .eql (.t 20) (.k (.int .u8 1)))] (.cond (.t 21) (.ops [oM 22 5,oM 23 6,o 24 (.bsl 1 1 [.int .i64 0] [0] [.t 23]),o 25 (.app 1 8 (.t 22) (.t 24)),oM 5 25]) (.skip)))) nX)
def nY:SC:=sQ [oM 26 5,oM 4 26] (.ret)
def mS:SF:=⟨27,[.tm 4],sQ [o 4 (.mv (.k (.nils)))] (sQ [o 5 (.mv (.k (.nils)))] (.seq (sQ [oK 6 0] (.blk 0 (.loop nW))) nY))⟩
def cQ:SF:=⟨8,[.tm 2],sQ [o 2 (.mv (.k (.nils)))] (.seq (sQ [oM 3 0,o 4 (.eq false .slice (.t 3) (.k (.nils)))] (.cond (.t 4) (sQ [o 2 (.mv (.k (.nils)))] (.ret)) (.skip))) (sQ [o 5 (.bsl 1 0 [.int .i64 0] [] []),oM 6 0,o 7 (.app 1 8 (.t 5) (.t 6)),oM 2 7] (.ret)))⟩
def ux:SC:=sQ [oM 8 0,oM 9 1,o 10 (.call N.O4 [.t 8,.t 9]),oM 7 10,o 11 (.ext (.t 7) 0),o 12 (.ext (.t 7) 1),o 5 (.alloc [.int .i64 0,.int .i64 0]),oz (.store 2 (.t 5) (.t 11)),oM 6 12] (sQ [o 13 (.load true 2 (.t 5)),oz (.store 2 (.t 4) (.t 13))] (.ret))
def tu:SF:=⟨14,[.cell true 2 4],sQ [o 4 (.alloc [.int .i64 0,.int .i64 0])] ux⟩
def fC:SC:=.seq (sQ [oM 39 8,oF 40 1 3,oL 41 40,oM 42 6,o 43 (.ixs 3 (.t 41) (.t 42)),oF 44 2 43,oL 45 44,oN 46 45,o 47 (.bin .lss (.t 39) (.t 46))] (.cond (.t 47) (.skip) (.exit 2))) (.seq (.blk 3 (sQ [o 9 (.mv (.k (.nils)))] (.feet [0,1,0,0,8,0,56,120,248,0,1016,2040,4092,8188,16383,32767,65535] [oF 50 2 7,oL 51 50,oM 52 9,oF 53 1 3,oL 54 53,oM 55 6,o 56 (.ixs 3 (.t 54) (.t 55)),oF 57 2 56,oL 58 57,oM 59 8,oX 60 58 59,oL 61 60,o 62 (.app 1 8 (.t 52) (.t 61)),o 63 (.bsl 1 1 [.nils] [0] [.t 62]),o 64 (.app 1 24 (.t 51) (.t 63)),oF 65 2 7,oz (.store 1 (.t 65) (.t 64))]))) (.ops [oM 48 8,oA 49 48,oM 8 49]))
def kN:SC:=.ops [oM 66 5,o 67 (.load true 3 (.t 7)),o 68 (.bsl 3 1 [.int .i64 0,.nils,.nils] [0] [.t 67]),o 69 (.app 3 56 (.t 66) (.t 68)),oM 5 69]
def kP:SC:=.ops [oM 20 6,oA 21 20,oM 6 21]
def fD:SC:=.seq (sQ [oM 15 6,oF 16 1 3,oL 17 16,oN 18 17,o 19 (.bin .lss (.t 15) (.t 18))] (.cond (.t 19) (.skip) (.exit 0))) (.seq (.blk 1 (sQ [oF 22 1 3,oL 23 22,oM 24 6,o 25 (.ixs 3 (.t 23) (.t 24)),oF 26 0 25,oL 27 26,o 28 (.build [.int .i64 0,.nils,.nils] [(0,1)] [.t 27]),o 7 (.alloc [.int .i64 0,.nils,.nils]),oz (.store 3 (.t 7) (.t 28))] (.seq (.feet [0,1,0,4,0,28,60,124,255,511,1023] [oF 29 1 7,oL 30 29,oF 31 1 3,oL 32 31,oM 33 6,o 34 (.ixs 3 (.t 32) (.t 33)),oF 35 1 34,oL 36 35,o 37 (.app 1 8 (.t 30) (.t 36)),oF 38 1 7,oz (.store 1 (.t 38) (.t 37))]) (.seq (sQ [oK 8 0] (.blk 2 (.loop fC))) kN)))) kP)
def dC:SC:=.seq (sQ [oM 264 12,oM 265 13,o 266 (.bin .lss (.t 264) (.t 265))] (.cond (.t 266) (.skip) (.exit 5))) (.seq (.blk 6 (sQ [oM 269 10,o 270 (.nilc (.t 269)),oF 271 2 270,oL 272 271,oM 273 11,oX 274 272 273,oL 275 274,oM 276 12,oX 277 275 276,oL 278 277,oM 14 278] (.seq (.feet [0,1,3,7,0,31,63,0,0,256,768,1792,0,7936,16128,0,65280,130816,262143,524287] [oM 279 10,o 280 (.nilc (.t 279)),oF 281 2 280,oL 282 281,oM 283 11,oX 284 282 283,oL 285 284,oM 286 12,oM 287 10,o 288 (.nilc (.t 287)),oF 289 2 288,oL 290 289,oM 291 11,oX 292 290 291,oL 293 292,oM 294 13,oX 295 293 294,oL 296 295,oX 297 285 286,oz (.store 1 (.t 297) (.t 296))]) (sQ [oM 298 10,o 299 (.nilc (.t 298)),oF 300 2 299,oL 301 300,oM 302 11,oX 303 301 302,oL 304 303,oM 305 13,oM 306 14,oX 307 304 305,oz (.store 1 (.t 307) (.t 306))] (.ops [oM 308 13,o 309 (.bin .sub (.t 308) (qI 1)),oM 13 309]))))) (.ops [oM 267 12,oA 268 267,oM 12 268]))
def dD:SC:=sQ [o 322 (.load true 2 (.t 3)),oz (.store 2 (.t 4) (.t 322))] (.ret)
def fE:SC:=.seq (sQ [oF 99 0 2,oL 100 99,o 101 (.bin .rem (.t 100) (.k (.int .u8 12)))] (.blk 4 (sQ [o 111 (.bin .eql (.t 101) (.k (.int .u8 0))),oM 110 111] (.cond (.t 110) (.ops [oF 112 3 2,oL 113 112,oF 114 0 3,oz (.store 1 (.t 114) (.t 113))]) (sQ [o 116 (.bin .eql (.t 101) (.k (.int .u8 1))),oM 115 116] (.cond (.t 115) (.ops [oM 117 10,oF 118 3 2,oL 119 118,o 120 (.nilc (.t 117)),oF 121 0 120,oz (.store 1 (.t 121) (.t 119))]) (sQ [o 123 (.bin .eql (.t 101) (.k (.int .u8 2))),oM 122 123] (.cond (.t 122) (.feet [0,0,2,6,14,0,32,96,254,511,1023,2047] [oM 124 10,oM 125 10,o 126 (.nilc (.t 125)),oF 127 1 126,oL 128 127,oF 129 3 2,oL 130 129,o 131 (.bsl 1 1 [.int .i64 0] [0] [.t 130]),o 132 (.app 1 8 (.t 128) (.t 131)),o 133 (.nilc (.t 124)),oF 134 1 133,oz (.store 1 (.t 134) (.t 132))]) (sQ [o 136 (.bin .eql (.t 101) (.k (.int .u8 3))),oM 135 136] (.cond (.t 135) (.ops [oM 137 10,o 138 (.nilc (.t 137)),oF 139 1 138,oz (.store 1 (.t 139) (.k (.nils)))]) (sQ [o 141 (.bin .eql (.t 101) (.k (.int .u8 4))),oM 140 141] (.cond (.t 140) (.feet [0,0,2,6,14,0,32,96,224,510,1023,2047,4095] [oM 142 10,oM 143 10,o 144 (.nilc (.t 143)),oF 145 2 144,oL 146 145,oF 147 3 2,oL 148 147,o 149 (.bsl 1 1 [.int .i64 0] [0] [.t 148]),o 150 (.bsl 1 1 [.nils] [0] [.t 149]),o 151 (.app 1 24 (.t 146) (.t 150)),o 152 (.nilc (.t 142)),oF 153 2 152,oz (.store 1 (.t 153) (.t 151))]) (sQ [o 155 (.bin .eql (.t 101) (.k (.int .u8 5))),oM 154 155] (.cond (.t 154) (sQ [oM 156 11,o 157 (.bin .geq (.t 156) (qI 0))] (.cond (.t 157) (.ops [oM 158 10,oM 159 10,o 160 (.nilc (.t 159)),oF 161 2 160,oL 162 161,oM 163 11,o 164 (.slc 1 (.t 162) [] [.t 163]),o 165 (.nilc (.t 158)),oF 166 2 165,oz (.store 1 (.t 166) (.t 164))]) (.skip))) (sQ [o 168 (.bin .eql (.t 101) (.k (.int .u8 6))),oM 167 168] (.cond (.t 167) (sQ [oM 169 11,o 170 (.bin .geq (.t 169) (qI 0)),oM 171 170,og 172 171 true (.mv (.t 10)),og 173 171 true (.nilc (.t 172)),og 174 171 true (.fad 2 (.t 173)),og 175 171 true (.load false 1 (.t 174)),og 176 171 true (.mv (.t 11)),og 177 171 true (.ixs 1 (.t 175) (.t 176)),og 178 171 true (.load false 1 (.t 177)),og 179 171 true (.len .slice (.t 178)),og 180 171 true (.bin .gtr (.t 179) (qI 0)),o 181 (.pick (.t 171) (.t 180) (.k (.bool false)))] (.cond (.t 181) (.feet [0,1,3,7,0,31,63,0,128,511,1023] [oM 182 10,o 183 (.nilc (.t 182)),oF 184 2 183,oL 185 184,oM 186 11,oX 187 185 186,oL 188 187,oF 189 3 2,oL 190 189,o 191 (.ixs 1 (.t 188) (qI 0)),oz (.store 1 (.t 191) (.t 190))]) (.skip))) (sQ [o 193 (.bin .eql (.t 101) (.k (.int .u8 7))),oM 192 193] (.cond (.t 192) (sQ [oM 194 11,o 195 (.bin .geq (.t 194) (qI 0))] (.cond (.t 195) (.feet [0,1,3,7,0,0,32,96,224,0,992,2016,0,8160,16383,32767] [oM 196 10,o 197 (.nilc (.t 196)),oF 198 2 197,oL 199 198,oM 200 11,oM 201 10,o 202 (.nilc (.t 201)),oF 203 2 202,oL 204 203,oM 205 11,oX 206 204 205,oL 207 206,o 208 (.bsl 1 1 [.int .i64 0] [0] [.k (.int .i64 0)]),o 209 (.app 1 8 (.t 207) (.t 208)),oX 210 199 200,oz (.store 1 (.t 210) (.t 209))]) (.skip))) (sQ [o 212 (.bin .eql (.t 101) (.k (.int .u8 8))),oM 211 212] (.cond (.t 211) (sQ [oM 213 11,o 214 (.bin .geq (.t 213) (qI 0)),oM 215 214,og 216 215 true (.mv (.t 10)),og 217 215 true (.nilc (.t 216)),og 218 215 true (.fad 2 (.t 217)),og 219 215 true (.load false 1 (.t 218)),og 220 215 true (.mv (.t 11)),og 221 215 true (.ixs 1 (.t 219) (.t 220)),og 222 215 true (.load false 1 (.t 221)),og 223 215 true (.len .slice (.t 222)),og 224 215 true (.bin .gtr (.t 223) (qI 0)),o 225 (.pick (.t 215) (.t 224) (.k (.bool false)))] (.cond (.t 225) (.seq (.feet [0,1,3,7,0,0,32,96,224,0,992,2016,4064,8160,16383,32767] [oM 226 10,o 227 (.nilc (.t 226)),oF 228 2 227,oL 229 228,oM 230 11,oM 231 10,o 232 (.nilc (.t 231)),oF 233 2 232,oL 234 233,oM 235 11,oX 236 234 235,oL 237 236,oN 238 237,o 239 (.mks 1 8 [.int .i64 0] (.t 238) (.t 238)),oX 240 229 230,oz (.store 1 (.t 240) (.t 239))]) (.feet [0,1,3,7,0,31,63,0,128,511,1023] [oM 241 10,o 242 (.nilc (.t 241)),oF 243 2 242,oL 244 243,oM 245 11,oX 246 244 245,oL 247 246,oF 248 0 3,oL 249 248,o 250 (.ixs 1 (.t 247) (qI 0)),oz (.store 1 (.t 250) (.t 249))])) (.skip))) (sQ [o 252 (.bin .eql (.t 101) (.k (.int .u8 9))),oM 251 252] (.cond (.t 251) (sQ [oM 253 11,o 254 (.bin .geq (.t 253) (qI 0))] (.cond (.t 254) (.seq (.quiet [oM 255 10,o 256 (.nilc (.t 255)),oF 257 2 256,oL 258 257,oM 259 11,oX 260 258 259,oL 261 260,oN 262 261,o 263 (.bin .sub (.t 262) (qI 1)),oK 12 0,oM 13 263]) (.blk 5 (.loop dC))) (.skip))) (sQ [o 311 (.bin .eql (.t 101) (.k (.int .u8 10))),oM 310 311] (.cond (.t 310) (.ops [oF 312 1 3,oL 313 312,oF 314 0 3,oL 315 314,o 316 (.bsl 1 1 [.int .i64 0] [0] [.t 315]),o 317 (.bsl 1 1 [.nils] [0] [.t 316]),o 318 (.build [.int .i64 0,.nils,.nils] [(0,1),(2,1)] [.k (.int .i64 1),.t 317]),o 319 (.bsl 3 1 [.int .i64 0,.nils,.nils] [0] [.t 318]),o 320 (.app 3 56 (.t 313) (.t 319)),oF 321 1 3,oz (.store 1 (.t 321) (.t 320))]) (.ops [oF 102 1 3,oL 103 102,oF 104 1 3,oL 105 104,oN 106 105,o 107 (.bin .sub (.t 106) (qI 1)),o 108 (.slc 3 (.t 103) [] [.t 107]),oF 109 1 3,oz (.store 1 (.t 109) (.t 108))]))))))))))))))))))))))))) dD
def fF:SC:=sQ [oM 70 5,oF 71 1 3,oz (.store 1 (.t 71) (.t 70))] (.seq (sQ [oM 72 5,oN 73 72,o 74 (.bin .eql (.t 73) (qI 0))] (.cond (.t 74) (sQ [o 75 (.load true 2 (.t 3)),oz (.store 2 (.t 4) (.t 75))] (.ret)) (.skip))) (sQ [oM 76 5,oF 77 1 2,oL 78 77,o 79 (.conv .i64 (.t 78)),oM 80 5,oN 81 80,o 82 (.bin .rem (.t 79) (.t 81)),o 83 (.ixs 3 (.t 76) (.t 82)),oM 10 83] (sQ [oK 11 (-1)] (.seq (sQ [oM 84 10,o 85 (.nilc (.t 84)),oF 86 2 85,oL 87 86,oN 88 87,o 89 (.bin .gtr (.t 88) (qI 0))] (.cond (.t 89) (.quiet [oF 90 2 2,oL 91 90,o 92 (.conv .i64 (.t 91)),oM 93 10,o 94 (.nilc (.t 93)),oF 95 2 94,oL 96 95,oN 97 96,o 98 (.bin .rem (.t 92) (.t 97)),oM 11 98]) (.skip))) fE))))
def ma:SC:=sQ [o 5 (.mv (.k (.nils)))] (.seq (sQ [oK 6 0] (.blk 0 (.loop fD))) fF)
def jt:SF:=⟨323,[.cell true 2 4],sQ [o 2 (.box (.t 0)),o 3 (.box (.t 1)),o 4 (.alloc [.int .i64 0,.nils])] ma⟩
def bT:SC:=sQ [o 6 (.mv (.k (.nils)))] (sQ [oM 28 6,oM 29 3,oM 30 5,o 31 (.slc 1 (.t 29) [] [.t 30]),o 32 (.app 1 8 (.t 28) (.t 31)),oM 33 4,o 34 (.bsl 1 1 [.int .i64 0] [0] [.t 33]),o 35 (.app 1 8 (.t 32) (.t 34)),oM 6 35] (.ops [oM 36 6,oM 37 3,oM 38 5,o 39 (.slc 1 (.t 37) [.t 38] []),o 40 (.app 1 8 (.t 36) (.t 39)),oM 3 40]))
def jr:SC:=.ops [oM 12 4,oA 13 12,oM 4 13]
def jq:SC:=.seq (sQ [oM 7 4,o 8 (.load true 3 (.t 1)),o 9 (.call N.Pn [.t 8]),oN 10 9,o 11 (.bin .lss (.t 7) (.t 10))] (.cond (.t 11) (.skip) (.exit 0))) (.seq (.blk 1 (sQ [oK 5 0] (.seq (sQ [oM 14 4,oF 15 2 1,oL 16 15,oN 17 16,o 18 (.bin .lss (.t 14) (.t 17))] (.cond (.t 18) (.ops [oF 19 2 1,oL 20 19,oM 21 4,oX 22 20 21,oL 23 22,o 24 (.conv .i64 (.t 23)),oM 25 4,oA 26 25,o 27 (.bin .rem (.t 24) (.t 26)),oM 5 27]) (.skip))) bT))) jr)
def dK:SC:=sQ [oM 41 3,oM 2 41] (.ret)
def dX:SC:=sQ [o 3 (.mv (.k (.nils)))] (.seq (sQ [oK 4 0] (.blk 0 (.loop jq))) dK)
def cG:SF:=⟨42,[.tm 2],sQ [o 1 (.box (.t 0)),o 2 (.mv (.k (.nils)))] dX⟩
def xg:SC:=.seq (sQ [oM 5 4,oM 6 0,oN 7 6,o 8 (.bin .lss (.t 5) (.t 7))] (.cond (.t 8) (.skip) (.exit 0))) (.seq (.blk 1 (.ops [oM 11 3,oM 12 0,oM 13 4,oX 14 12 13,oL 15 14,o 16 (.bin .mul (.t 11) (.t 15)),oM 3 16])) (.ops [oM 9 4,oA 10 9,oM 4 10]))
def pD:SC:=sQ [oM 17 3,oM 2 17] (.ret)
def oY:SF:=⟨18,[.tm 2],sQ [oK 2 0] (sQ [oK 3 1] (.seq (sQ [oK 4 0] (.blk 0 (.loop xg))) pD))⟩
def ib:SC:=.seq (.quiet [o 5 (.load true 2 (.t 2)),o 6 (.call N.OV [.t 5]),oF 7 1 2,oL 8 7,oM 9 1,o 10 (.ixs 3 (.t 8) (.t 9)),oF 11 1 10,oL 12 11,o 13 (.call N.O7 [.t 6,.t 12]),oM 4 13]) (.ret)
def eS:SF:=⟨14,[.tm 4],sQ [o 2 (.box (.t 0)),o 4 (.mv (.k (.nils)))] ib⟩
def qL:SC:=.ops [oM 39 10,oM 40 9,oM 41 11,oX 42 40 41,oL 43 42,o 44 (.bin .add (.t 39) (.t 43)),oM 10 44]
def qM:SC:=.ops [oM 20 11,oA 21 20,oM 11 21]
def k_:SC:=.seq (sQ [oM 17 11,oM 18 1,o 19 (.bin .lss (.t 17) (.t 18))] (.cond (.t 19) (.skip) (.exit 0))) (.seq (.blk 1 (.seq (sQ [oM 22 2,oN 23 22,o 24 (.bin .gtr (.t 23) (qI 0))] (.cond (.t 24) (.ops [oM 25 9,oM 26 11,oM 27 2,oM 28 3,oM 29 11,o 30 (.bin .add (.t 28) (.t 29)),oM 31 2,oN 32 31,o 33 (.bin .rem (.t 30) (.t 32)),oX 34 27 33,oL 35 34,o 36 (.bin .rem (.t 35) (.k (.int .u8 8))),o 37 (.conv .i64 (.t 36)),oX 38 25 26,oz (.store 1 (.t 38) (.t 37))]) (.skip))) qL)) qM)
def qN:SC:=.ops [oM 68 12,oM 69 9,oM 70 14,oX 71 69 70,oL 72 71,o 73 (.bin .sub (.t 68) (.t 72)),oM 12 73]
def qO:SC:=.ops [oM 49 14,oA 50 49,oM 14 50]
def ld:SC:=.seq (sQ [oM 46 14,oM 47 1,o 48 (.bin .lss (.t 46) (.t 47))] (.cond (.t 48) (.skip) (.exit 2))) (.seq (.blk 3 (.seq (sQ [oM 51 9,oM 52 14,oX 53 51 52,oL 54 53,o 55 (.bin .gtr (.t 54) (qI 0))] (.cond (.t 55) (sQ [oM 56 9,oM 57 14,oM 58 0,oM 59 9,oM 60 14,oX 61 59 60,oL 62 61,o 63 (.bin .mul (.t 58) (.t 62)),oM 64 10,o 65 (.bin .quo (.t 63) (.t 64)),oX 66 56 57,oz (.store 1 (.t 66) (.t 65))] (.ops [oM 67 14,oM 13 67])) (.skip))) qN)) qO)
def qP:SC:=sQ [oM 74 9,oM 75 13,oM 76 9,oM 77 13,oX 78 76 77,oL 79 78,oM 80 12,o 81 (.bin .add (.t 79) (.t 80)),oX 82 74 75,oz (.store 1 (.t 82) (.t 81))] (sQ [oM 83 9,oM 8 83] (.ret))
def qQ:SC:=sQ [oM 45 0,oM 12 45,oK 13 0] (.seq (sQ [oK 14 0] (.blk 2 (.loop ld))) qP)
def qK:SF:=⟨84,[.tm 8],sQ [o 8 (.mv (.k (.nils)))] (sQ [oM 15 1,o 16 (.mks 1 8 [.int .i64 0] (.t 15) (.t 15)),oM 9 16] (sQ [oK 10 0] (.seq (sQ [oK 11 0] (.blk 0 (.loop k_))) qQ)))⟩
def cd:SC:=sQ [o 31 (.bin .lss (.t 30) (.t 29))] (.seq (.cond (.t 31) (.skip) (.exit 0)) (.seq (.blk 1 (sQ [oX 32 28 30,oL 33 32,oM 12 33] (.seq (sQ [oM 34 12,oM 35 10,o 36 (.bin .leq (.t 34) (.t 35)),oM 37 36,og 38 37 false (.mv (.t 12)),og 39 37 false (.fad 1 (.t 3)),og 40 37 false (.load false 1 (.t 39)),og 41 37 false (.len .slice (.t 40)),og 42 37 false (.bin .geq (.t 38) (.t 41)),o 43 (.pick (.t 37) (.k (.bool true)) (.t 42))] (.cond (.t 43) (sQ [o 6 (.mv (.k (.nilp))),oK 7 2] (.ret)) (.skip))) (.ops [oM 44 12,oM 10 44])))) (.ops [oA 45 30,oM 30 45])))
def oR:SC:=.ops [oA 66 49,oM 49 66]
def dz:SC:=sQ [o 50 (.bin .lss (.t 49) (.t 48))] (.seq (.cond (.t 50) (.skip) (.exit 2)) (.seq (.blk 3 (sQ [oM 51 49,oM 13 51] (sQ [oM 52 2,oM 53 13,o 54 (.call N.PG [.t 52,.t 53]),o 55 (.not (.t 54))] (.cond (.t 55) (.feet [0,0,2,6,14,0,32,126,255,511,1023] [oL 56 9,oL 57 9,o 58 (.nilc (.t 57)),oF 59 3 58,oL 60 59,oM 61 13,o 62 (.bsl 1 1 [.int .i64 0] [0] [.t 61]),o 63 (.app 1 8 (.t 60) (.t 62)),o 64 (.nilc (.t 56)),oF 65 3 64,oz (.store 1 (.t 65) (.t 63))]) (.skip))))) oR))
def gw:SC:=sQ [oM 14 76] (.ops [oM 15 77])
def dA:SC:=sQ [o 81 (.bin .lss (.t 80) (.t 79))] (.seq (.cond (.t 81) (.skip) (.exit 6)) (.seq (.blk 7 (sQ [oM 82 80,oX 83 78 80,oL 84 83,oM 16 82,oM 17 84] (sQ [oM 85 17,o 86 (.bin .geq (.t 85) (qI 0)),oM 87 86,og 88 87 true (.mv (.t 17)),og 89 87 true (.mv (.t 15)),og 90 87 true (.mv (.t 16)),og 91 87 true (.ixs 1 (.t 89) (.t 90)),og 92 87 true (.load false 1 (.t 91)),og 93 87 true (.bin .neq (.t 88) (.t 92)),o 94 (.pick (.t 87) (.t 93) (.k (.bool false)))] (.cond (.t 94) (sQ [oL 95 9,o 96 (.nilc (.t 95)),oF 97 4 96,oL 98 97,oM 99 14,oX 100 98 99,oz (.store 1 (.t 100) (qI 0))] (.exit 5)) (.skip))))) (.ops [oA 101 80,oM 80 101])))
def gy:SC:=.feet [0,1,3,7,0,16,48,112,0,496,1008,2047,4095,8191,16383] [oL 102 9,o 103 (.nilc (.t 102)),oF 104 5 103,oL 105 104,oL 106 9,o 107 (.nilc (.t 106)),oF 108 4 107,oL 109 108,oM 110 14,oX 111 109 110,oL 112 111,o 113 (.bin .add (.t 105) (.t 112)),o 114 (.nilc (.t 102)),oF 115 5 114,oz (.store 1 (.t 115) (.t 113))]
def gx:SC:=.blk 5 (.seq (sQ [oL 78 4,oN 79 78,oK 80 0] (.blk 6 (.loop dA))) gy)
def gz:SC:=sQ [oL 116 9,oM 6 116,oK 7 0] (.ret)
def dB:SC:=.seq (.feet [0,0,2,7,15,31] [oL 67 9,o 68 (.load true 2 (.t 3)),o 69 (.call N.Pd [.t 68]),o 70 (.nilc (.t 67)),oF 71 4 70,oz (.store 1 (.t 71) (.t 69))]) (.seq (.skip) (.seq (sQ [oF 72 1 3,oL 73 72,o 74 (.call N.Pc [.t 73]),o 75 (.call N.OY [.t 74])] (.blk 4 (.rng 117 (.t 75) [76,77] gw gx))) gz))
def gC:SC:=.seq (sQ [oF 46 1 3,oL 47 46,oN 48 47,oK 49 0] (.blk 2 (.loop dz))) dB
def dR:SC:=.seq (sQ [o 18 (.load true 2 (.t 3)),oL 19 4,o 20 (.call N.Pi [.t 18,.t 19]),oM 8 20] (sQ [oM 21 8,o 22 (.bin .neq (.t 21) (qI 0))] (.cond (.t 22) (sQ [oM 23 8,o 6 (.mv (.k (.nilp))),oM 7 23] (.ret)) (.skip)))) (sQ [o 24 (.load true 2 (.t 3)),oM 25 2,o 26 (.build [.int .i64 0,.nils,.nils,.nils,.nils,.int .i64 0] [(0,2),(2,1)] [.t 24,.t 25]),o 27 (.box (.t 26)),o 9 (.alloc [.nilp]),oz (.store 1 (.t 9) (.t 27))] (sQ [oK 10 (-1)] (.seq (sQ [oM 28 2,oN 29 28,oK 30 0] (.blk 0 (.loop cd))) gC)))
def cX:SF:=⟨117,[.tm 6,.tm 7],sQ [o 3 (.box (.t 0)),o 4 (.box (.t 1)),o 6 (.mv (.k (.nilp))),oK 7 0] dR⟩
def iA:SC:=.seq (sQ [oM 12 6,o 13 (.bin .neq (.t 12) (qI 0))] (.cond (.t 13) (.skip) (.exit 0))) (.blk 1 (.quiet [oM 14 6,oM 15 5,oM 16 6,o 17 (.bin .rem (.t 15) (.t 16)),oM 5 14,oM 6 17]))
def oa:SC:=.seq (.feet [0,0,3,0,0,24,63,127] [oM 18 0,oM 19 5,o 20 (.bin .quo (.t 18) (.t 19)),oM 21 1,oM 22 5,o 23 (.bin .quo (.t 21) (.t 22)),o 24 (.build [.int .i64 0,.int .i64 0] [(0,1),(1,1)] [.t 20,.t 23]),oz (.store 2 (.t 4) (.t 24))]) (.ret)
def pJ:SC:=sQ [oM 7 0,oM 8 0,o 9 (.un .neg (.t 8)),o 10 (.mx (.t 7) (.t 9)),oM 11 1,oM 5 10,oM 6 11] (.seq (.blk 0 (.loop iA)) oa)
def mU:SF:=⟨25,[.cell true 2 4],sQ [o 4 (.alloc [.int .i64 0,.int .i64 0])] pJ⟩
def pG:SC:=.ops [oM 11 6,oA 12 11,oM 6 12]
def pF:SC:=.seq (sQ [oM 7 6,o 8 (.load true 2 (.t 2)),o 9 (.call N.Pb [.t 8]),o 10 (.bin .lss (.t 7) (.t 9))] (.cond (.t 10) (.skip) (.exit 0))) (.seq (.blk 1 (sQ [o 13 (.load true 2 (.t 2)),oM 14 6,o 15 (.call N.OX [.t 13,.t 14]),oM 16 1,o 17 (.call N.Pa [.t 15,.t 16])] (.cond (.t 17) (.ops [oM 18 5,o 19 (.load true 2 (.t 2)),oM 20 6,o 21 (.call N.OL [.t 19,.t 20]),o 22 (.bin .add (.t 18) (.t 21)),oM 5 22]) (.skip)))) pG)
def pH:SC:=sQ [oM 23 5,oM 4 23] (.ret)
def qH:SC:=sQ [oK 5 0] (.seq (sQ [oK 6 0] (.blk 0 (.loop pF))) pH)
def oZ:SF:=⟨24,[.tm 4],sQ [o 2 (.box (.t 0)),oK 4 0] qH⟩
def fu:SC:=.seq (sQ [o 5 (.load true 2 (.t 2)),o 6 (.call N.Pw [.t 5]),o 7 (.not (.t 6))] (.cond (.t 7) (sQ [oK 4 50] (.ret)) (.skip))) (.seq (sQ [o 8 (.load true 2 (.t 2)),oM 9 1,o 10 (.call N.Ps [.t 8,.t 9]),o 11 (.not (.t 10))] (.cond (.t 11) (sQ [oK 4 2] (.ret)) (.skip))) (sQ [oK 4 0] (.ret)))
def fc:SF:=⟨12,[.tm 4],sQ [o 2 (.box (.t 0)),oK 4 0] fu⟩
def uy:SC:=.seq (sQ [oM 6 5,oM 7 0,oN 8 7,o 9 (.bin .lss (.t 6) (.t 8))] (.cond (.t 9) (.skip) (.exit 0))) (.seq (.blk 1 (.seq (.quiet [oM 12 0,oM 13 5,oX 14 12 13,oL 15 14,o 16 (.bin .lss (.t 15) (qI 0)),oM 17 16,og 18 17 false (.mv (.t 0)),og 19 17 false (.mv (.t 5)),og 20 17 false (.ixs 1 (.t 18) (.t 19)),og 21 17 false (.load false 1 (.t 20)),og 22 17 false (.mv (.t 1)),og 23 17 false (.bin .geq (.t 21) (.t 22)),o 24 (.pick (.t 17) (.k (.bool true)) (.t 23)),oM 25 24,og 26 25 false (.mv (.t 5)),og 27 25 false (.bin .gtr (.t 26) (qI 0)),og 28 25 false (.mv (.t 27)),og 29 28 true (.mv (.t 0)),og 30 28 true (.mv (.t 5)),og 31 28 true (.ixs 1 (.t 29) (.t 30)),og 32 28 true (.load false 1 (.t 31)),og 33 28 true (.mv (.t 0)),og 34 28 true (.mv (.t 5)),og 35 28 true (.bin .sub (.t 34) (qI 1)),og 36 28 true (.ixs 1 (.t 33) (.t 35)),og 37 28 true (.load false 1 (.t 36)),og 38 28 true (.bin .leq (.t 32) (.t 37)),og 39 25 false (.pick (.t 28) (.t 38) (.k (.bool false))),o 40 (.pick (.t 25) (.k (.bool true)) (.t 39))]) (.cond (.t 40) (sQ [o 4 (.mv (.k (.bool false)))] (.ret)) (.skip)))) (.ops [oM 10 5,oA 11 10,oM 5 11]))
def l9:SC:=sQ [o 4 (.mv (.k (.bool true)))] (.ret)
def kH:SF:=⟨41,[.tm 4],sQ [o 4 (.mv (.k (.bool false)))] (.seq (sQ [oK 5 0] (.blk 0 (.loop uy))) l9)⟩
def nT:SC:=sQ [o 3 (.load true 2 (.t 1)),o 4 (.call N.OV [.t 3]),o 5 (.call N.OK [.t 4]),oM 2 5] (.ret)
def kZ:SF:=⟨6,[.tm 2],sQ [o 1 (.box (.t 0)),oK 2 0] nT⟩
def nR:SC:=sQ [o 5 (.load true 2 (.t 2)),o 6 (.call N.OV [.t 5]),oM 7 1,o 8 (.call N.Pq [.t 6,.t 7]),oM 4 8] (.ret)
def kX:SF:=⟨9,[.tm 4],sQ [o 2 (.box (.t 0)),o 4 (.mv (.k (.nils)))] nR⟩
def kU:SC:=.seq (sQ [oM 6 5,oM 7 0,oN 8 7,o 9 (.bin .lss (.t 6) (.t 8))] (.cond (.t 9) (.skip) (.exit 0))) (.seq (.blk 1 (.seq (.quiet [oM 12 1,oM 13 5,oX 14 12 13,oL 15 14,o 16 (.bin .geq (.t 15) (qI 0)),oM 17 16,og 18 17 true (.mv (.t 1)),og 19 17 true (.mv (.t 5)),og 20 17 true (.ixs 1 (.t 18) (.t 19)),og 21 17 true (.load false 1 (.t 20)),og 22 17 true (.mv (.t 0)),og 23 17 true (.mv (.t 5)),og 24 17 true (.ixs 1 (.t 22) (.t 23)),og 25 17 true (.load false 1 (.t 24)),og 26 17 true (.bin .neq (.t 21) (.t 25)),o 27 (.pick (.t 17) (.t 26) (.k (.bool false)))]) (.cond (.t 27) (sQ [o 4 (.mv (.k (.bool false)))] (.ret)) (.skip)))) (.ops [oM 10 5,oA 11 10,oM 5 11]))
def kV:SC:=sQ [o 4 (.mv (.k (.bool true)))] (.ret)
def ju:SF:=⟨28,[.tm 4],sQ [o 4 (.mv (.k (.bool false)))] (.seq (sQ [oK 5 0] (.blk 0 (.loop kU))) kV)⟩
def vP:SC:=.seq (sQ [oM 11 7,o 12 (.bin .geq (.t 11) (qI 0))] (.cond (.t 12) (.skip) (.exit 0))) (.seq (.blk 1 (sQ [oM 15 5,oM 16 1,oM 17 7,oX 18 16 17,oL 19 18,oM 20 6,o 21 (.bin .mul (.t 19) (.t 20)),o 22 (.bin .add (.t 15) (.t 21)),oM 5 22] (.ops [oM 23 6,oM 24 0,oM 25 7,oX 26 24 25,oL 27 26,o 28 (.bin .mul (.t 23) (.t 27)),oM 6 28]))) (.ops [oM 13 7,o 14 (.bin .sub (.t 13) (qI 1)),oM 7 14]))
def nI:SC:=sQ [oM 29 5,oM 4 29] (.ret)
def mN:SF:=⟨30,[.tm 4],sQ [oK 4 0] (sQ [oK 5 0,oK 6 1] (.seq (sQ [oM 8 0,oN 9 8,o 10 (.bin .sub (.t 9) (qI 1)),oM 7 10] (.blk 0 (.loop vP))) nI))⟩
def zS:SC:=.seq (sQ [oM 7 6,oM 8 1,oN 9 8,o 10 (.bin .lss (.t 7) (.t 9))] (.cond (.t 10) (.skip) (.exit 0))) (.seq (.blk 1 (.ops [oM 13 5,oM 14 0,oM 15 1,oM 16 6,oX 17 15 16,oL 18 17,oX 19 14 18,oL 20 19,o 21 (.bsl 1 1 [.int .i64 0] [0] [.t 20]),o 22 (.app 1 8 (.t 13) (.t 21)),oM 5 22])) (.ops [oM 11 6,oA 12 11,oM 6 12]))
def sK:SC:=sQ [oM 23 5,oM 4 23] (.ret)
def tv:SF:=⟨24,[.tm 4],sQ [o 4 (.mv (.k (.nils)))] (sQ [o 5 (.mv (.k (.nils)))] (.seq (sQ [oK 6 0] (.blk 0 (.loop zS))) sK))⟩
def mb:SC:=.seq (sQ [oM 11 7,oF 12 1 2,oL 13 12,oN 14 13,o 15 (.bin .lss (.t 11) (.t 14))] (.cond (.t 15) (.skip) (.exit 0))) (.seq (.blk 1 (.quiet [oM 18 6,o 19 (.load true 2 (.t 2)),oM 20 7,oM 21 5,o 22 (.call N.Px [.t 19,.t 20,.t 21]),oM 23 5,oM 24 7,oX 25 23 24,oL 26 25,oX 27 22 26,oL 28 27,o 29 (.bin .mul (.t 18) (.t 28)),oM 6 29])) (.ops [oM 16 7,oA 17 16,oM 7 17]))
def mc:SC:=sQ [oM 30 6,oM 4 30] (.ret)
def nS:SC:=sQ [o 8 (.load true 2 (.t 2)),oM 9 1,o 10 (.call N.OX [.t 8,.t 9]),oM 5 10] (sQ [oK 6 1] (.seq (sQ [oK 7 0] (.blk 0 (.loop mb))) mc))
def kY:SF:=⟨31,[.tm 4],sQ [o 2 (.box (.t 0)),oK 4 0] nS⟩
def fB:SF:=⟨26,[.tm 5],sQ [oK 5 0] (.seq (.feet [0,1,3,7,0,31,63,0,128,384,896,0,3968,8064,16383,0,0,131071,262143,524287,1048575] [oL 6 2,o 7 (.nilc (.t 6)),oF 8 4 7,oL 9 8,oM 10 1,oX 11 9 10,oL 12 11,oL 13 2,o 14 (.nilc (.t 13)),oF 15 4 14,oL 16 15,oM 17 0,oX 18 16 17,oL 19 18,o 20 (.call N.ON [.t 12,.t 19]),oM 21 0,oM 22 1,o 23 (.call N.ON [.t 21,.t 22]),o 24 (.bsl 1 2 [.int .i64 0] [0,1] [.t 20,.t 23]),o 25 (.call N.O0 [.t 24]),oM 5 25]) (.ret))⟩
def qt:SC:=sQ [o 9 (.bin .lss (.t 8) (.t 7))] (.seq (.cond (.t 9) (.skip) (.exit 0)) (.seq (.blk 1 (sQ [oX 10 6 8,oL 11 10,oM 5 11] (sQ [oM 12 5,oM 13 3,o 14 (.bin .neq (.t 12) (.t 13))] (.cond (.t 14) (sQ [oM 15 5,oM 2 15] (.ret)) (.skip))))) (.ops [oA 16 8,oM 8 16])))
def qu:SC:=sQ [oM 17 3,oM 2 17] (.ret)
def qr:SF:=⟨18,[.tm 2],sQ [oK 2 0] (sQ [oK 3 0] (.seq (sQ [oM 6 0,oN 7 6,oK 8 0] (.blk 0 (.loop qt))) qu))⟩
def dh:SF:=⟨20,[.tm 4],sQ [oK 4 0] (sQ [oM 7 0,o 8 (.call N.O1 [.t 7]),oM 5 8] (sQ [oM 9 1,o 10 (.call N.O1 [.t 9]),oM 6 10] (.seq (sQ [oM 11 5] (.cond (.t 11) (.seq (sQ [oM 12 6] (.cond (.t 12) (sQ [oK 4 0] (.ret)) (.skip))) (sQ [oK 4 (-1)] (.ret))) (.skip))) (.seq (sQ [oM 13 6] (.cond (.t 13) (sQ [oK 4 1] (.ret)) (.skip))) (.seq (sQ [oM 14 0,oM 15 1,o 16 (.bin .lss (.t 14) (.t 15))] (.cond (.t 16) (sQ [oK 4 (-1)] (.ret)) (.skip))) (.seq (sQ [oM 17 0,oM 18 1,o 19 (.bin .gtr (.t 17) (.t 18))] (.cond (.t 19) (sQ [oK 4 1] (.ret)) (.skip))) (sQ [oK 4 0] (.ret))))))))⟩
def qz:SC:=sQ [oM 6 0,o 7 (.bin .lss (.t 6) (qI 0)),oM 8 1,o 9 (.bin .lss (.t 8) (qI 0)),o 10 (.eq true .bool (.t 7) (.t 9)),oM 11 0,o 12 (.call N.OQ [.t 11]),oM 13 1,o 14 (.call N.OQ [.t 13]),o 15 (.call N.OT [.t 10,.t 12,.t 14]),o 16 (.ext (.t 15) 0),o 17 (.ext (.t 15) 1),oz (.store 2 (.t 4) (.t 16)),oM 5 17] (.ret)
def oU:SF:=⟨18,[.cell true 2 4,.tm 5],sQ [o 4 (.alloc [.int .i64 0,.int .i64 0]),o 5 (.mv (.k (.bool false)))] qz⟩
def mE:SC:=sQ [o 51 (.bin .lss (.t 50) (.t 49))] (.seq (.cond (.t 51) (.skip) (.exit 0)) (.seq (.blk 1 (sQ [oM 52 50,o 53 (.ixs 3 (.t 48) (.t 50)),o 54 (.load true 3 (.t 53)),o 7 (.alloc [.int .i64 0,.nils,.nils]),oM 6 52,oz (.store 3 (.t 7) (.t 54))] (.seq (sQ [oF 55 0 7,oL 56 55,o 57 (.bin .lss (.t 56) (qI 1)),oM 58 57,og 59 58 false (.fad 0 (.t 7)),og 60 58 false (.load false 1 (.t 59)),og 61 58 false (.bin .gtr (.t 60) (qI 4)),o 62 (.pick (.t 58) (.k (.bool true)) (.t 61))] (.cond (.t 62) (sQ [o 63 (.build [.int .i64 0,.nils,.nils,.nils,.nils] [] []),oz (.store 5 (.t 2) (.t 63)),oK 3 50] (.ret)) (.skip))) (sQ [oF 64 2 4,oL 65 64,oM 66 6,oF 67 0 7,oL 68 67,oX 69 65 66,oz (.store 1 (.t 69) (.t 68))] (.ops [oM 70 5,oF 71 0 7,oL 72 71,o 73 (.bin .mul (.t 70) (.t 72)),oM 5 73]))))) (.ops [oA 74 50,oM 50 74])))
def mF:SC:=sQ [o 91 (.bin .lss (.t 90) (.t 89))] (.seq (.cond (.t 91) (.skip) (.exit 4)) (.seq (.blk 5 (sQ [oX 92 88 90,oL 93 92,oM 12 93] (.seq (sQ [oM 94 12,oM 95 10,o 96 (.bin .leq (.t 94) (.t 95)),oM 97 96,og 98 97 false (.mv (.t 12)),og 99 97 false (.fad 0 (.t 4)),og 100 97 false (.fad 1 (.t 99)),og 101 97 false (.load false 1 (.t 100)),og 102 97 false (.len .slice (.t 101)),og 103 97 false (.bin .geq (.t 98) (.t 102)),o 104 (.pick (.t 97) (.k (.bool true)) (.t 103)),oM 105 104,og 106 105 false (.mv (.t 12)),og 107 105 false (.mv (.t 8)),og 108 105 false (.bin .eql (.t 106) (.t 107)),o 109 (.pick (.t 105) (.k (.bool true)) (.t 108))] (.cond (.t 109) (sQ [o 110 (.build [.int .i64 0,.nils,.nils,.nils,.nils] [] []),oz (.store 5 (.t 2) (.t 110)),oK 3 50] (.ret)) (.skip))) (sQ [oM 111 12,oM 10 111] (.feet [0,1,0,7,15,0,32,127,255,511] [oF 112 3 4,oL 113 112,oM 114 8,oX 115 113 114,oL 116 115,oM 117 12,o 118 (.bin .shl (.k (.int .u64 1)) (.t 117)),o 119 (.bin .or (.t 116) (.t 118)),oX 120 113 114,oz (.store 1 (.t 120) (.t 119))]))))) (.ops [oA 121 90,oM 90 121])))
def mH:SC:=sQ [o 122 (.load true 5 (.t 4)),o 123 (.load true 3 (.t 9)),o 124 (.call N.O2 [.t 122,.t 123]),o 125 (.not (.t 124))] (.cond (.t 125) (sQ [o 126 (.build [.int .i64 0,.nils,.nils,.nils,.nils] [] []),oz (.store 5 (.t 2) (.t 126)),oK 3 50] (.ret)) (.skip))
def sI:SC:=.ops [oA 127 82,oM 82 127]
def mG:SC:=sQ [o 83 (.bin .lss (.t 82) (.t 81))] (.seq (.cond (.t 83) (.skip) (.exit 2)) (.seq (.blk 3 (sQ [oM 84 82,o 85 (.ixs 3 (.t 80) (.t 82)),o 86 (.load true 3 (.t 85)),o 9 (.alloc [.int .i64 0,.nils,.nils]),oM 8 84,oz (.store 3 (.t 9) (.t 86))] (sQ [oK 10 (-1)] (.seq (sQ [oF 87 1 9,oL 88 87,oN 89 88,oK 90 0] (.blk 4 (.loop mF))) mH)))) sI))
def mJ:SC:=sQ [oF 129 3 4,oL 130 129,o 131 (.call N.Pk [.t 130]),oM 128 131,o 132 (.ext (.t 128) 0),o 133 (.ext (.t 128) 1),oM 13 132,oM 14 133] (.seq (sQ [oM 134 14,o 135 (.not (.t 134))] (.cond (.t 135) (sQ [o 136 (.build [.int .i64 0,.nils,.nils,.nils,.nils] [] []),oz (.store 5 (.t 2) (.t 136)),oK 3 50] (.ret)) (.skip))) (sQ [oM 137 13,oF 138 4 4,oz (.store 1 (.t 138) (.t 137))] (sQ [o 139 (.load true 5 (.t 4)),oz (.store 5 (.t 2) (.t 139)),oK 3 0] (.ret))))
def sJ:SC:=.seq (sQ [oM 75 5,o 76 (.bin .gtr (.t 75) (qI 1024))] (.cond (.t 76) (sQ [o 77 (.build [.int .i64 0,.nils,.nils,.nils,.nils] [] []),oz (.store 5 (.t 2) (.t 77)),oK 3 50] (.ret)) (.skip))) (.seq (sQ [oF 78 0 4,oF 79 1 78,oL 80 79,oN 81 80,oK 82 0] (.blk 2 (.loop mG))) mJ)
def uv:SC:=.seq (sQ [oF 15 0 1,oL 16 15,o 17 (.bin .lss (.t 16) (qI 1)),oM 18 17,og 19 18 false (.fad 0 (.t 1)),og 20 18 false (.load false 1 (.t 19)),og 21 18 false (.bin .gtr (.t 20) (qI 60)),o 22 (.pick (.t 18) (.k (.bool true)) (.t 21)),oM 23 22,og 24 23 false (.fad 1 (.t 1)),og 25 23 false (.load false 1 (.t 24)),og 26 23 false (.len .slice (.t 25)),og 27 23 false (.bin .lss (.t 26) (qI 1)),o 28 (.pick (.t 23) (.k (.bool true)) (.t 27)),oM 29 28,og 30 29 false (.fad 1 (.t 1)),og 31 29 false (.load false 1 (.t 30)),og 32 29 false (.len .slice (.t 31)),og 33 29 false (.bin .gtr (.t 32) (qI 8)),o 34 (.pick (.t 29) (.k (.bool true)) (.t 33))] (.cond (.t 34) (sQ [o 35 (.build [.int .i64 0,.nils,.nils,.nils,.nils] [] []),oz (.store 5 (.t 2) (.t 35)),oK 3 50] (.ret)) (.skip))) (.seq (.feet [0,0,2,6,14,0,32,96,224,511,0,2047] [o 36 (.load true 2 (.t 1)),oF 37 1 1,oL 38 37,oN 39 38,o 40 (.mks 1 8 [.int .i64 0] (.t 39) (.t 39)),oF 41 1 1,oL 42 41,oN 43 42,o 44 (.mks 1 8 [.int .u64 0] (.t 43) (.t 43)),o 45 (.build [.int .i64 0,.nils,.nils,.nils,.nils] [(0,2),(2,1),(3,1)] [.t 36,.t 40,.t 44]),o 4 (.alloc [.int .i64 0,.nils,.nils,.nils,.nils]),oz (.store 5 (.t 4) (.t 45))]) (sQ [oK 5 1] (.seq (sQ [oF 46 0 4,oF 47 1 46,oL 48 47,oN 49 48,oK 50 0] (.blk 0 (.loop mE))) sJ)))
def kw:SF:=⟨140,[.cell true 5 2,.tm 3],sQ [o 1 (.box (.t 0)),o 2 (.alloc [.int .i64 0,.nils,.nils,.nils,.nils]),oK 3 0] uv⟩
def oW:SC:=.seq (sQ [oM 5 4,oF 6 0 1,oL 7 6,oN 8 7,o 9 (.bin .lss (.t 5) (.t 8)),oM 10 9,og 11 10 true (.mv (.t 4)),og 12 10 true (.bin .lss (.t 11) (qI 5)),o 13 (.pick (.t 10) (.t 12) (.k (.bool false)))] (.cond (.t 13) (.skip) (.exit 0))) (.seq (.blk 1 (.ops [oM 16 3,oF 17 0 1,oL 18 17,oM 19 4,oX 20 18 19,oL 21 20,o 22 (.bin .rem (.t 21) (.k (.int .u8 4))),o 23 (.conv .i64 (.t 22)),o 24 (.bin .add (qI 1) (.t 23)),o 25 (.bsl 1 1 [.int .i64 0] [0] [.t 24]),o 26 (.app 1 8 (.t 16) (.t 25)),oM 3 26])) (.ops [oM 14 4,oA 15 14,oM 4 15]))
def gL:SC:=sQ [oM 27 3,oM 2 27] (.ret)
def g_:SC:=sQ [o 3 (.mv (.k (.nils)))] (.seq (sQ [oK 4 0] (.blk 0 (.loop oW))) gL)
def eQ:SF:=⟨28,[.tm 2],sQ [o 1 (.box (.t 0)),o 2 (.mv (.k (.nils)))] g_⟩
def nJ:SC:=.seq (sQ [oM 5 4,oF 6 1 1,oL 7 6,oN 8 7,o 9 (.bin .lss (.t 5) (.t 8))] (.cond (.t 9) (.skip) (.exit 0))) (.seq (.blk 1 (.ops [oM 12 3,oF 13 1 1,oL 14 13,oM 15 4,o 16 (.ixs 3 (.t 14) (.t 15)),oF 17 0 16,oL 18 17,o 19 (.bsl 1 1 [.int .i64 0] [0] [.t 18]),o 20 (.app 1 8 (.t 12) (.t 19)),oM 3 20])) (.ops [oM 10 4,oA 11 10,oM 4 11]))
def nK:SC:=sQ [oM 21 3,oM 2 21] (.ret)
def pE:SC:=sQ [o 3 (.mv (.k (.nils)))] (.seq (sQ [oK 4 0] (.blk 0 (.loop nJ))) nK)
def mO:SF:=⟨22,[.tm 2],sQ [o 1 (.box (.t 0)),o 2 (.mv (.k (.nils)))] pE⟩
def gE:SC:=sQ [o 27 (.bin .lss (.t 26) (.t 25))] (.seq (.cond (.t 27) (.skip) (.exit 0)) (.seq (.blk 1 (sQ [oM 28 26,oX 29 24 26,oL 30 29,oM 7 28,oM 8 30] (sQ [oM 31 8,o 32 (.bin .lss (.t 31) (qI (-1))),oM 33 32,og 34 33 false (.mv (.t 8)),og 35 33 false (.fad 2 (.t 5)),og 36 33 false (.load false 1 (.t 35)),og 37 33 false (.mv (.t 7)),og 38 33 false (.ixs 1 (.t 36) (.t 37)),og 39 33 false (.load false 1 (.t 38)),og 40 33 false (.bin .geq (.t 34) (.t 39)),o 41 (.pick (.t 33) (.k (.bool true)) (.t 40))] (.cond (.t 41) (sQ [oK 4 2] (.ret)) (.skip))))) (.ops [oA 42 26,oM 26 42])))
def gF:SC:=sQ [oK 4 0] (.ret)
def g8:SC:=sQ [o 10 (.load true 2 (.t 2)),o 11 (.call N.Pj [.t 10]),oM 9 11,o 12 (.ext (.t 9) 0),o 13 (.ext (.t 9) 1),o 5 (.alloc [.int .i64 0,.nils,.nils,.nils,.nils]),oz (.store 5 (.t 5) (.t 12)),oM 6 13] (.seq (sQ [oM 14 6,o 15 (.bin .neq (.t 14) (qI 0))] (.cond (.t 15) (sQ [oM 16 6,oM 4 16] (.ret)) (.skip))) (.seq (sQ [oM 17 1,oN 18 17,oF 19 0 5,oF 20 1 19,oL 21 20,oN 22 21,o 23 (.bin .neq (.t 18) (.t 22))] (.cond (.t 23) (sQ [oK 4 2] (.ret)) (.skip))) (.seq (sQ [oM 24 1,oN 25 24,oK 26 0] (.blk 0 (.loop gE))) gF)))
def eP:SF:=⟨43,[.tm 4],sQ [o 2 (.box (.t 0)),oK 4 0] g8⟩
def dl:SF:=⟨9,[.tm 4],sQ [o 4 (.mv (.k (.bool false)))] (sQ [oM 5 0,oM 6 1,o 7 (.call N.PJ [.t 5,.t 6]),o 8 (.bin .geq (.t 7) (qI 0)),oM 4 8] (.ret))⟩
def lf:SC:=.ops [oM 6 19]
def fI:SC:=sQ [o 24 (.bin .lss (.t 23) (.t 22))] (.seq (.cond (.t 24) (.skip) (.exit 2)) (.seq (.blk 3 (sQ [oM 25 23,o 26 (.ixs 3 (.t 21) (.t 23)),o 27 (.load true 3 (.t 26)),o 9 (.alloc [.int .i64 0,.nils,.nils]),oM 8 25,oz (.store 3 (.t 9) (.t 27))] (.quiet [oM 28 7,oF 29 2 9,oL 30 29,oF 31 1 1,oL 32 31,oM 33 8,oM 34 6,o 35 (.call N.PK [.t 32,.t 33,.t 34]),oX 36 30 35,oL 37 36,oM 38 6,oM 39 8,oX 40 38 39,oL 41 40,oX 42 37 41,oL 43 42,o 44 (.bin .mul (.t 28) (.t 43)),oM 7 44]))) (.ops [oA 45 23,oM 23 45])))
def lj:SC:=.ops [oL 46 4,oM 47 7,o 48 (.bsl 1 1 [.int .i64 0] [0] [.t 47]),o 49 (.app 1 8 (.t 46) (.t 48)),oz (.store 1 (.t 4) (.t 49))]
def li:SC:=.blk 1 (sQ [oK 7 1] (.seq (sQ [oF 20 1 1,oL 21 20,oN 22 21,oK 23 0] (.blk 2 (.loop fI))) lj))
def lp:SC:=sQ [oL 50 4,oM 2 50] (.ret)
def mf:SC:=sQ [oF 10 1 1,oL 11 10,o 12 (.call N.Pc [.t 11]),oM 3 12] (sQ [oM 13 3,o 14 (.call N.PL [.t 13]),o 15 (.mks 1 8 [.int .i64 0] (qI 0) (.t 14)),o 4 (.alloc [.nils]),oz (.store 1 (.t 4) (.t 15))] (.seq (sQ [oM 16 3,o 17 (.call N.OY [.t 16])] (.blk 0 (.rng 51 (.t 17) [18,19] lf li))) lp))
def jv:SF:=⟨51,[.tm 2],sQ [o 1 (.box (.t 0)),o 2 (.mv (.k (.nils)))] mf⟩
def gP:SC:=sQ [o 3 (.mkf N.OJ [] [.t 1]),oM 2 3] (.ret)
def ef:SF:=⟨4,[.tm 2],sQ [o 1 (.box (.t 0)),o 2 (.mv (.k (.nilf)))] gP⟩
def nZ:SC:=sQ [o 12 (.bin .lss (.t 11) (.t 10))] (.seq (.cond (.t 12) (.skip) (.exit 0)) (.seq (.blk 1 (sQ [oM 13 11,o 14 (.ixs 3 (.t 9) (.t 11)),o 15 (.load true 3 (.t 14)),o 5 (.alloc [.int .i64 0,.nils,.nils]),oM 4 13,oz (.store 3 (.t 5) (.t 15))] (.ops [oM 16 3,oM 17 4,oF 18 0 5,oL 19 18,oX 20 16 17,oz (.store 1 (.t 20) (.t 19))]))) (.ops [oA 21 11,oM 11 21])))
def n_:SC:=sQ [oM 22 3,oM 2 22] (.ret)
def mT:SF:=⟨23,[.tm 2],sQ [o 2 (.mv (.k (.nils)))] (sQ [oM 6 0,oN 7 6,o 8 (.mks 1 8 [.int .i64 0] (.t 7) (.t 7)),oM 3 8] (.seq (sQ [oM 9 0,oN 10 9,oK 11 0] (.blk 0 (.loop nZ))) n_))⟩
def pK:SC:=sQ [o 9 (.bin .lss (.t 8) (.t 7))] (.seq (.cond (.t 9) (.skip) (.exit 0)) (.seq (.blk 1 (sQ [oX 10 6 8,oL 11 10,oM 5 11] (.ops [oM 12 3,oM 13 5,o 14 (.bin .mul (.t 12) (.t 13)),oM 3 14]))) (.ops [oA 15 8,oM 8 15])))
def pL:SC:=sQ [oM 16 3,oM 2 16] (.ret)
def o4:SF:=⟨17,[.tm 2],sQ [oK 2 0] (sQ [oK 3 1] (.seq (sQ [oM 6 0,oN 7 6,oK 8 0] (.blk 0 (.loop pK))) pL))⟩
def nL:SC:=.seq (sQ [oM 31 4,oF 32 1 1,oL 33 32,oN 34 33,o 35 (.bin .lss (.t 31) (.t 34))] (.cond (.t 35) (.skip) (.exit 0))) (.seq (.blk 1 (sQ [oF 38 1 1,oL 39 38,oM 40 4,o 41 (.ixs 3 (.t 39) (.t 40)),o 42 (.load true 3 (.t 41)),o 5 (.alloc [.int .i64 0,.nils,.nils]),oz (.store 3 (.t 5) (.t 42))] (.seq (sQ [oF 43 0 5,oL 44 43,o 45 (.bin .lss (.t 44) (qI 1)),oM 46 45,og 47 46 false (.fad 0 (.t 5)),og 48 46 false (.load false 1 (.t 47)),og 49 46 false (.bin .gtr (.t 48) (qI 4)),o 50 (.pick (.t 46) (.k (.bool true)) (.t 49)),oM 51 50,og 52 51 false (.fad 1 (.t 5)),og 53 51 false (.load false 1 (.t 52)),og 54 51 false (.fad 1 (.t 1)),og 55 51 false (.load false 1 (.t 54)),og 56 51 false (.len .slice (.t 55)),og 57 51 false (.call N.Pp [.t 53,.t 56]),og 58 51 false (.not (.t 57)),o 59 (.pick (.t 51) (.k (.bool true)) (.t 58))] (.cond (.t 59) (sQ [o 2 (.mv (.k (.bool false)))] (.ret)) (.skip))) (.ops [oM 60 3,oF 61 0 5,oL 62 61,o 63 (.bin .mul (.t 60) (.t 62)),oM 3 63])))) (.ops [oM 36 4,oA 37 36,oM 4 37]))
def iv:SC:=.seq (sQ [oM 108 10,oF 109 2 7,oL 110 109,oM 111 8,oX 112 110 111,oL 113 112,oN 114 113,o 115 (.bin .lss (.t 108) (.t 114))] (.cond (.t 115) (.skip) (.exit 6))) (.seq (.blk 7 (.seq (.seq (.quiet [oF 118 2 7,oL 119 118,oM 120 8,oX 121 119 120,oL 122 121,oM 123 10,oX 124 122 123,oL 125 124,o 126 (.bin .lss (.t 125) (qI 0)),oM 127 126,og 128 127 false (.fad 2 (.t 7)),og 129 127 false (.load false 1 (.t 128)),og 130 127 false (.mv (.t 8)),og 131 127 false (.ixs 1 (.t 129) (.t 130)),og 132 127 false (.load false 1 (.t 131)),og 133 127 false (.mv (.t 10)),og 134 127 false (.ixs 1 (.t 132) (.t 133)),og 135 127 false (.load false 1 (.t 134)),og 136 127 false (.fad 0 (.t 1)),og 137 127 false (.load false 1 (.t 136)),og 138 127 false (.bin .gtr (.t 135) (.t 137)),o 139 (.pick (.t 127) (.k (.bool true)) (.t 138))]) (.cond (.t 139) (sQ [o 2 (.mv (.k (.bool false)))] (.ret)) (.skip))) (.ops [oM 140 9,oF 141 2 7,oL 142 141,oM 143 8,oX 144 142 143,oL 145 144,oM 146 10,oX 147 145 146,oL 148 147,o 149 (.bin .add (.t 140) (.t 148)),oM 9 149]))) (.ops [oM 116 10,oA 117 116,oM 10 117]))
def iz:SC:=sQ [oM 150 9,oF 151 0 1,oL 152 151,o 153 (.bin .neq (.t 150) (.t 152))] (.cond (.t 153) (sQ [o 2 (.mv (.k (.bool false)))] (.ret)) (.skip))
def nN:SC:=.ops [oM 97 8,oA 98 97,oM 8 98]
def iy:SC:=.seq (sQ [oM 92 8,oF 93 2 7,oL 94 93,oN 95 94,o 96 (.bin .lss (.t 92) (.t 95))] (.cond (.t 96) (.skip) (.exit 4))) (.seq (.blk 5 (.seq (.seq (.quiet [oF 99 2 7,oL 100 99,oM 101 8,oX 102 100 101,oL 103 102,oN 104 103,oF 105 0 7,oL 106 105,o 107 (.bin .neq (.t 104) (.t 106))]) (.cond (.t 107) (sQ [o 2 (.mv (.k (.bool false)))] (.ret)) (.skip))) (sQ [oK 9 0] (.seq (sQ [oK 10 0] (.blk 6 (.loop iv))) iz)))) nN)
def nO:SC:=.ops [oM 77 6,oA 78 77,oM 6 78]
def nM:SC:=.seq (sQ [oM 72 6,oF 73 1 1,oL 74 73,oN 75 74,o 76 (.bin .lss (.t 72) (.t 75))] (.cond (.t 76) (.skip) (.exit 2))) (.seq (.blk 3 (sQ [oF 79 1 1,oL 80 79,oM 81 6,o 82 (.ixs 3 (.t 80) (.t 81)),o 83 (.load true 3 (.t 82)),o 7 (.alloc [.int .i64 0,.nils,.nils]),oz (.store 3 (.t 7) (.t 83))] (.seq (.seq (.quiet [oF 84 2 7,oL 85 84,oN 86 85,o 87 (.load true 2 (.t 1)),oM 88 6,o 89 (.call N.OW [.t 87,.t 88]),o 90 (.call N.OK [.t 89]),o 91 (.bin .neq (.t 86) (.t 90))]) (.cond (.t 91) (sQ [o 2 (.mv (.k (.bool false)))] (.ret)) (.skip))) (sQ [oK 8 0] (.blk 4 (.loop iy)))))) nO)
def nP:SC:=sQ [o 2 (.mv (.k (.bool true)))] (.ret)
def nQ:SC:=.seq (sQ [oM 64 3,o 65 (.bin .gtr (.t 64) (qI 1024)),oM 66 65,og 67 66 false (.load true 2 (.t 1)),og 68 66 false (.call N.Pv [.t 67]),og 69 66 false (.call N.Pr [.t 68]),og 70 66 false (.not (.t 69)),o 71 (.pick (.t 66) (.k (.bool true)) (.t 70))] (.cond (.t 71) (sQ [o 2 (.mv (.k (.bool false)))] (.ret)) (.skip))) (.seq (sQ [oK 6 0] (.blk 2 (.loop nM))) nP)
def pI:SC:=.seq (sQ [oF 11 0 1,oL 12 11,o 13 (.bin .lss (.t 12) (qI 1)),oM 14 13,og 15 14 false (.fad 0 (.t 1)),og 16 14 false (.load false 1 (.t 15)),og 17 14 false (.bin .gtr (.t 16) (qI 60)),o 18 (.pick (.t 14) (.k (.bool true)) (.t 17)),oM 19 18,og 20 19 false (.fad 1 (.t 1)),og 21 19 false (.load false 1 (.t 20)),og 22 19 false (.len .slice (.t 21)),og 23 19 false (.bin .lss (.t 22) (qI 1)),o 24 (.pick (.t 19) (.k (.bool true)) (.t 23)),oM 25 24,og 26 25 false (.fad 1 (.t 1)),og 27 25 false (.load false 1 (.t 26)),og 28 25 false (.len .slice (.t 27)),og 29 25 false (.bin .gtr (.t 28) (qI 8)),o 30 (.pick (.t 25) (.k (.bool true)) (.t 29))] (.cond (.t 30) (sQ [o 2 (.mv (.k (.bool false)))] (.ret)) (.skip))) (sQ [oK 3 1] (.seq (sQ [oK 4 0] (.blk 0 (.loop nL))) nQ))
def mP:SF:=⟨154,[.tm 2],sQ [o 1 (.box (.t 0)),o 2 (.mv (.k (.bool false)))] pI⟩
def jJ:SC:=.seq (sQ [oM 12 5,oM 13 1,oN 14 13,o 15 (.bin .lss (.t 12) (.t 14))] (.cond (.t 15) (.skip) (.exit 0))) (.seq (.blk 1 (.seq (.quiet [oM 18 1,oM 19 5,oX 20 18 19,oL 21 20,o 22 (.bin .lss (.t 21) (qI (-1))),oM 23 22,og 24 23 false (.mv (.t 1)),og 25 23 false (.mv (.t 5)),og 26 23 false (.ixs 1 (.t 24) (.t 25)),og 27 23 false (.load false 1 (.t 26)),og 28 23 false (.fad 1 (.t 2)),og 29 23 false (.load false 1 (.t 28)),og 30 23 false (.mv (.t 5)),og 31 23 false (.ixs 3 (.t 29) (.t 30)),og 32 23 false (.fad 0 (.t 31)),og 33 23 false (.load false 1 (.t 32)),og 34 23 false (.bin .geq (.t 27) (.t 33)),o 35 (.pick (.t 23) (.k (.bool true)) (.t 34))]) (.cond (.t 35) (sQ [o 4 (.mv (.k (.bool false)))] (.ret)) (.skip)))) (.ops [oM 16 5,oA 17 16,oM 5 17]))
def jK:SC:=sQ [o 4 (.mv (.k (.bool true)))] (.ret)
def fG:SC:=.seq (sQ [oM 6 1,oN 7 6,oF 8 1 2,oL 9 8,oN 10 9,o 11 (.bin .neq (.t 7) (.t 10))] (.cond (.t 11) (sQ [o 4 (.mv (.k (.bool false)))] (.ret)) (.skip))) (.seq (sQ [oK 5 0] (.blk 0 (.loop jJ))) jK)
def eH:SF:=⟨36,[.tm 4],sQ [o 2 (.box (.t 0)),o 4 (.mv (.k (.bool false)))] fG⟩
def uz:SC:=.seq (sQ [oM 13 6,o 14 (.bin .geq (.t 13) (qI 0))] (.cond (.t 14) (.skip) (.exit 0))) (.seq (.blk 1 (sQ [oM 17 5,oM 18 6,oM 19 1,oM 20 0,oM 21 6,oX 22 20 21,oL 23 22,o 24 (.bin .rem (.t 19) (.t 23)),oX 25 17 18,oz (.store 1 (.t 25) (.t 24))] (.ops [oM 26 1,oM 27 0,oM 28 6,oX 29 27 28,oL 30 29,o 31 (.bin .quo (.t 26) (.t 30)),oM 1 31]))) (.ops [oM 15 6,o 16 (.bin .sub (.t 15) (qI 1)),oM 6 16]))
def l_:SC:=sQ [oM 32 5,oM 4 32] (.ret)
def kI:SF:=⟨33,[.tm 4],sQ [o 4 (.mv (.k (.nils)))] (sQ [oM 7 0,oN 8 7,o 9 (.mks 1 8 [.int .i64 0] (.t 8) (.t 8)),oM 5 9] (.seq (sQ [oM 10 0,oN 11 10,o 12 (.bin .sub (.t 11) (qI 1)),oM 6 12] (.blk 0 (.loop uz))) l_))⟩
def sL:SC:=.seq (.quiet [oF 7 1 3,oL 8 7,oM 9 1,o 10 (.ixs 3 (.t 8) (.t 9)),oF 11 2 10,oL 12 11,o 13 (.load true 2 (.t 3)),oM 14 1,o 15 (.call N.OW [.t 13,.t 14]),oM 16 2,oF 17 1 3,oL 18 17,oM 19 1,o 20 (.ixs 3 (.t 18) (.t 19)),oF 21 1 20,oL 22 21,o 23 (.call N.O7 [.t 16,.t 22]),o 24 (.call N.Po [.t 15,.t 23]),oX 25 12 24,oL 26 25,oM 6 26]) (.ret)
def qJ:SF:=⟨27,[.tm 6],sQ [o 3 (.box (.t 0)),o 6 (.mv (.k (.nils)))] sL⟩
def ko:SF:=⟨6,[.tm 2],sQ [o 2 (.mv (.k (.bool false)))] (sQ [oM 3 0,oM 4 0,o 5 (.bin .neq (.t 3) (.t 4)),oM 2 5] (.ret))⟩
def pC:SC:=sQ [oM 48 9,oM 49 11,o 50 (.build [.int .i64 0,.int .i64 0] [(0,1),(1,1)] [.t 48,.t 49]),oz (.store 2 (.t 6) (.t 50)),o 7 (.mv (.k (.bool true)))] (.ret)
def qE:SC:=sQ [oM 13 1,oM 14 2,o 15 (.call N.Pl [.t 13,.t 14]),oM 8 15] (sQ [oM 17 1,oM 18 8,o 19 (.call N.OS [.t 17,.t 18]),oM 16 19,o 20 (.ext (.t 16) 0),o 21 (.ext (.t 16) 1),oM 1 20] (sQ [oM 23 2,oM 24 8,o 25 (.call N.OS [.t 23,.t 24]),oM 22 25,o 26 (.ext (.t 22) 0),o 27 (.ext (.t 22) 1),oM 2 26] (sQ [oM 29 1,o 30 (.call N.OI [.t 29]),oM 28 30,o 31 (.ext (.t 28) 0),o 32 (.ext (.t 28) 1),oM 9 31,oM 10 32] (sQ [oM 34 2,o 35 (.call N.OI [.t 34]),oM 33 35,o 36 (.ext (.t 33) 0),o 37 (.ext (.t 33) 1),oM 11 36,oM 12 37] (.seq (sQ [oM 38 10,o 39 (.not (.t 38)),oM 40 39,og 41 40 false (.mv (.t 12)),og 42 40 false (.not (.t 41)),o 43 (.pick (.t 40) (.k (.bool true)) (.t 42))] (.cond (.t 43) (sQ [o 44 (.build [.int .i64 0,.int .i64 0] [] []),oz (.store 2 (.t 6) (.t 44)),o 7 (.mv (.k (.bool false)))] (.ret)) (.skip))) (.seq (sQ [oM 45 0] (.cond (.t 45) (.ops [oM 46 9,o 47 (.un .neg (.t 46)),oM 9 47]) (.skip))) pC))))))
def oV:SF:=⟨51,[.cell true 2 6,.tm 7],sQ [o 6 (.alloc [.int .i64 0,.int .i64 0]),o 7 (.mv (.k (.bool false)))] qE⟩
def lV:SC:=.seq (sQ [oM 5 0,o 6 (.bin .neq (.t 5) (qI 0))] (.cond (.t 6) (.skip) (.exit 0))) (.blk 1 (sQ [oM 7 0,o 8 (.bin .rem (.t 7) (qI 10000)),oM 4 8] (sQ [oM 9 3,oM 10 4,oM 11 4,o 12 (.un .neg (.t 11)),o 13 (.mx (.t 10) (.t 12)),o 14 (.bsl 1 1 [.int .i64 0] [0] [.t 13]),o 15 (.app 1 8 (.t 9) (.t 14)),oM 3 15] (.ops [oM 16 0,o 17 (.bin .quo (.t 16) (qI 10000)),oM 0 17]))))
def lW:SC:=sQ [oM 18 3,oM 2 18] (.ret)
def kC:SF:=⟨19,[.tm 2],sQ [o 2 (.mv (.k (.nils)))] (sQ [o 3 (.mv (.k (.nils)))] (.seq (.blk 0 (.loop lV)) lW))⟩
def fU:SC:=sQ [o 17 (.bin .lss (.t 16) (.t 15))] (.seq (.cond (.t 17) (.skip) (.exit 0)) (.seq (.blk 1 (sQ [oX 18 14 16,oL 19 18,oM 7 19] (.ops [oM 20 5,oF 21 2 2,oL 22 21,oM 23 7,oX 24 22 23,oL 25 24,o 26 (.bin .mul (.t 20) (.t 25)),oM 5 26]))) (.ops [oA 27 16,oM 16 27])))
def fT:SC:=.ops [oM 9 36]
def di:SC:=sQ [o 43 (.bin .lss (.t 42) (.t 41))] (.seq (.cond (.t 43) (.skip) (.exit 4)) (.seq (.blk 5 (sQ [oX 44 40 42,oL 45 44,oM 12 45] (.seq (sQ [oM 46 12,o 47 (.bin .lss (.t 46) (qI 0)),oM 48 47,og 49 48 false (.mv (.t 12)),og 50 48 false (.mv (.t 10)),og 51 48 false (.bin .gtr (.t 49) (.t 50)),o 52 (.pick (.t 48) (.k (.bool true)) (.t 51))] (.cond (.t 52) (sQ [oz (.store 1 (.t 4) (.k (.bool false)))] (.ret)) (.skip))) (.ops [oM 53 10,oM 54 12,o 55 (.bin .sub (.t 53) (.t 54)),oM 10 55])))) (.ops [oA 56 42,oM 42 56])))
def bO:SC:=sQ [oM 57 9,oN 58 57,oF 59 0 3,oL 60 59,o 61 (.bin .neq (.t 58) (.t 60)),oM 62 61,og 63 62 false (.mv (.t 10)),og 64 62 false (.bin .neq (.t 63) (qI 0)),o 65 (.pick (.t 62) (.k (.bool true)) (.t 64))] (.cond (.t 65) (sQ [oz (.store 1 (.t 4) (.k (.bool false)))] (.ret)) (.skip))
def fV:SC:=.blk 3 (sQ [oF 37 0 2,oF 38 0 37,oL 39 38,oM 10 39] (.seq (sQ [oM 40 9,oN 41 40,oK 42 0] (.blk 4 (.loop di))) bO))
def fW:SC:=sQ [oz (.store 1 (.t 4) (.k (.bool true)))] (.ret)
def fX:SC:=.seq (sQ [oF 28 2 3,oL 29 28,oN 30 29,oM 31 5,o 32 (.bin .neq (.t 30) (.t 31))] (.cond (.t 32) (sQ [oz (.store 1 (.t 4) (.k (.bool false)))] (.ret)) (.skip))) (.seq (sQ [o 33 (.load true 3 (.t 3)),o 34 (.call N.O3 [.t 33])] (.blk 2 (.rng 66 (.t 34) [35,36] fT fV))) fW)
def gG:SC:=sQ [oK 5 1] (.seq (sQ [oF 13 1 3,oL 14 13,oN 15 14,oK 16 0] (.blk 0 (.loop fU))) fX)
def d6:SF:=⟨66,[.cell false 1 4],sQ [o 2 (.box (.t 0)),o 3 (.box (.t 1)),o 4 (.alloc [.bool false])] gG⟩
def py:SC:=sQ [o 19 (.bin .lss (.t 18) (.t 17))] (.seq (.cond (.t 19) (.skip) (.exit 2)) (.seq (.blk 3 (sQ [oM 20 18,oX 21 16 18,oL 22 21,oM 6 20,oM 7 22] (sQ [oM 23 5,oM 24 6,o 25 (.bin .shr (.t 23) (.t 24)),o 26 (.bin .and (.t 25) (.k (.int .u64 1))),o 27 (.bin .eql (.t 26) (.k (.int .u64 0))),oM 28 27,og 29 28 true (.mv (.t 7)),og 30 28 true (.mv (.t 5)),og 31 28 true (.bin .andNot (.t 29) (.t 30)),og 32 28 true (.bin .eql (.t 31) (.k (.int .u64 0))),o 33 (.pick (.t 28) (.t 32) (.k (.bool false)))] (.cond (.t 33) (sQ [oM 34 4,oM 35 6,o 36 (.bsl 1 1 [.int .i64 0] [0] [.t 35]),o 37 (.app 1 8 (.t 34) (.t 36)),oM 4 37] (sQ [oM 38 5,oM 39 6,o 40 (.bin .shl (.k (.int .u64 1)) (.t 39)),o 41 (.bin .or (.t 38) (.t 40)),oM 5 41] (.exit 1))) (.skip))))) (.ops [oA 42 18,oM 18 42])))
def pA:SC:=sQ [o 2 (.mv (.k (.nils))),o 3 (.mv (.k (.bool false)))] (.ret)
def pz:SC:=.seq (sQ [oM 11 4,oN 12 11,oM 13 0,oN 14 13,o 15 (.bin .lss (.t 12) (.t 14))] (.cond (.t 15) (.skip) (.exit 0))) (.blk 1 (.seq (sQ [oM 16 0,oN 17 16,oK 18 0] (.blk 2 (.loop py))) pA))
def pB:SC:=sQ [oM 43 4,oM 2 43,o 3 (.mv (.k (.bool true)))] (.ret)
def oT:SF:=⟨44,[.tm 2,.tm 3],sQ [o 2 (.mv (.k (.nils))),o 3 (.mv (.k (.bool false)))] (sQ [oM 8 0,oN 9 8,o 10 (.mks 1 8 [.int .i64 0] (qI 0) (.t 9)),oM 4 10,o 5 (.mv (.k (.int .u64 0)))] (.seq (.skip) (.seq (.blk 0 (.loop pz)) pB)))⟩
def f_:SC:=sQ [o 9 (.bin .lss (.t 8) (.t 7))] (.seq (.cond (.t 9) (.skip) (.exit 0)) (.seq (.blk 1 (sQ [oM 10 8,oM 5 10] (sQ [oM 11 1,oM 12 0,oM 13 5,oX 14 12 13,oL 15 14,o 16 (.bin .eql (.t 11) (.t 15))] (.cond (.t 16) (sQ [oM 17 5,oM 4 17] (.ret)) (.skip))))) (.ops [oA 18 8,oM 8 18])))
def gc:SC:=sQ [oK 4 (-1)] (.ret)
def ea:SF:=⟨19,[.tm 4],sQ [oK 4 0] (.seq (sQ [oM 6 0,oN 7 6,oK 8 0] (.blk 0 (.loop f_))) gc)⟩
def qS:SC:=sQ [o 17 (.bin .lss (.t 16) (.t 15))] (.seq (.cond (.t 17) (.skip) (.exit 0)) (.seq (.blk 1 (sQ [oX 18 14 16,oL 19 18,oM 9 19] (.quiet [oM 20 7,oM 21 0,oM 22 9,o 23 (.ixs 3 (.t 21) (.t 22)),oF 24 0 23,oL 25 24,o 26 (.bin .mul (.t 20) (.t 25)),oM 27 2,oM 28 9,oX 29 27 28,oL 30 29,o 31 (.bin .add (.t 26) (.t 30)),oM 7 31]))) (.ops [oA 32 16,oM 16 32])))
def qT:SC:=sQ [oM 33 7,oM 6 33] (.ret)
def qR:SF:=⟨34,[.tm 6],sQ [oK 6 0] (sQ [oK 7 0] (.seq (sQ [oM 10 0,oM 11 1,o 12 (.ixs 3 (.t 10) (.t 11)),oF 13 1 12,oL 14 13,oN 15 14,oK 16 0] (.blk 0 (.loop qS))) qT))⟩
def bE:SC:=.seq (.seq (.quiet [oM 18 5,o 19 (.bin .geq (.t 18) (qI 0)),oM 20 19,og 21 20 true (.mv (.t 3)),og 22 20 true (.mv (.t 5)),og 23 20 true (.ixs 1 (.t 21) (.t 22)),og 24 20 true (.load false 1 (.t 23)),og 25 20 true (.load false 1 (.t 1)),og 26 20 true (.mv (.t 5)),og 27 20 true (.ixs 1 (.t 25) (.t 26)),og 28 20 true (.load false 1 (.t 27)),og 29 20 true (.bin .sub (.t 28) (qI 1)),og 30 20 true (.bin .eql (.t 24) (.t 29)),o 31 (.pick (.t 20) (.t 30) (.k (.bool false)))]) (.cond (.t 31) (.skip) (.exit 2))) (.blk 3 (sQ [oM 32 3,oM 33 5,oX 34 32 33,oz (.store 1 (.t 34) (qI 0))] (.ops [oM 35 5,o 36 (.bin .sub (.t 35) (qI 1)),oM 5 36])))
def bF:SC:=.seq (sQ [oM 37 5,o 38 (.bin .lss (.t 37) (qI 0))] (.cond (.t 38) (.ret) (.skip))) (.ops [oM 39 3,oM 40 5,oX 41 39 40,oL 42 41,oA 43 42,oX 44 39 40,oz (.store 1 (.t 44) (.t 43))])
def cH:SC:=.ops [oM 13 4,oA 14 13,oM 4 14]
def eM:SC:=.seq (sQ [oM 9 0,oM 10 4,oM 11 3,o 12 (.dyn (.t 9) [.t 10,.t 11])] (.cond (.t 12) (.skip) (.exit 0))) (.seq (.blk 1 (sQ [oL 15 1,oN 16 15,o 17 (.bin .sub (.t 16) (qI 1)),oM 5 17] (.seq (.blk 2 (.loop bE)) bF))) cH)
def aN:SF:=⟨45,[],sQ [oL 6 1,oN 7 6,o 8 (.mks 1 8 [.int .i64 0] (.t 7) (.t 7)),oM 3 8] (sQ [oK 4 0] (.blk 0 (.loop eM)))⟩
def tw:SC:=.seq (sQ [oM 4 3,oM 5 0,oN 6 5,o 7 (.bin .lss (.t 4) (.t 6))] (.cond (.t 7) (.skip) (.exit 0))) (.seq (.blk 1 (sQ [oM 10 0,oM 11 0,oM 12 3,oX 13 11 12,oL 14 13,o 15 (.call N.Py [.t 10,.t 14]),oM 16 3,o 17 (.call N.O_ [.t 15,.t 16])] (.cond (.t 17) (sQ [o 2 (.mv (.k (.bool false)))] (.ret)) (.skip)))) (.ops [oM 8 3,oA 9 8,oM 3 9]))
def kJ:SC:=sQ [o 2 (.mv (.k (.bool true)))] (.ret)
def js:SF:=⟨18,[.tm 2],sQ [o 2 (.mv (.k (.bool false)))] (.seq (sQ [oK 3 0] (.blk 0 (.loop tw))) kJ)⟩
def pW:SC:=.seq (sQ [oM 14 6,oF 15 1 1,oL 16 15,oM 17 4,o 18 (.ixs 3 (.t 16) (.t 17)),oF 19 1 18,oL 20 19,oN 21 20,o 22 (.bin .lss (.t 14) (.t 21))] (.cond (.t 22) (.skip) (.exit 2))) (.seq (.blk 3 (.ops [oM 25 5,oF 26 1 1,oL 27 26,oM 28 4,o 29 (.ixs 3 (.t 27) (.t 28)),oF 30 1 29,oL 31 30,oM 32 6,oX 33 31 32,oL 34 33,o 35 (.conv .u64 (.t 34)),o 36 (.bin .shl (.k (.int .u64 1)) (.t 35)),o 37 (.bin .or (.t 25) (.t 36)),oM 5 37])) (.ops [oM 23 6,oA 24 23,oM 6 24]))
def ic:SC:=.ops [oM 38 3,oM 39 5,o 40 (.bsl 1 1 [.int .u64 0] [0] [.t 39]),o 41 (.app 1 8 (.t 38) (.t 40)),oM 3 41]
def pY:SC:=.ops [oM 12 4,oA 13 12,oM 4 13]
def pX:SC:=.seq (sQ [oM 7 4,oF 8 1 1,oL 9 8,oN 10 9,o 11 (.bin .lss (.t 7) (.t 10))] (.cond (.t 11) (.skip) (.exit 0))) (.seq (.blk 1 (sQ [o 5 (.mv (.k (.int .u64 0)))] (.seq (sQ [oK 6 0] (.blk 2 (.loop pW))) ic))) pY)
def ie:SC:=sQ [oM 42 3,oM 2 42] (.ret)
def iZ:SC:=sQ [o 3 (.mv (.k (.nils)))] (.seq (sQ [oK 4 0] (.blk 0 (.loop pX))) ie)
def fH:SF:=⟨43,[.tm 2],sQ [o 1 (.box (.t 0)),o 2 (.mv (.k (.nils)))] iZ⟩
def kG:SC:=.seq (sQ [oM 7 1,oN 8 7,o 9 (.bin .gtr (.t 8) (qI 0))] (.cond (.t 9) (.skip) (.exit 0))) (.blk 1 (sQ [oM 11 0,oM 12 1,o 13 (.call N.OS [.t 11,.t 12]),oM 10 13,o 14 (.ext (.t 10) 0),o 15 (.ext (.t 10) 1),oM 5 14,oM 6 15] (sQ [oM 16 1,oM 0 16] (.ops [oM 17 6,oM 1 17]))))
def qD:SC:=sQ [oM 18 0,oM 4 18] (.ret)
def qC:SF:=⟨19,[.tm 4],sQ [o 4 (.mv (.k (.nils)))] (.seq (.blk 0 (.loop kG)) qD)⟩
def dW:SC:=sQ [oM 75 12,oM 76 6,o 77 (.bin .leq (.t 75) (.t 76))] (.cond (.t 77) (.ops [oM 78 10,o 79 (.bin .mul (.t 78) (qI 10000)),oM 80 1,oM 81 12,oX 82 80 81,oL 83 82,o 84 (.bin .add (.t 79) (.t 83)),oM 10 84]) (.skip))
def gJ:SC:=.ops [oM 61 12,o 62 (.bin .sub (.t 61) (qI 1)),oM 12 62]
def cP:SC:=.seq (sQ [oM 56 12,oM 57 6,o 58 (.bin .sub (.t 57) (qI 1)),o 59 (.mx (qI 0) (.t 58)),o 60 (.bin .geq (.t 56) (.t 59))] (.cond (.t 60) (.skip) (.exit 2))) (.seq (.blk 3 (sQ [oM 63 11,o 64 (.bin .mul (.t 63) (qI 10000)),oM 11 64] (.seq (sQ [oM 65 12,oM 66 8,oN 67 66,o 68 (.bin .lss (.t 65) (.t 67))] (.cond (.t 68) (.ops [oM 69 11,oM 70 8,oM 71 12,oX 72 70 71,oL 73 72,o 74 (.bin .add (.t 69) (.t 73)),oM 11 74]) (.skip))) dW))) gJ)
def dV:SC:=.seq (sQ [oM 92 13,oM 93 14,o 94 (.bin .lss (.t 92) (.t 93))] (.cond (.t 94) (.skip) (.exit 4))) (.blk 5 (sQ [oM 95 13,oM 96 14,o 97 (.bin .add (.t 95) (.t 96)),oA 98 97,o 99 (.bin .quo (.t 98) (qI 2)),oM 15 99] (sQ [oM 100 1,oM 101 15,o 102 (.bsl 1 1 [.int .i64 0] [0] [.t 101]),o 103 (.call N.O6 [.t 100,.t 102]),oM 104 8,o 105 (.call N.OP [.t 103,.t 104]),o 106 (.bin .leq (.t 105) (qI 0))] (.cond (.t 106) (.ops [oM 107 15,oM 13 107]) (.ops [oM 108 15,o 109 (.bin .sub (.t 108) (qI 1)),oM 14 109])))))
def gK:SC:=sQ [oM 110 7,oM 111 9,oM 112 13,oX 113 110 111,oz (.store 1 (.t 113) (.t 112))] (.ops [oM 114 8,oM 115 1,oM 116 13,o 117 (.bsl 1 1 [.int .i64 0] [0] [.t 116]),o 118 (.call N.OH [.t 117]),o 119 (.call N.O6 [.t 115,.t 118]),o 120 (.call N.Pm [.t 114,.t 119]),oM 8 120])
def lY:SC:=.seq (.quiet [oM 85 11,oM 86 10,oA 87 86,o 88 (.bin .quo (.t 85) (.t 87)),oM 89 11,oM 90 10,o 91 (.bin .quo (.t 89) (.t 90)),oM 13 88,oM 14 91]) (.seq (.blk 4 (.loop dV)) gK)
def lZ:SC:=.ops [oM 44 9,o 45 (.bin .sub (.t 44) (qI 1)),oM 9 45]
def lX:SC:=.seq (sQ [oM 42 9,o 43 (.bin .geq (.t 42) (qI 0))] (.cond (.t 43) (.skip) (.exit 0))) (.seq (.blk 1 (sQ [oM 46 0,oM 47 9,oX 48 46 47,oL 49 48,o 50 (.bsl 1 1 [.int .i64 0] [0] [.t 49]),oM 51 8,o 52 (.app 1 8 (.t 50) (.t 51)),o 53 (.call N.OH [.t 52]),oM 8 53] (sQ [oK 10 0,oK 11 0] (.seq (sQ [oM 54 6,oA 55 54,oM 12 55] (.blk 2 (.loop cP))) lY)))) lZ)
def l8:SC:=sQ [oM 121 7,o 122 (.call N.OH [.t 121]),oM 123 8,oM 4 122,oM 5 123] (.ret)
def gI:SF:=⟨124,[.tm 4,.tm 5],sQ [o 4 (.mv (.k (.nils))),o 5 (.mv (.k (.nils)))] (sQ [oM 16 1,oN 17 16,o 18 (.bin .sub (.t 17) (qI 1)),oM 6 18] (.seq (sQ [oM 19 0,oN 20 19,oM 21 6,o 22 (.bin .leq (.t 20) (.t 21))] (.cond (.t 22) (sQ [o 23 (.bsl 1 0 [.int .i64 0] [] []),oM 24 0,o 25 (.app 1 8 (.t 23) (.t 24)),o 4 (.mv (.k (.nils))),oM 5 25] (.ret)) (.skip))) (sQ [oM 26 0,oN 27 26,oM 28 6,o 29 (.bin .sub (.t 27) (.t 28)),o 30 (.mks 1 8 [.int .i64 0] (.t 29) (.t 29)),oM 7 30] (sQ [o 31 (.bsl 1 0 [.int .i64 0] [] []),oM 32 0,oM 33 0,oN 34 33,oM 35 6,o 36 (.bin .sub (.t 34) (.t 35)),o 37 (.slc 1 (.t 32) [.t 36] []),o 38 (.app 1 8 (.t 31) (.t 37)),oM 8 38] (.seq (sQ [oM 39 7,oN 40 39,o 41 (.bin .sub (.t 40) (qI 1)),oM 9 41] (.blk 0 (.loop lX))) l8)))))⟩
def nG:SC:=.seq (sQ [oM 13 5,o 14 (.bin .geq (.t 13) (qI 0))] (.cond (.t 14) (.skip) (.exit 0))) (.seq (.blk 1 (.ops [oM 17 4,o 18 (.bin .mul (qI 10000) (.t 17)),oM 19 0,oM 20 5,oX 21 19 20,oL 22 21,o 23 (.bin .add (.t 18) (.t 22)),oM 4 23])) (.ops [oM 15 5,o 16 (.bin .sub (.t 15) (qI 1)),oM 5 16]))
def nH:SC:=sQ [oM 24 4,oM 2 24,o 3 (.mv (.k (.bool true)))] (.ret)
def mM:SF:=⟨25,[.tm 2,.tm 3],sQ [oK 2 0,o 3 (.mv (.k (.bool false)))] (.seq (sQ [oM 6 0,o 7 (.call N.OQ [.k (.int .i64 4611686018427387903)]),o 8 (.call N.OP [.t 6,.t 7]),o 9 (.bin .gtr (.t 8) (qI 0))] (.cond (.t 9) (sQ [oK 2 0,o 3 (.mv (.k (.bool false)))] (.ret)) (.skip))) (sQ [oK 4 0] (.seq (sQ [oM 10 0,oN 11 10,o 12 (.bin .sub (.t 11) (qI 1)),oM 5 12] (.blk 0 (.loop nG))) nH)))⟩
def uw:SC:=sQ [o 3 (.mkf N.OG [] [.t 1]),oM 2 3] (.ret)
def tk:SF:=⟨4,[.tm 2],sQ [o 1 (.box (.t 0)),o 2 (.mv (.k (.nilf)))] uw⟩
def tx:SF:=⟨11,[.tm 4],sQ [o 4 (.mv (.k (.bool false)))] (sQ [oM 5 0,oM 6 1,o 7 (.conv .u64 (.t 6)),o 8 (.bin .shr (.t 5) (.t 7)),o 9 (.bin .and (.t 8) (.k (.int .u64 1))),o 10 (.bin .eql (.t 9) (.k (.int .u64 1))),oM 4 10] (.ret))⟩
def zV:SC:=.ops [oM 17 6,oA 18 17,oM 6 18]
def zT:SC:=.seq (sQ [oM 13 6,oM 14 0,oN 15 14,o 16 (.bin .lss (.t 13) (.t 15))] (.cond (.t 16) (.skip) (.exit 2))) (.seq (.blk 3 (sQ [oM 19 1,oM 20 6,o 21 (.call N.O_ [.t 19,.t 20])] (.cond (.t 21) (.ops [oM 22 1,oM 23 0,oM 24 6,oX 25 23 24,oL 26 25,o 27 (.bin .or (.t 22) (.t 26)),oM 1 27]) (.skip)))) zV)
def zW:SC:=.ops [oM 11 5,oA 12 11,oM 5 12]
def zU:SC:=.seq (sQ [oM 7 5,oM 8 0,oN 9 8,o 10 (.bin .lss (.t 7) (.t 9))] (.cond (.t 10) (.skip) (.exit 0))) (.seq (.blk 1 (sQ [oK 6 0] (.blk 2 (.loop zT)))) zW)
def sM:SC:=sQ [oM 28 1,oM 4 28] (.ret)
def tz:SF:=⟨29,[.tm 4],sQ [o 4 (.mv (.k (.int .u64 0)))] (.seq (sQ [oK 5 0] (.blk 0 (.loop zU))) sM)⟩
def qB:SC:=.seq (sQ [oM 3 0,oN 4 3,o 5 (.bin .gtr (.t 4) (qI 0)),oM 6 5,og 7 6 true (.mv (.t 0)),og 8 6 true (.mv (.t 0)),og 9 6 true (.len .slice (.t 8)),og 10 6 true (.bin .sub (.t 9) (qI 1)),og 11 6 true (.ixs 1 (.t 7) (.t 10)),og 12 6 true (.load false 1 (.t 11)),og 13 6 true (.bin .eql (.t 12) (qI 0)),o 14 (.pick (.t 6) (.t 13) (.k (.bool false)))] (.cond (.t 14) (.skip) (.exit 0))) (.blk 1 (.ops [oM 15 0,oM 16 0,oN 17 16,o 18 (.bin .sub (.t 17) (qI 1)),o 19 (.slc 1 (.t 15) [] [.t 18]),oM 0 19]))
def gH:SC:=sQ [oM 20 0,oM 2 20] (.ret)
def qA:SF:=⟨21,[.tm 2],sQ [o 2 (.mv (.k (.nils)))] (.seq (.blk 0 (.loop qB)) gH)⟩
def ky:SC:=.seq (sQ [oM 19 5,o 20 (.bin .geq (.t 19) (qI 0))] (.cond (.t 20) (.skip) (.exit 0))) (.seq (.blk 1 (.seq (.quiet [oM 23 0,oM 24 5,oX 25 23 24,oL 26 25,oM 27 1,oM 28 5,oX 29 27 28,oL 30 29,o 31 (.bin .neq (.t 26) (.t 30))]) (.cond (.t 31) (.seq (.seq (.quiet [oM 32 0,oM 33 5,oX 34 32 33,oL 35 34,oM 36 1,oM 37 5,oX 38 36 37,oL 39 38,o 40 (.bin .lss (.t 35) (.t 39))]) (.cond (.t 40) (sQ [oK 4 (-1)] (.ret)) (.skip))) (sQ [oK 4 1] (.ret))) (.skip)))) (.ops [oM 21 5,o 22 (.bin .sub (.t 21) (qI 1)),oM 5 22]))
def kA:SC:=sQ [oK 4 0] (.ret)
def jp:SF:=⟨41,[.tm 4],sQ [oK 4 0] (.seq (sQ [oM 6 0,oN 7 6,oM 8 1,oN 9 8,o 10 (.bin .neq (.t 7) (.t 9))] (.cond (.t 10) (.seq (sQ [oM 11 0,oN 12 11,oM 13 1,oN 14 13,o 15 (.bin .lss (.t 12) (.t 14))] (.cond (.t 15) (sQ [oK 4 (-1)] (.ret)) (.skip))) (sQ [oK 4 1] (.ret))) (.skip))) (.seq (sQ [oM 16 0,oN 17 16,o 18 (.bin .sub (.t 17) (qI 1)),oM 5 18] (.blk 0 (.loop ky))) kA))⟩
def iq:SC:=sQ [oM 54 5,oM 55 6,oM 56 8,o 57 (.bin .add (.t 55) (.t 56)),oM 58 7,o 59 (.bin .rem (.t 58) (qI 10000)),oX 60 54 57,oz (.store 1 (.t 60) (.t 59))] (.ops [oM 61 7,o 62 (.bin .quo (.t 61) (qI 10000)),oM 7 62])
def ir:SC:=.ops [oM 29 8,oA 30 29,oM 8 30]
def dj:SC:=.seq (sQ [oM 21 8,oM 22 1,oN 23 22,o 24 (.bin .lss (.t 21) (.t 23)),oM 25 24,og 26 25 false (.mv (.t 7)),og 27 25 false (.bin .gtr (.t 26) (qI 0)),o 28 (.pick (.t 25) (.k (.bool true)) (.t 27))] (.cond (.t 28) (.skip) (.exit 2))) (.seq (.blk 3 (sQ [oM 31 7,oM 32 5,oM 33 6,oM 34 8,o 35 (.bin .add (.t 33) (.t 34)),oX 36 32 35,oL 37 36,o 38 (.bin .add (.t 31) (.t 37)),oM 7 38] (.seq (sQ [oM 39 8,oM 40 1,oN 41 40,o 42 (.bin .lss (.t 39) (.t 41))] (.cond (.t 42) (.quiet [oM 43 7,oM 44 0,oM 45 6,oX 46 44 45,oL 47 46,oM 48 1,oM 49 8,oX 50 48 49,oL 51 50,o 52 (.bin .mul (.t 47) (.t 51)),o 53 (.bin .add (.t 43) (.t 52)),oM 7 53]) (.skip))) iq))) ir)
def vO:SC:=.ops [oM 19 6,oA 20 19,oM 6 20]
def nE:SC:=.seq (sQ [oM 15 6,oM 16 0,oN 17 16,o 18 (.bin .lss (.t 15) (.t 17))] (.cond (.t 18) (.skip) (.exit 0))) (.seq (.blk 1 (sQ [oK 7 0] (sQ [oK 8 0] (.blk 2 (.loop dj))))) vO)
def nF:SC:=sQ [oM 63 5,o 64 (.call N.OH [.t 63]),oM 4 64] (.ret)
def mL:SF:=⟨65,[.tm 4],sQ [o 4 (.mv (.k (.nils)))] (sQ [oM 9 0,oN 10 9,oM 11 1,oN 12 11,o 13 (.bin .add (.t 10) (.t 12)),o 14 (.mks 1 8 [.int .i64 0] (.t 13) (.t 13)),oM 5 14] (.seq (sQ [oK 6 0] (.blk 0 (.loop nE))) nF))⟩
def ip:SC:=.ops [oM 35 5,oM 36 8,o 37 (.bsl 1 1 [.int .i64 0] [0] [.t 36]),o 38 (.app 1 8 (.t 35) (.t 37)),oM 5 38]
def eG:SC:=sQ [oK 6 0] (.seq (sQ [oM 31 8,o 32 (.bin .lss (.t 31) (qI 0))] (.cond (.t 32) (sQ [oM 33 8,o 34 (.bin .add (.t 33) (qI 10000)),oM 8 34] (.ops [oK 6 1])) (.skip))) ip)
def vN:SC:=.ops [oM 13 7,oA 14 13,oM 7 14]
def nC:SC:=.seq (sQ [oM 9 7,oM 10 0,oN 11 10,o 12 (.bin .lss (.t 9) (.t 11))] (.cond (.t 12) (.skip) (.exit 0))) (.seq (.blk 1 (sQ [oM 15 0,oM 16 7,oX 17 15 16,oL 18 17,oM 19 6,o 20 (.bin .sub (.t 18) (.t 19)),oM 8 20] (.seq (sQ [oM 21 7,oM 22 1,oN 23 22,o 24 (.bin .lss (.t 21) (.t 23))] (.cond (.t 24) (.ops [oM 25 8,oM 26 1,oM 27 7,oX 28 26 27,oL 29 28,o 30 (.bin .sub (.t 25) (.t 29)),oM 8 30]) (.skip))) eG))) vN)
def nD:SC:=sQ [oM 39 5,o 40 (.call N.OH [.t 39]),oM 4 40] (.ret)
def mK:SF:=⟨41,[.tm 4],sQ [o 4 (.mv (.k (.nils)))] (sQ [o 5 (.mv (.k (.nils)))] (sQ [oK 6 0] (.seq (sQ [oK 7 0] (.blk 0 (.loop nC))) nD)))⟩
def px:SC:=sQ [o 9 (.bin .lss (.t 8) (.t 7))] (.seq (.cond (.t 9) (.skip) (.exit 0)) (.seq (.blk 1 (sQ [oM 10 8,oX 11 6 8,oL 12 11,oM 3 10,oM 4 12] (sQ [oM 13 0,oM 14 3,oM 15 4,o 16 (.dyn (.t 13) [.t 14,.t 15]),o 17 (.not (.t 16))] (.cond (.t 17) (.ret) (.skip))))) (.ops [oA 18 8,oM 8 18])))
def eF:SF:=⟨19,[],sQ [oF 5 2 1,oL 6 5,oN 7 6,oK 8 0] (.blk 0 (.loop px))⟩
theorem oQ:nFn C0 N.PM=some dS:=by kernel_rfl
theorem zK:nFn C0 N.Ph=some oS:=by kernel_rfl
theorem wO (d:Nat)(xs:List AV)(g:G):am C0 d N.Ph xs g=af (I C0) d g N.Ph xs:=by kernel_rfl
theorem th:nFn C0 N.Pg=some gD:=by kernel_rfl
theorem qg (d:Nat)(xs:List AV)(g:G):am C0 d N.Pg xs g=af (I C0) d g N.Pg xs:=by kernel_rfl
theorem tj:nFn C0 N.O9=some gM:=by kernel_rfl
theorem qh (d:Nat)(xs:List AV)(g:G):am C0 d N.O9 xs g=af (I C0) d g N.O9 xs:=by kernel_rfl
theorem pT:nFn C0 N.PI=some cR:=by kernel_rfl
theorem nq (d:Nat)(xs:List AV)(g:G):am C0 d N.PI xs g=af (I C0) d g N.PI xs:=by kernel_rfl
theorem ul:nFn C0 N.Pe=some io:=by kernel_rfl
theorem su (d:Nat)(xs:List AV)(g:G):am C0 d N.Pe xs g=af (I C0) d g N.Pe xs:=by kernel_rfl
theorem xf:nFn C0 N.PC=some cz:=by kernel_rfl
theorem uh (d:Nat)(xs:List AV)(g:G):am C0 d N.PC xs g=af (I C0) d g N.PC xs:=by kernel_rfl
theorem yy:nFn C0 N.PA=some mQ:=by kernel_rfl
theorem vz (d:Nat)(xs:List AV)(g:G):am C0 d N.PA xs g=af (I C0) d g N.PA xs:=by kernel_rfl
theorem ut:nFn C0 N.Pt=some it:=by kernel_rfl
theorem sA (d:Nat)(xs:List AV)(g:G):am C0 d N.Pt xs g=af (I C0) d g N.Pt xs:=by kernel_rfl
theorem yz:nFn C0 N.PB=some mS:=by kernel_rfl
theorem vA (d:Nat)(xs:List AV)(g:G):am C0 d N.PB xs g=af (I C0) d g N.PB xs:=by kernel_rfl
theorem pS:nFn C0 N.PD=some cQ:=by kernel_rfl
theorem np (d:Nat)(xs:List AV)(g:G):am C0 d N.PD xs g=orF ((I C0).call d N.PD xs g):=by kernel_rfl
theorem CK:nFn C0 N.O5=some tu:=by kernel_rfl
theorem zD (d:Nat)(xs:List AV)(g:G):am C0 d N.O5 xs g=af (I C0) d g N.O5 xs:=by kernel_rfl
theorem vK:nFn C0 N.O8=some jt:=by kernel_rfl
theorem tC (t:T)(g:G)(xs:List Od):SO.foot C0 t g (.call N.O8 xs)=ap ((gR t xs).flatMap (aA g.h aB)):=by kernel_rfl
theorem sZ (d:Nat)(xs:List AV)(g:G):am C0 d N.O8 xs g=af (I C0) d g N.O8 xs:=by kernel_rfl
theorem km:nFn C0 N.OU=some cG:=by kernel_rfl
theorem jx (t:T)(g:G)(xs:List Od):SO.foot C0 t g (.call N.OU xs)=ap ((gR t xs).flatMap (aA g.h aB)):=by kernel_rfl
theorem jn (d:Nat)(xs:List AV)(g:G):am C0 d N.OU xs g=af (I C0) d g N.OU xs:=by kernel_rfl
theorem zP:nFn C0 N.OK=some oY:=by kernel_rfl
theorem wS (d:Nat)(xs:List AV)(g:G):am C0 d N.OK xs g=af (I C0) d g N.OK xs:=by kernel_rfl
theorem qq:nFn C0 N.OW=some eS:=by kernel_rfl
theorem oI (d:Nat)(xs:List AV)(g:G):am C0 d N.OW xs g=af (I C0) d g N.OW xs:=by kernel_rfl
theorem Bs:nFn C0 N.OM=some qK:=by kernel_rfl
theorem yF (t:T)(g:G)(xs:List Od):SO.foot C0 t g (.call N.OM xs)=ap ((gR t xs).flatMap (aA g.h aB)):=by kernel_rfl
theorem xZ (d:Nat)(xs:List AV)(g:G):am C0 d N.OM xs g=af (I C0) d g N.OM xs:=by kernel_rfl
theorem qm:nFn C0 N.Pf=some cX:=by kernel_rfl
theorem oE (d:Nat)(xs:List AV)(g:G):am C0 d N.Pf xs g=af (I C0) d g N.Pf xs:=by kernel_rfl
theorem yB:nFn C0 N.OZ=some mU:=by kernel_rfl
theorem vR (t:T)(g:G)(xs:List Od):SO.foot C0 t g (.call N.OZ xs)=ap ((gR t xs).flatMap (aA g.h aB)):=by kernel_rfl
theorem vC (d:Nat)(xs:List AV)(g:G):am C0 d N.OZ xs g=af (I C0) d g N.OZ xs:=by kernel_rfl
theorem zQ:nFn C0 N.Pu=some oZ:=by kernel_rfl
theorem wT (d:Nat)(xs:List AV)(g:G):am C0 d N.Pu xs g=af (I C0) d g N.Pu xs:=by kernel_rfl
theorem yx:nFn C0 N.Pz=some fc:=by kernel_rfl
theorem vy (d:Nat)(xs:List AV)(g:G):am C0 d N.Pz xs g=af (I C0) d g N.Pz xs:=by kernel_rfl
theorem wZ:nFn C0 N.Pp=some kH:=by kernel_rfl
theorem uc (d:Nat)(xs:List AV)(g:G):am C0 d N.Pp xs g=af (I C0) d g N.Pp xs:=by kernel_rfl
theorem xe:nFn C0 N.Pb=some kZ:=by kernel_rfl
theorem ug (d:Nat)(xs:List AV)(g:G):am C0 d N.Pb xs g=af (I C0) d g N.Pb xs:=by kernel_rfl
theorem xa:nFn C0 N.OX=some kX:=by kernel_rfl
theorem ue (d:Nat)(xs:List AV)(g:G):am C0 d N.OX xs g=af (I C0) d g N.OX xs:=by kernel_rfl
theorem vL:nFn C0 N.Pa=some ju:=by kernel_rfl
theorem s6 (d:Nat)(xs:List AV)(g:G):am C0 d N.Pa xs g=af (I C0) d g N.Pa xs:=by kernel_rfl
theorem yu:nFn C0 N.Po=some mN:=by kernel_rfl
theorem vp (d:Nat)(xs:List AV)(g:G):am C0 d N.Po xs g=af (I C0) d g N.Po xs:=by kernel_rfl
theorem CL:nFn C0 N.O7=some tv:=by kernel_rfl
theorem zE (d:Nat)(xs:List AV)(g:G):am C0 d N.O7 xs g=af (I C0) d g N.O7 xs:=by kernel_rfl
theorem xd:nFn C0 N.OL=some kY:=by kernel_rfl
theorem uf (d:Nat)(xs:List AV)(g:G):am C0 d N.OL xs g=af (I C0) d g N.OL xs:=by kernel_rfl
theorem j9 (d:Nat)(xs:List AV)(g:G):am C0 d N.PN xs g=rE CS d xs g:=by kernel_rfl
theorem zN:nFn C0 N.O4=some oU:=by kernel_rfl
theorem wQ (d:Nat)(xs:List AV)(g:G):am C0 d N.O4 xs g=af (I C0) d g N.O4 xs:=by kernel_rfl
theorem CI:nFn C0 N.Pj=some kw:=by kernel_rfl
theorem zB (d:Nat)(xs:List AV)(g:G):am C0 d N.Pj xs g=af (I C0) d g N.Pj xs:=by kernel_rfl
theorem qp:nFn C0 N.Pn=some eQ:=by kernel_rfl
theorem oH (d:Nat)(xs:List AV)(g:G):am C0 d N.Pn xs g=af (I C0) d g N.Pn xs:=by kernel_rfl
theorem yv:nFn C0 N.OV=some mO:=by kernel_rfl
theorem vq (d:Nat)(xs:List AV)(g:G):am C0 d N.OV xs g=af (I C0) d g N.OV xs:=by kernel_rfl
theorem qo:nFn C0 N.Pi=some eP:=by kernel_rfl
theorem oG (d:Nat)(xs:List AV)(g:G):am C0 d N.Pi xs g=af (I C0) d g N.Pi xs:=by kernel_rfl
theorem mD:nFn C0 N.PG=some dl:=by kernel_rfl
theorem j8 (d:Nat)(xs:List AV)(g:G):am C0 d N.PG xs g=af (I C0) d g N.PG xs:=by kernel_rfl
theorem vM:nFn C0 N.Pd=some jv:=by kernel_rfl
theorem tD (t:T)(g:G)(xs:List Od):SO.foot C0 t g (.call N.Pd xs)=cC:=by kernel_rfl
theorem s7 (d:Nat)(xs:List AV)(g:G):am C0 d N.Pd xs g=orF ((I C0).call d N.Pd xs g):=by kernel_rfl
theorem pV:nFn C0 N.OY=some ef:=by kernel_rfl
theorem ny (d:Nat)(xs:List AV)(g:G):am C0 d N.OY xs g=af (I C0) d g N.OY xs:=by kernel_rfl
theorem yA:nFn C0 N.Pc=some mT:=by kernel_rfl
theorem vB (d:Nat)(xs:List AV)(g:G):am C0 d N.Pc xs g=af (I C0) d g N.Pc xs:=by kernel_rfl
theorem zR:nFn C0 N.PL=some o4:=by kernel_rfl
theorem wU (d:Nat)(xs:List AV)(g:G):am C0 d N.PL xs g=af (I C0) d g N.PL xs:=by kernel_rfl
theorem yw:nFn C0 N.Pw=some mP:=by kernel_rfl
theorem vv (d:Nat)(xs:List AV)(g:G):am C0 d N.Pw xs g=af (I C0) d g N.Pw xs:=by kernel_rfl
theorem um:nFn C0 N.Ps=some eH:=by kernel_rfl
theorem sw (d:Nat)(xs:List AV)(g:G):am C0 d N.Ps xs g=af (I C0) d g N.Ps xs:=by kernel_rfl
theorem w_:nFn C0 N.Pq=some kI:=by kernel_rfl
theorem ud (d:Nat)(xs:List AV)(g:G):am C0 d N.Pq xs g=af (I C0) d g N.Pq xs:=by kernel_rfl
theorem Br:nFn C0 N.Px=some qJ:=by kernel_rfl
theorem xY (d:Nat)(xs:List AV)(g:G):am C0 d N.Px xs g=af (I C0) d g N.Px xs:=by kernel_rfl
theorem zO:nFn C0 N.OT=some oV:=by kernel_rfl
theorem wR (d:Nat)(xs:List AV)(g:G):am C0 d N.OT xs g=af (I C0) d g N.OT xs:=by kernel_rfl
theorem wX:nFn C0 N.OQ=some kC:=by kernel_rfl
theorem ua (d:Nat)(xs:List AV)(g:G):am C0 d N.OQ xs g=af (I C0) d g N.OQ xs:=by kernel_rfl
theorem pR:nFn C0 N.O2=some d6:=by kernel_rfl
theorem nm (d:Nat)(xs:List AV)(g:G):am C0 d N.O2 xs g=af (I C0) d g N.O2 xs:=by kernel_rfl
theorem zM:nFn C0 N.Pk=some oT:=by kernel_rfl
theorem wP (d:Nat)(xs:List AV)(g:G):am C0 d N.Pk xs g=af (I C0) d g N.Pk xs:=by kernel_rfl
theorem pU:nFn C0 N.PJ=some ea:=by kernel_rfl
theorem nu (d:Nat)(xs:List AV)(g:G):am C0 d N.PJ xs g=af (I C0) d g N.PJ xs:=by kernel_rfl
theorem Bt:nFn C0 N.PK=some qR:=by kernel_rfl
theorem x9 (d:Nat)(xs:List AV)(g:G):am C0 d N.PK xs g=af (I C0) d g N.PK xs:=by kernel_rfl
theorem nB:nFn C0 N.OJ=some aN:=by kernel_rfl
theorem vJ:nFn C0 N.Pr=some js:=by kernel_rfl
theorem sY (d:Nat)(xs:List AV)(g:G):am C0 d N.Pr xs g=af (I C0) d g N.Pr xs:=by kernel_rfl
theorem sB:nFn C0 N.Pv=some fH:=by kernel_rfl
theorem pQ (d:Nat)(xs:List AV)(g:G):am C0 d N.Pv xs g=af (I C0) d g N.Pv xs:=by kernel_rfl
theorem Bq:nFn C0 N.Pl=some qC:=by kernel_rfl
theorem xX (d:Nat)(xs:List AV)(g:G):am C0 d N.Pl xs g=af (I C0) d g N.Pl xs:=by kernel_rfl
theorem wY:nFn C0 N.OS=some gI:=by kernel_rfl
theorem ub (d:Nat)(xs:List AV)(g:G):am C0 d N.OS xs g=af (I C0) d g N.OS xs:=by kernel_rfl
theorem yq:nFn C0 N.OI=some mM:=by kernel_rfl
theorem vo (d:Nat)(xs:List AV)(g:G):am C0 d N.OI xs g=af (I C0) d g N.OI xs:=by kernel_rfl
theorem CJ:nFn C0 N.O3=some tk:=by kernel_rfl
theorem zC (d:Nat)(xs:List AV)(g:G):am C0 d N.O3 xs g=af (I C0) d g N.O3 xs:=by kernel_rfl
theorem CM:nFn C0 N.O_=some tx:=by kernel_rfl
theorem zF (d:Nat)(xs:List AV)(g:G):am C0 d N.O_ xs g=af (I C0) d g N.O_ xs:=by kernel_rfl
theorem CN:nFn C0 N.Py=some tz:=by kernel_rfl
theorem zG (d:Nat)(xs:List AV)(g:G):am C0 d N.Py xs g=af (I C0) d g N.Py xs:=by kernel_rfl
theorem Bp:nFn C0 N.OH=some qA:=by kernel_rfl
theorem xW (d:Nat)(xs:List AV)(g:G):am C0 d N.OH xs g=orF ((I C0).call d N.OH xs g):=by kernel_rfl
theorem vI:nFn C0 N.OP=some jp:=by kernel_rfl
theorem sX (d:Nat)(xs:List AV)(g:G):am C0 d N.OP xs g=af (I C0) d g N.OP xs:=by kernel_rfl
theorem yp:nFn C0 N.O6=some mL:=by kernel_rfl
theorem vg (d:Nat)(xs:List AV)(g:G):am C0 d N.O6 xs g=af (I C0) d g N.O6 xs:=by kernel_rfl
theorem yn:nFn C0 N.Pm=some mK:=by kernel_rfl
theorem ve (d:Nat)(xs:List AV)(g:G):am C0 d N.Pm xs g=af (I C0) d g N.Pm xs:=by kernel_rfl
theorem zL:nFn C0 N.OG=some eF:=by kernel_rfl
theorem pu {α:Type}{f:Nat->α->Nat->α->Bool}{i:Nat}{x:α}:∀{l:List α} {j:Nat},(∀b y,l[b]?=some y->f i x (j+b) y=true)->eD f i x j l=true
 | [],_,_=>rfl
 | y::r,j,h=>by simp only[eD,Bool.and_eq_true];refine ⟨by simpa using h 0 y rfl,pu λb z hb=>?_⟩;have:=h (b+1) z (by simpa using hb);rwa [show j+(b+1)=j+1+b by omega] at this
theorem wm {α:Type}{f:Nat->α->Nat->α->Bool}:∀{l:List α} {i:Nat},(∀a b x y,a<b->l[a]?=some x->l[b]?=some y->f (i+a) x (i+b) y=true)->iT f i l=true
 | [],_,_=>rfl
 | x::r,i,h=>by
  simp only[iT,Bool.and_eq_true];refine ⟨pu λb y hb=>?_,wm λa b x' y hab ha hb=>?_⟩
  ·have:=h 0 (b+1) x y (by omega) rfl (by simpa using hb);rwa [Nat.add_zero,show i+(b+1)=i+1+b by omega] at this
  ·have:=h (a+1) (b+1) x' y (by omega) (by simpa using ha) (by simpa using hb);rwa [show i+(a+1)=i+1+a by omega,show i+(b+1)=i+1+b by omega] at this
theorem wK {pm:List Nat}:∀{l:List Foot} {i:Nat},(∀f∈l,f.lk.sr=[])->rD pm i l=true
 | [],_,_=>rfl
 | x::r,i,h=>by simp only[rD,h x (by simp)];exact wK λf hf=>h f (by simp[hf])
def JN (pm:List Nat)(ws:List Bool)(L:List (Nat×Nat))(i j:Nat):Bool:=(pm.getD j 0).testBit i || (!(ws.getD i false)&&!(ws.getD j false)) || L.contains (i,j)
def LM (pm:List Nat)(ws:List Bool)(L:List (Nat×Nat)):Bool:=(List.range ws.length).all λj=>(List.range j).all λi=>JN pm ws L i j
theorem aO {pm:List Nat}{fs:List Foot}(ws:List Bool)(L:List (Nat×Nat))(hw:All2 (λ(f:Foot) (w:Bool)=>f.lk.sr=[]/\(w=false->f.wr=[])) fs ws)(hd:LM pm ws L=true)
  (hL:∀p∈L,∀x y,fs[p.1]?=some x->fs[p.2]?=some y->bU x y=true):o8 pm fs=true:=by
 unfold o8;rw[aa,if_pos]
 ·exact wK λf hf=>by obtain ⟨i,hi,rfl⟩:=List.mem_iff_getElem.1 hf;obtain ⟨w,-,h⟩:=hw.get (List.getElem?_eq_getElem hi);exact h.1
 ·refine wm λa b x y hab ha hb=>?_;simp only[Nat.zero_add];obtain ⟨wa,hwa,ka⟩:=hw.get ha;obtain ⟨wb,hwb,kb⟩:=hw.get hb;have hbl:=(List.getElem?_eq_some_iff.1 hwb).1;have:=List.all_eq_true.1 (List.all_eq_true.1 hd b (List.mem_range.2 hbl)) a (List.mem_range.2 hab);simp only[JN,Bool.or_eq_true] at this;rcases this with (h | h) | h
  ·rw[h,Bool.true_or]
  ·simp only[List.getD_eq_getElem?_getD,hwa,hwb,Option.getD_some,Bool.and_eq_true,Bool.not_eq_true'] at h;have ex:=ka.2 h.1;have ey:=kb.2 h.2;simp only[bU,i_,ge,ex,ey,Bool.and_self,Bool.or_true]
  ·rw[hL (a,b) (List.contains_iff_mem.1 h) x y ha hb,Bool.or_true]
structure Mech where
 card:Int
 frm:List Int
 noise:List Int
 out:List Int
structure Causal where
 grain:Int
 roots:List (List Int)
 nodes:List Mech
structure Node where
 card:Int
 parents:List Int
 rows:List (List Int)
structure Net where
 grain:Int
 nodes:List Node
structure Factor where
 vars:List Int
 cards:List Int
 w:List Int
instance : Rp Mech:=Rp.via λm:Mech=>(m.card,m.frm,m.noise,m.out)
instance : Rp Causal:=Rp.via λm:Causal=>(m.grain,m.roots,m.nodes)
instance : Rp Node:=Rp.via λm:Node=>(m.card,m.parents,m.rows)
instance : Rp Net:=Rp.via λm:Net=>(m.grain,m.nodes)
instance : Rp Factor:=Rp.via λm:Factor=>(m.vars,m.cards,m.w)
section
variable {P:Nat->Prop}{k:Nat}{h:H}{cs:List AV}
theorem bI {m:Node}:Rp.rp P k h m cs↔∃a b,cs=[.int .i64 m.card,a,b]/\SlR P k h m.parents a/\SlR P k h m.rows b:=by
 constructor
 ·rintro ⟨c1,c2,rfl,h1,d1,d2,rfl,⟨a,rfl,h2⟩,⟨b,rfl,h3⟩⟩;rw[aL.1 h1];exact ⟨a,b,rfl,h2,h3⟩
 ·rintro ⟨a,b,rfl,h2,h3⟩;exact ⟨[.int .i64 m.card],[a,b],rfl,aL.2 rfl,[a],[b],rfl,⟨a,rfl,h2⟩,⟨b,rfl,h3⟩⟩
theorem cg {m:Net}:Rp.rp P k h m cs↔∃a,cs=[.int .i64 m.grain,a]/\SlR P k h m.nodes a:=by
 constructor
 ·rintro ⟨c1,c2,rfl,h1,⟨a,rfl,h2⟩⟩;rw[aL.1 h1];exact ⟨a,rfl,h2⟩
 ·rintro ⟨a,rfl,h2⟩;exact ⟨[.int .i64 m.grain],[a],rfl,aL.2 rfl,⟨a,rfl,h2⟩⟩
end
theorem SlR.len {α:Type} [Rp α]{P:Nat->Prop}{k:Nat}{h:H}{l:List α}{v:AV}(r:SlR P k h l v)(g:G):cV .slice v g=.val (.int .i64 (l.length:Int)):=by obtain ⟨rows,h1,h2⟩:=r.rows;rw[cL h1,h2.len]
theorem SlR.tree {α:Type} [Rp α]{k k':Nat}{h h':H}{l:List α}{v:AV}(r:SlR NoP k h l v)(hk:k<=k'):SlR NoP k' h' l v:=by obtain ⟨w,hw,q⟩:=Rp.tree (P:=NoP) (k':=k') (h':=h') (show Rp.rp NoP k h l [v] from ⟨v,rfl,r⟩) hk;injection hw with hw;subst hw;exact q
theorem be {α:Type} [Rp α]{P:Nat->Prop}{k:Nat}{h:H}{l:List α}{v:AV}(r:SlR P k h l v)(d:Nat)(hd:Rp.dp (List α)<=20:=by decide) :
  ∃v',Hx.snap h d aB v=some v'/\∀h',SlR NoP (max k d) h' l v':=by
 obtain ⟨v',e,w,hw,q⟩:=jl (aS l hd) (by decide) d (show One l P k h v from ⟨v,rfl,r⟩);injection hw with hw;subst hw;exact ⟨v',e,λh'=>q.tree (Nat.le_refl _)⟩
theorem SlR.all {α:Type} [Rp α]{k:Nat}{h:H}{l:List α}{v:AV}(r:SlR NoP k h l v) :
  ∃rows:List (List AV),(∀h',ah h' (Rp.sz α) v=some rows)/\rows.length=l.length/\(∀(i:Nat) (x:α),l[i]?=some x->∃row,rows[i]?=some row/\Rp.rp NoP k .nil x row)/\(0<l.length->jS v=true):=by
 have r0:=(r.tree (h':=.nil) (Nat.le_refl _));obtain ⟨rows,h1,h2⟩:=r0.rows;refine ⟨rows,λh'=>?_,h2.len.symm,λi x hi=>h2.get hi,λhl=>rZ h1 (i:=0) (by rw[<-h2.len];exact hl)⟩;rw[<-h1];exact wG λid ep off len lim e=>by subst e;exact r.2.1.elim
abbrev UT (k:Nat)(l:List Nat)(r:AV):Prop:=One l NoP k .nil r
theorem UT.sl {k:Nat}{l:List Nat}{r:AV}(h:UT k l r)(h':H):SlR NoP k h' l r:=by obtain ⟨w,hw,q⟩:=h;injection hw with hw;subst hw;exact q.tree (Nat.le_refl _)
theorem oC {P:Nat->Prop}{k:Nat}{h:H}{l:List Nat}{v:AV}(r:SlR P k h l v):∀x∈l,x<18446744073709551616:=by obtain ⟨rows,h1,h2⟩:=r.rows;intro x hx;obtain ⟨i,hi,e⟩:=List.mem_iff_getElem.1 hx;obtain ⟨row,h3,h4⟩:=h2.get (i:=i) (a:=x) (by rw[List.getElem?_eq_getElem hi,e]);exact (B2.1 h4).2
theorem Own.nats {g:G}{b:Nat}{v:AV}{l:List Nat}{k:Nat}(h:Own g b v 1 (l.map cu))(hl:l.length<9223372036854775808)(hb:∀x∈l,x<18446744073709551616):One l (λ_=>True) k g.h v:=by
 refine ⟨v,rfl,Own.sl (α:=Nat) h hl ?_ λ_ _=>trivial⟩;clear h hl
 induction l with
 | nil=>trivial
 | cons a l ih=>exact ⟨B2.2 ⟨rfl,hb a (by simp)⟩,ih λx hx=>hb x (by simp[hx])⟩
theorem cx (p:Nat->Bool)(j:Nat):(List.range (j+1)).all p=((List.range j).all p&&p j):=by rw[List.range_succ,List.all_append];simp
theorem jk {p:Nat->Bool}{j n:Nat}(h:j<n)(hp:p j=false):(List.range n).all p=false:=by rw[List.all_eq_false];exact ⟨j,List.mem_range.2 h,by rw[hp];decide⟩
end
end Hx
end
section
namespace Hx
open Go
noncomputable section
theorem rK {C:Cfg}{nt d:Nat}{rd:Option Nat}{c:Code}{t:T}{df:List ADf}{g:G}{Q:QT}(h:wp C d rd (dM C nt c) Q t df g):((I C).code nt d rd c t df g).sat Q:=by rw[Eb];exact M4 _ _ _ _ _ h
end
end Hx
end
