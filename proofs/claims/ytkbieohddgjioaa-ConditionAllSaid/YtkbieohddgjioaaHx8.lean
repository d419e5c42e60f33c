/- A part of the proof: an interpreter over abstract values, shown right against the model, and what the functions of the chapter compute on it. -/
import Derived.Test.YtkbieohddgjioaaRows
import Derived.KernelRfl
import Derived.Test.YtkbieohddgjioaaHx7
set_option linter.unusedVariables false
set_option linter.unusedSimpArgs false
set_option linter.unnecessarySimpa false
section
namespace Go.Proofs.Ytkbieohddgjioaa.Gen
open Hx
noncomputable def cfg0:Cfg:={ P:=Try.prog,iso:=λf=>Nat.testBit 1248737599919552972750725126218055679 f,ext:=λ_=>none,glob:=λ_=>none }
theorem cfg0Ok:CfgOk cfg0:=CfgOk.plain (by kernel_rfl) (by kernel_rfl)
noncomputable def cfgA:Cfg:=cfg0.add 69 (GS cfg0 1000 69)
theorem cfgAOk:CfgOk cfgA:=cfg0Ok.add (Fc cfg0Ok)
noncomputable def cfg:Cfg:=cfgA.add 27 (GS cfgA 1000 27)
theorem cfgOk:CfgOk cfg:=cfgAOk.add (Fc cfgAOk)
theorem wakes_run:aA (sem cfg 20000) 1 G.empty 7 []=.val (.bool true):=by kernel_rfl
noncomputable def cfgW:Cfg:=cfg0.add 7 (wB (.bool true))
theorem cfgWOk:CfgOk cfgW:=cfg0Ok.add (ExtOk.cfg (C:=cfg) (C':=cfg0) rfl rfl (Gx cfgOk wakes_run))
theorem inl69:ExtOk cfg0 69 (yw cfg0 69):=Lr cfg0Ok
noncomputable def cfg1:Cfg:=cfgW.add 69 (yw cfg0 69)
theorem cfg1Ok:CfgOk cfg1:=cfgWOk.add (ExtOk.cfg (C:=cfg0) (C':=cfgW) rfl rfl inl69)
end Go.Proofs.Ytkbieohddgjioaa.Gen
end
section
namespace Hx
open Go
set_option maxRecDepth 100000
noncomputable section
def C0:Cfg:=Go.Proofs.Ytkbieohddgjioaa.Gen.cfg1
def HC:Cfg:=Go.Proofs.Ytkbieohddgjioaa.Gen.cfg0
theorem Na:CfgOk HC:=Go.Proofs.Ytkbieohddgjioaa.Gen.cfg0Ok
abbrev N.aT:Nat:=12
abbrev N.ap:Nat:=22
abbrev N.aU:Nat:=49
abbrev N.ax:Nat:=73
abbrev N.ay:Nat:=82
abbrev N.aG:Nat:=71
abbrev N.aV:Nat:=50
abbrev N.aW:Nat:=70
abbrev N.aH:Nat:=72
abbrev N.bm:Nat:=5
abbrev N.bo:Nat:=7
abbrev N.aX:Nat:=35
abbrev N.aY:Nat:=48
abbrev N.aI:Nat:=77
abbrev N.aJ:Nat:=64
abbrev N.aK:Nat:=84
abbrev N.ak:Nat:=96
abbrev N.aZ:Nat:=78
abbrev N.aL:Nat:=25
abbrev N.aM:Nat:=53
abbrev N.aA:Nat:=23
abbrev N.a_:Nat:=24
abbrev N.ae:Nat:=54
abbrev N.am:Nat:=75
abbrev N.aa:Nat:=56
abbrev N.aB:Nat:=74
abbrev N.aC:Nat:=55
abbrev N.ac:Nat:=58
abbrev N.aD:Nat:=60
abbrev N.aN:Nat:=59
abbrev N.an:Nat:=57
abbrev N.af:Nat:=76
abbrev N.ba:Nat:=62
abbrev N.bc:Nat:=61
abbrev N.aE:Nat:=30
abbrev N.aO:Nat:=31
abbrev N.be:Nat:=63
abbrev N.bf:Nat:=8
abbrev N.bg:Nat:=21
abbrev N.bh:Nat:=32
abbrev N.aw:Nat:=33
abbrev N.bi:Nat:=9
abbrev N.ah:Nat:=69
abbrev N.aP:Nat:=36
abbrev N.bj:Nat:=65
abbrev N.bk:Nat:=83
abbrev N.aQ:Nat:=95
abbrev N.aF:Nat:=51
abbrev N.aR:Nat:=81
abbrev N.aS:Nat:=52
def gq:SC:=sQ [o 88 (.bin .lss (.t 87) (.t 86))] (.seq (.cond (.t 88) (.skip) (.exit 0)) (.seq (.blk 1 (sQ [oM 89 87,oM 20 89] (sQ [oM 90 11,oM 91 15,oM 92 20,oX 93 90 91,oz (.store 1 (.t 93) (.t 92))] (sQ [o 95 (.load true 2 (.t 9)),oM 96 11,oM 97 10,o 98 (.call N.ap [.t 95,.t 96,.t 97,.k (.int .i64 0)]),oM 94 98,o 99 (.ext (.t 94) 0),o 100 (.ext (.t 94) 1),o 101 (.ext (.t 94) 2),o 21 (.alloc [.int .i64 0,.int .i64 0]),oz (.store 2 (.t 21) (.t 99)),oM 22 100,oM 23 101] (.seq (sQ [oM 102 23,o 103 (.bin .neq (.t 102) (qI 0)),oM 104 103,og 105 104 false (.load true 2 (.t 21)),og 106 104 false (.call N.a_ [.t 105]),og 107 104 false (.not (.t 106)),o 108 (.pick (.t 104) (.k (.bool true)) (.t 107))] (.cond (.t 108) (sQ [o 8 (.mv (.k (.bool false)))] (.ret)) (.skip))) (.ops [o 110 (.load true 2 (.t 19)),o 111 (.load true 2 (.t 21)),o 112 (.call N.aL [.t 110,.t 111]),oM 109 112,o 113 (.ext (.t 109) 0),o 114 (.ext (.t 109) 1),oz (.store 2 (.t 19) (.t 113))])))))) (.ops [oA 115 87,oM 87 115])))
def gt:SC:=sQ [oM 116 18,o 117 (.bin .eql (.t 116) (qI 0)),oM 118 117,og 119 118 true (.load true 2 (.t 16)),og 120 118 true (.load true 2 (.t 19)),og 121 118 true (.eq false (.flat [.int .i64,.int .i64]) (.t 119) (.t 120)),o 122 (.pick (.t 118) (.t 121) (.k (.bool false))),oM 8 122] (.ret)
def gO:SC:=.seq (sQ [o 24 (.call N.bo []),o 25 (.not (.t 24))] (.cond (.t 25) (sQ [o 8 (.mv (.k (.bool false)))] (.ret)) (.skip))) (sQ [o 26 (.load true 3 (.t 4)),o 27 (.call N.bf [.t 26]),o 9 (.alloc [.int .i64 0,.nils]),oz (.store 2 (.t 9) (.t 27))] (sQ [oF 28 1 9,oL 29 28,oN 30 29,o 31 (.load true 8 (.t 5)),o 32 (.call N.bi [.t 30,.t 31]),oM 10 32] (sQ [o 33 (.load true 8 (.t 6)),o 34 (.build [.int .u8 0,.int .u8 0,.int .u8 0,.int .u8 0,.int .u8 0,.int .u8 0,.int .u8 0,.int .u8 0,.int .u8 0] [(0,1),(1,8)] [.k (.int .u8 255),.t 33]),o 35 (.load true 2 (.t 9)),o 36 (.call N.bg [.t 34,.t 35]),oM 11 36] (sQ [o 38 (.load true 2 (.t 9)),oM 39 11,oM 40 10,oM 41 3,o 42 (.bin .rem (.t 41) (.k (.int .u16 1001))),o 43 (.conv .i64 (.t 42)),o 44 (.call N.ap [.t 38,.t 39,.t 40,.t 43]),oM 37 44,o 45 (.ext (.t 37) 0),o 46 (.ext (.t 37) 1),o 47 (.ext (.t 37) 2),o 12 (.alloc [.int .i64 0,.int .i64 0]),oz (.store 2 (.t 12) (.t 45)),oM 13 46,oM 14 47] (.seq (sQ [oM 48 14,o 49 (.bin .neq (.t 48) (qI 0)),oM 50 49,og 51 50 false (.mv (.t 13)),og 52 50 false (.fad 1 (.t 9)),og 53 50 false (.load false 1 (.t 52)),og 54 50 false (.len .slice (.t 53)),og 55 50 false (.bin .mul (qI 2) (.t 54)),og 56 50 false (.bin .sub (.t 55) (qI 1)),og 57 50 false (.bin .neq (.t 51) (.t 56)),o 58 (.pick (.t 50) (.k (.bool true)) (.t 57))] (.cond (.t 58) (sQ [o 8 (.mv (.k (.bool false)))] (.ret)) (.skip))) (sQ [o 59 (.ixa 8 1 (.t 6) (qI 0)),oL 60 59,o 61 (.conv .i64 (.t 60)),oF 62 1 9,oL 63 62,oN 64 63,o 65 (.bin .rem (.t 61) (.t 64)),oM 15 65] (sQ [oM 66 11,oM 67 15,oX 68 66 67,oz (.store 1 (.t 68) (qI (-1)))] (sQ [o 70 (.load true 2 (.t 9)),oM 71 11,oM 72 10,oM 73 3,o 74 (.bin .rem (.t 73) (.k (.int .u16 1001))),o 75 (.conv .i64 (.t 74)),o 76 (.call N.ap [.t 70,.t 71,.t 72,.t 75]),oM 69 76,o 77 (.ext (.t 69) 0),o 78 (.ext (.t 69) 1),o 79 (.ext (.t 69) 2),o 16 (.alloc [.int .i64 0,.int .i64 0]),oz (.store 2 (.t 16) (.t 77)),oM 17 78,oM 18 79] (sQ [o 80 (.call N.aA [.k (.int .i64 0),.k (.int .i64 1)]),o 19 (.alloc [.int .i64 0,.int .i64 0]),oz (.store 2 (.t 19) (.t 80))] (.seq (sQ [oF 81 1 9,oL 82 81,oM 83 15,o 84 (.ixs 3 (.t 82) (.t 83)),oF 85 0 84,oL 86 85,oK 87 0] (.blk 0 (.loop gq))) gt))))))))))
def eJ:SF:=⟨123,[.tm 8],sQ [o 4 (.box (.t 0)),o 5 (.box (.t 1)),o 6 (.box (.t 2)),o 8 (.mv (.k (.bool false)))] gO⟩
def pO:SC:=sQ [oM 65 6,oM 66 9,o 67 (.bin .mul (.t 65) (.t 66)),oM 6 67] (.feet [0,1,0,0,12,28,0,127,255,511] [oF 68 1 4,oL 69 68,oM 70 5,oM 71 7,oX 72 70 71,oL 73 72,oM 74 9,o 75 (.ixs 3 (.t 69) (.t 73)),oF 76 0 75,oz (.store 1 (.t 76) (.t 74))])
def pP:SC:=sQ [oF 50 0 8,oL 51 50,o 52 (.bin .rem (.t 51) (.k (.int .u8 2))),o 53 (.conv .i64 (.t 52)),o 54 (.bin .add (qI 2) (.t 53)),oM 9 54] (.seq (sQ [oM 55 6,oM 56 9,o 57 (.bin .mul (.t 55) (.t 56)),oM 58 3,o 59 (.bin .sub (.t 58) (qI 1)),oM 60 7,o 61 (.bin .sub (.t 59) (.t 60)),o 62 (.conv .u64 (.t 61)),o 63 (.bin .shl (.t 57) (.t 62)),o 64 (.bin .gtr (.t 63) (qI 100))] (.cond (.t 64) (.ops [oK 9 2]) (.skip))) pO)
def jc:SC:=.ops [oM 38 7,oA 39 38,oM 7 39]
def eL:SC:=.seq (sQ [oM 35 7,oM 36 3,o 37 (.bin .lss (.t 35) (.t 36))] (.cond (.t 37) (.skip) (.exit 0))) (.seq (.blk 1 (sQ [o 8 (.alloc [.int .u8 0,.int .u8 0,.nils])] (.seq (sQ [oM 40 7,oF 41 1 1,oL 42 41,oN 43 42,o 44 (.bin .lss (.t 40) (.t 43))] (.cond (.t 44) (.ops [oF 45 1 1,oL 46 45,oM 47 7,o 48 (.ixs 3 (.t 46) (.t 47)),o 49 (.load true 3 (.t 48)),oz (.store 3 (.t 8) (.t 49))]) (.skip))) pP))) jc)
def jd:SC:=.ops [oM 104 14,oA 105 104,oM 14 105]
def eM:SC:=.seq (sQ [oM 101 14,oM 102 10,o 103 (.bin .lss (.t 101) (.t 102))] (.cond (.t 103) (.skip) (.exit 6))) (.seq (.blk 7 (sQ [oM 106 5,oM 107 14,oX 108 106 107,oL 109 108,oM 110 13,o 111 (.bin .eql (.t 109) (.t 110)),oM 112 111,og 113 112 true (.fad 1 (.t 11)),og 114 112 true (.load false 1 (.t 113)),og 115 112 true (.mv (.t 14)),og 116 112 true (.conv .u64 (.t 115)),og 117 112 true (.bin .shr (.t 114) (.t 116)),og 118 112 true (.bin .and (.t 117) (.k (.int .u8 1))),og 119 112 true (.bin .eql (.t 118) (.k (.int .u8 1))),o 120 (.pick (.t 112) (.t 119) (.k (.bool false))),oM 121 120,og 122 121 true (.fad 1 (.t 4)),og 123 121 true (.load false 1 (.t 122)),og 124 121 true (.mv (.t 12)),og 125 121 true (.ixs 3 (.t 123) (.t 124)),og 126 121 true (.fad 1 (.t 125)),og 127 121 true (.load false 1 (.t 126)),og 128 121 true (.len .slice (.t 127)),og 129 121 true (.bin .lss (.t 128) (qI 3)),o 130 (.pick (.t 121) (.t 129) (.k (.bool false)))] (.cond (.t 130) (.feet [0,1,0,0,8,0,56,120,248,0,512,2040,4095,8191,16383] [oF 131 1 4,oL 132 131,oM 133 12,oF 134 1 4,oL 135 134,oM 136 12,o 137 (.ixs 3 (.t 135) (.t 136)),oF 138 1 137,oL 139 138,oM 140 13,o 141 (.bsl 1 1 [.int .i64 0] [0] [.t 140]),o 142 (.app 1 8 (.t 139) (.t 141)),o 143 (.ixs 3 (.t 132) (.t 133)),oF 144 1 143,oz (.store 1 (.t 144) (.t 142))]) (.skip)))) jd)
def je:SC:=.ops [oM 99 13,oA 100 99,oM 13 100]
def eN:SC:=.seq (sQ [oM 96 13,oM 97 3,o 98 (.bin .lss (.t 96) (.t 97))] (.cond (.t 98) (.skip) (.exit 4))) (.seq (.blk 5 (sQ [oK 14 0] (.blk 6 (.loop eM)))) je)
def eO:SC:=.seq (sQ [oM 145 15,o 146 (.load true 2 (.t 4)),oM 147 12,o 148 (.call N.bh [.t 146,.t 147]),o 149 (.call N.aO [.t 148]),o 150 (.bin .lss (.t 145) (.t 149))] (.cond (.t 150) (.skip) (.exit 8))) (.seq (.blk 9 (.feet [0,1,0,0,8,0,56,120,248,0,512,0,2048,0,14336,30720,63488,0,131072,0,0,1048576,0,7340032,15728640,32505856,66060288,133693440,268434944,536870400,1073741816,2147483647,4294967295,8589934591] [oF 153 1 4,oL 154 153,oM 155 12,oF 156 1 4,oL 157 156,oM 158 12,o 159 (.ixs 3 (.t 157) (.t 158)),oF 160 2 159,oL 161 160,oF 162 0 4,oL 163 162,oF 164 1 4,oL 165 164,oM 166 12,o 167 (.ixs 3 (.t 165) (.t 166)),oF 168 0 167,oL 169 168,oF 170 2 11,oL 171 170,oM 172 15,oF 173 1 4,oL 174 173,oM 175 12,o 176 (.ixs 3 (.t 174) (.t 175)),oF 177 0 176,oL 178 177,oA 179 178,o 180 (.bin .mul (.t 172) (.t 179)),o 181 (.call N.aw [.t 163,.t 169,.t 171,.t 180]),o 182 (.bsl 1 1 [.nils] [0] [.t 181]),o 183 (.app 1 24 (.t 161) (.t 182)),o 184 (.ixs 3 (.t 154) (.t 155)),oF 185 2 184,oz (.store 1 (.t 185) (.t 183))])) (.ops [oM 151 15,oA 152 151,oM 15 152]))
def jf:SC:=sQ [oK 15 0] (.blk 8 (.loop eO))
def io:SC:=sQ [oM 92 5,oM 93 10,oX 94 92 93,oL 95 94,oM 12 95] (.seq (sQ [oK 13 0] (.blk 4 (.loop eN))) jf)
def ip:SC:=.ops [oM 80 10,oA 81 80,oM 10 81]
def dX:SC:=.seq (sQ [oM 77 10,oM 78 3,o 79 (.bin .lss (.t 77) (.t 78))] (.cond (.t 79) (.skip) (.exit 2))) (.seq (.blk 3 (sQ [o 11 (.alloc [.int .u8 0,.int .u8 0,.nils])] (.seq (sQ [oM 82 10,oF 83 1 1,oL 84 83,oN 85 84,o 86 (.bin .lss (.t 82) (.t 85))] (.cond (.t 86) (.ops [oF 87 1 1,oL 88 87,oM 89 10,o 90 (.ixs 3 (.t 88) (.t 89)),o 91 (.load true 3 (.t 90)),oz (.store 3 (.t 11) (.t 91))]) (.skip))) io))) ip)
def iq:SC:=sQ [o 186 (.load true 2 (.t 4)),oz (.store 2 (.t 2) (.t 186))] (.ret)
def ir:SC:=.seq (sQ [oK 10 0] (.blk 2 (.loop dX))) iq
def jH:SC:=sQ [oF 16 1 1,oL 17 16,oN 18 17,o 19 (.mx (.t 18) (qI 1)),o 20 (.mn (.t 19) (qI 5)),oM 3 20] (.seq (.feet [0,1,3,7,15,0,32,127,0,511] [oF 21 0 1,oL 22 21,o 23 (.bin .rem (.t 22) (.k (.int .u8 60))),o 24 (.conv .i64 (.t 23)),o 25 (.bin .add (qI 1) (.t 24)),oM 26 3,o 27 (.mks 3 56 [.int .i64 0,.nils,.nils] (.t 26) (.t 26)),o 28 (.build [.int .i64 0,.nils] [(0,1),(1,1)] [.t 25,.t 27]),o 4 (.alloc [.int .i64 0,.nils]),oz (.store 2 (.t 4) (.t 28))]) (.seq (.feet [0,1,0,4,15,31,63] [oM 29 3,o 30 (.mks 1 1 [.int .u8 0] (.t 29) (.t 29)),oF 31 2 1,oL 32 31,o 33 (.build [.nils,.int .u16 0,.nils] [(0,1),(2,1)] [.t 30,.t 32]),o 34 (.call N.aE [.t 33]),oM 5 34]) (sQ [oK 6 1] (.seq (sQ [oK 7 0] (.blk 0 (.loop eL))) ir))))
def gY:SF:=⟨187,[.cell true 2 2],sQ [o 1 (.box (.t 0)),o 2 (.alloc [.int .i64 0,.nils])] jH⟩
def lS:SC:=.seq (sQ [oM 13 7,oM 14 0,o 15 (.bin .lss (.t 13) (.t 14))] (.cond (.t 15) (.skip) (.exit 0))) (.seq (.blk 1 (sQ [oM 18 5,oM 19 7,o 20 (.ixa 8 1 (.t 3) (qI 7)),oL 21 20,o 22 (.conv .i64 (.t 21)),o 23 (.bin .add (.t 19) (.t 22)),oM 24 0,o 25 (.bin .rem (.t 23) (.t 24)),o 26 (.build [.int .i64 0,.int .i64 0,.int .i64 0] [(0,1),(1,1),(2,1)] [.t 25,.k (.int .i64 (-1)),.k (.int .i64 (-1))]),o 27 (.bsl 3 1 [.int .i64 0,.int .i64 0,.int .i64 0] [0] [.t 26]),o 28 (.app 3 24 (.t 18) (.t 27)),oM 5 28] (.ops [oM 29 6,oM 30 7,o 31 (.bsl 1 1 [.int .i64 0] [0] [.t 30]),o 32 (.app 1 8 (.t 29) (.t 31)),oM 6 32]))) (.ops [oM 16 7,oA 17 16,oM 7 17]))
def lU:SC:=.ops [oM 77 12,oA 78 77,oM 12 78]
def gZ:SC:=.seq (sQ [oM 73 12,oM 74 6,oN 75 74,o 76 (.bin .lss (.t 73) (.t 75))] (.cond (.t 76) (.skip) (.exit 4))) (.seq (.blk 5 (sQ [oM 79 12,oM 80 9,o 81 (.bin .neq (.t 79) (.t 80)),oM 82 81,og 83 82 true (.mv (.t 12)),og 84 82 true (.mv (.t 10)),og 85 82 true (.bin .neq (.t 83) (.t 84)),o 86 (.pick (.t 82) (.t 85) (.k (.bool false)))] (.cond (.t 86) (.ops [oM 87 11,oM 88 6,oM 89 12,oX 90 88 89,oL 91 90,o 92 (.bsl 1 1 [.int .i64 0] [0] [.t 91]),o 93 (.app 1 8 (.t 87) (.t 92)),oM 11 93]) (.skip)))) lU)
def lV:SC:=.ops [oM 94 11,oM 95 5,oN 96 95,o 97 (.bin .sub (.t 96) (qI 1)),o 98 (.bsl 1 1 [.int .i64 0] [0] [.t 97]),o 99 (.app 1 8 (.t 94) (.t 98)),oM 6 99]
def lW:SC:=.ops [oM 37 8,oA 38 37,oM 8 38]
def lT:SC:=.seq (sQ [oM 33 8,oM 34 0,o 35 (.bin .sub (.t 34) (qI 1)),o 36 (.bin .lss (.t 33) (.t 35))] (.cond (.t 36) (.skip) (.exit 2))) (.seq (.blk 3 (sQ [oM 39 8,o 40 (.ixa 8 1 (.t 3) (.t 39)),oL 41 40,o 42 (.conv .i64 (.t 41)),oM 43 6,oN 44 43,o 45 (.bin .rem (.t 42) (.t 44)),oM 9 45] (sQ [oM 46 9,oA 47 46,oM 48 8,o 49 (.ixa 8 1 (.t 3) (.t 48)),oL 50 49,o 51 (.bin .quo (.t 50) (.k (.int .u8 8))),o 52 (.conv .i64 (.t 51)),oM 53 6,oN 54 53,o 55 (.bin .sub (.t 54) (qI 1)),o 56 (.bin .rem (.t 52) (.t 55)),o 57 (.bin .add (.t 47) (.t 56)),oM 58 6,oN 59 58,o 60 (.bin .rem (.t 57) (.t 59)),oM 10 60] (.seq (.feet [0,0,0,6,14,0,0,96,224,510,1022,2047,4095] [oM 61 5,oM 62 6,oM 63 9,oX 64 62 63,oL 65 64,oM 66 6,oM 67 10,oX 68 66 67,oL 69 68,o 70 (.build [.int .i64 0,.int .i64 0,.int .i64 0] [(0,1),(1,1),(2,1)] [.k (.int .i64 (-1)),.t 65,.t 69]),o 71 (.bsl 3 1 [.int .i64 0,.int .i64 0,.int .i64 0] [0] [.t 70]),o 72 (.app 3 24 (.t 61) (.t 71)),oM 5 72]) (sQ [o 11 (.mv (.k (.nils)))] (.seq (sQ [oK 12 0] (.blk 4 (.loop gZ))) lV)))))) lW)
def lX:SC:=sQ [oM 100 5,oM 4 100] (.ret)
def lY:SC:=.seq (sQ [oK 8 0] (.blk 2 (.loop lT))) lX
def nz:SC:=sQ [o 5 (.mv (.k (.nils)))] (sQ [o 6 (.mv (.k (.nils)))] (.seq (sQ [oK 7 0] (.blk 0 (.loop lS))) lY))
def kM:SF:=⟨101,[.tm 4],sQ [o 3 (.box (.t 1)),o 4 (.mv (.k (.nils)))] nz⟩
def pG:SC:=.ops [oA 121 32,oM 32 121]
def jb:SC:=sQ [o 33 (.bin .lss (.t 32) (.t 31))] (.seq (.cond (.t 33) (.skip) (.exit 0)) (.seq (.blk 1 (sQ [oM 34 32,o 35 (.ixs 3 (.t 30) (.t 32)),o 36 (.load true 3 (.t 35)),o 10 (.alloc [.int .i64 0,.int .i64 0,.int .i64 0]),oM 9 34,oz (.store 3 (.t 10) (.t 36))] (.blk 2 (sQ [oF 42 0 10,oL 43 42,o 44 (.bin .eql (.t 43) (qI (-1))),oM 41 44] (.cond (.t 41) (.seq (sQ [oF 45 1 10,oL 46 45,o 47 (.bin .lss (.t 46) (qI 0)),oM 48 47,og 49 48 false (.fad 1 (.t 10)),og 50 48 false (.load false 1 (.t 49)),og 51 48 false (.mv (.t 9)),og 52 48 false (.bin .geq (.t 50) (.t 51)),o 53 (.pick (.t 48) (.k (.bool true)) (.t 52)),oM 54 53,og 55 54 false (.fad 2 (.t 10)),og 56 54 false (.load false 1 (.t 55)),og 57 54 false (.bin .lss (.t 56) (qI 0)),o 58 (.pick (.t 54) (.k (.bool true)) (.t 57)),oM 59 58,og 60 59 false (.fad 2 (.t 10)),og 61 59 false (.load false 1 (.t 60)),og 62 59 false (.mv (.t 9)),og 63 59 false (.bin .geq (.t 61) (.t 62)),o 64 (.pick (.t 59) (.k (.bool true)) (.t 63)),oM 65 64,og 66 65 false (.fad 1 (.t 10)),og 67 65 false (.load false 1 (.t 66)),og 68 65 false (.fad 2 (.t 10)),og 69 65 false (.load false 1 (.t 68)),og 70 65 false (.bin .eql (.t 67) (.t 69)),o 71 (.pick (.t 65) (.k (.bool true)) (.t 70)),oM 72 71,og 73 72 false (.mv (.t 8)),og 74 72 false (.fad 1 (.t 10)),og 75 72 false (.load false 1 (.t 74)),og 76 72 false (.ixs 1 (.t 73) (.t 75)),og 77 72 false (.load false 1 (.t 76)),o 78 (.pick (.t 72) (.k (.bool true)) (.t 77)),oM 79 78,og 80 79 false (.mv (.t 8)),og 81 79 false (.fad 2 (.t 10)),og 82 79 false (.load false 1 (.t 81)),og 83 79 false (.ixs 1 (.t 80) (.t 82)),og 84 79 false (.load false 1 (.t 83)),o 85 (.pick (.t 79) (.k (.bool true)) (.t 84))] (.cond (.t 85) (sQ [oK 4 130] (.ret)) (.skip))) (.feet [0,0,2,0,0,16,7,71,255,511] [oM 86 8,oF 87 1 10,oL 88 87,oM 89 8,oF 90 2 10,oL 91 90,oX 92 86 88,oz (.store 1 (.t 92) (.k (.bool true))),oX 93 89 91,oz (.store 1 (.t 93) (.k (.bool true)))])) (sQ [oF 95 0 10,oL 96 95,o 97 (.bin .lss (.t 96) (qI 0)),oM 98 97,og 99 98 false (.fad 0 (.t 10)),og 100 98 false (.load false 1 (.t 99)),og 101 98 false (.mv (.t 6)),og 102 98 false (.bin .geq (.t 100) (.t 101)),o 103 (.pick (.t 98) (.k (.bool true)) (.t 102)),oM 104 103,og 105 104 false (.fad 1 (.t 10)),og 106 104 false (.load false 1 (.t 105)),og 107 104 false (.bin .neq (.t 106) (qI (-1))),o 108 (.pick (.t 104) (.k (.bool true)) (.t 107)),oM 109 108,og 110 109 false (.fad 2 (.t 10)),og 111 109 false (.load false 1 (.t 110)),og 112 109 false (.bin .neq (.t 111) (qI (-1))),o 113 (.pick (.t 109) (.k (.bool true)) (.t 112)),oM 114 113,og 115 114 false (.mv (.t 7)),og 116 114 false (.fad 0 (.t 10)),og 117 114 false (.load false 1 (.t 116)),og 118 114 false (.ixs 1 (.t 115) (.t 117)),og 119 114 false (.load false 1 (.t 118)),o 120 (.pick (.t 114) (.k (.bool true)) (.t 119)),oM 94 120] (.cond (.t 94) (sQ [oK 4 130] (.ret)) (.ops [oM 37 7,oF 38 0 10,oL 39 38,oX 40 37 39,oz (.store 1 (.t 40) (.k (.bool true)))])))))))) pG))
def cS:SC:=.seq (sQ [oM 122 7,o 123 (.call N.aP [.t 122,.k (.bool false)]),oM 124 123,og 125 124 false (.mv (.t 8)),og 126 124 false (.mv (.t 1)),og 127 124 false (.len .slice (.t 126)),og 128 124 false (.bin .sub (.t 127) (qI 1)),og 129 124 false (.slc 1 (.t 125) [] [.t 128]),og 130 124 false (.call N.aP [.t 129,.k (.bool false)]),o 131 (.pick (.t 124) (.k (.bool true)) (.t 130))] (.cond (.t 131) (sQ [oK 4 130] (.ret)) (.skip))) (sQ [oK 4 0] (.ret))
def jG:SC:=.seq (sQ [o 11 (.load true 2 (.t 2)),o 12 (.call N.aX [.t 11]),oM 5 12] (sQ [oM 13 5,o 14 (.bin .neq (.t 13) (qI 0))] (.cond (.t 14) (sQ [oM 15 5,oM 4 15] (.ret)) (.skip)))) (sQ [oF 16 1 2,oL 17 16,oN 18 17,oM 6 18] (.seq (sQ [oM 19 1,oN 20 19,oM 21 6,o 22 (.bin .mul (qI 2) (.t 21)),o 23 (.bin .sub (.t 22) (qI 1)),o 24 (.bin .neq (.t 20) (.t 23))] (.cond (.t 24) (sQ [oK 4 130] (.ret)) (.skip))) (.seq (.feet [0,1,0,4,12,3,63] [oM 25 6,o 26 (.mks 1 1 [.bool false] (.t 25) (.t 25)),oM 27 1,oN 28 27,o 29 (.mks 1 1 [.bool false] (.t 28) (.t 28)),oM 7 26,oM 8 29]) (.seq (sQ [oM 30 1,oN 31 30,oK 32 0] (.blk 0 (.loop jb))) cS))))
def gN:SF:=⟨132,[.tm 4],sQ [o 2 (.box (.t 0)),oK 4 0] jG⟩
def fF:SC:=.ops [oM 34 5,oM 35 7,o 36 (.bsl 1 1 [.int .i64 0] [0] [.t 35]),o 37 (.app 1 8 (.t 34) (.t 36)),oM 5 37]
def qQ:SC:=.ops [oM 13 6,oA 14 13,oM 6 14]
def qP:SC:=.seq (sQ [oM 8 6,oF 9 1 3,oL 10 9,oN 11 10,o 12 (.bin .lss (.t 8) (.t 11))] (.cond (.t 12) (.skip) (.exit 0))) (.seq (.blk 1 (sQ [oK 7 (-1)] (.seq (sQ [oF 15 0 2,oL 16 15,oM 17 6,o 18 (.conv .u64 (.t 17)),o 19 (.bin .shr (.t 16) (.t 18)),o 20 (.bin .and (.t 19) (.k (.int .u8 1))),o 21 (.bin .eql (.t 20) (.k (.int .u8 1)))] (.cond (.t 21) (.quiet [oM 22 6,oF 23 1 2,o 24 (.ixa 8 1 (.t 23) (.t 22)),oL 25 24,o 26 (.conv .i64 (.t 25)),oF 27 1 3,oL 28 27,oM 29 6,o 30 (.ixs 3 (.t 28) (.t 29)),oF 31 0 30,oL 32 31,o 33 (.bin .rem (.t 26) (.t 32)),oM 7 33]) (.skip))) fF))) qQ)
def jI:SC:=sQ [oM 38 5,oM 4 38] (.ret)
def kI:SC:=sQ [o 5 (.mv (.k (.nils)))] (.seq (sQ [oK 6 0] (.blk 0 (.loop qP))) jI)
def iG:SF:=⟨39,[.tm 4],sQ [o 2 (.box (.t 0)),o 3 (.box (.t 1)),o 4 (.mv (.k (.nils)))] kI⟩
def kv:SC:=.seq (sQ [o 15 (.load true 2 (.t 4)),oM 16 1,o 17 (.call N.aY [.t 15,.t 16]),oM 11 17] (sQ [oM 18 11,o 19 (.bin .neq (.t 18) (qI 0))] (.cond (.t 19) (sQ [o 20 (.build [.int .i64 0,.int .i64 0] [] []),oM 21 11,oz (.store 2 (.t 8) (.t 20)),oK 9 0,oM 10 21] (.ret)) (.skip)))) (.seq (sQ [o 22 (.load true 2 (.t 4)),oM 23 2,o 24 (.call N.aT [.t 22,.t 23]),oM 12 24] (sQ [oM 25 12,o 26 (.bin .neq (.t 25) (qI 0))] (.cond (.t 26) (sQ [o 27 (.build [.int .i64 0,.int .i64 0] [] []),oM 28 12,oz (.store 2 (.t 8) (.t 27)),oK 9 0,oM 10 28] (.ret)) (.skip)))) (.seq (sQ [oM 29 3,o 30 (.bin .lss (.t 29) (qI 0)),oM 31 30,og 32 31 false (.mv (.t 3)),og 33 31 false (.bin .gtr (.t 32) (qI 1000)),o 34 (.pick (.t 31) (.k (.bool true)) (.t 33))] (.cond (.t 34) (sQ [o 35 (.build [.int .i64 0,.int .i64 0] [] []),oz (.store 2 (.t 8) (.t 35)),oK 9 0,oK 10 2] (.ret)) (.skip))) (sQ [o 36 (.load true 2 (.t 4)),oM 37 1,oM 38 2,oM 39 3,o 40 (.call N.aU [.t 36,.t 37,.t 38,.t 39]),oM 13 40] (sQ [oM 41 13,o 42 (.call N.aV [.t 41]),oM 14 42] (.seq (.feet [0,0,2,6,14,30,0,64,192,448,960,1984,4094,8191,0,16384,49152,114688,16383,524287,1048575] [oM 43 14,oM 44 13,o 45 (.nilc (.t 44)),oF 46 0 45,oF 47 0 46,oL 48 47,oM 49 13,o 50 (.nilc (.t 49)),oF 51 0 50,oF 52 1 51,oL 53 52,oN 54 53,o 55 (.call N.aS [.t 48,.t 54]),o 56 (.call N.aF [.t 43,.t 55]),oM 57 13,o 58 (.nilc (.t 57)),oF 59 8 58,oL 60 59,oz (.store 2 (.t 8) (.t 56)),oM 9 60,oK 10 0]) (.ret))))))
def iC:SF:=⟨61,[.cell true 2 8,.tm 9,.tm 10],sQ [o 4 (.box (.t 0)),o 8 (.alloc [.int .i64 0,.int .i64 0]),oK 9 0,oK 10 0] kv⟩
def sR:SC:=sQ [oM 8 0,oM 9 1,o 10 (.call N.aM [.t 8,.t 9]),oM 7 10,o 11 (.ext (.t 7) 0),o 12 (.ext (.t 7) 1),o 5 (.alloc [.int .i64 0,.int .i64 0]),oz (.store 2 (.t 5) (.t 11)),oM 6 12] (sQ [o 13 (.load true 2 (.t 5)),oz (.store 2 (.t 4) (.t 13))] (.ret))
def rI:SF:=⟨14,[.cell true 2 4],sQ [o 4 (.alloc [.int .i64 0,.int .i64 0])] sR⟩
def o4:SC:=.seq (sQ [oF 3 1 1,oL 4 3,o 5 (.bin .lss (.t 4) (qI 1)),oM 6 5,og 7 6 false (.fad 1 (.t 1)),og 8 6 false (.load false 1 (.t 7)),og 9 6 false (.bin .gtr (.t 8) (qI 4611686018427387903)),o 10 (.pick (.t 6) (.k (.bool true)) (.t 9)),oM 11 10,og 12 11 false (.fad 0 (.t 1)),og 13 11 false (.load false 1 (.t 12)),og 14 11 false (.bin .gtr (.t 13) (qI 4611686018427387903)),o 15 (.pick (.t 11) (.k (.bool true)) (.t 14)),oM 16 15,og 17 16 false (.fad 0 (.t 1)),og 18 16 false (.load false 1 (.t 17)),og 19 16 false (.bin .lss (.t 18) (qI (-4611686018427387903))),o 20 (.pick (.t 16) (.k (.bool true)) (.t 19))] (.cond (.t 20) (sQ [o 2 (.mv (.k (.bool false)))] (.ret)) (.skip))) (.seq (.feet [0,1,3,0,8,31,63,0,255,511,1023] [oF 21 0 1,oL 22 21,o 23 (.call N.aa [.t 22]),oF 24 1 1,oL 25 24,o 26 (.call N.aa [.t 25]),o 27 (.call N.aC [.t 23,.t 26]),o 28 (.bsl 1 1 [.int .i64 0] [0] [.k (.int .i64 1)]),o 29 (.call N.ae [.t 27,.t 28]),o 30 (.bin .eql (.t 29) (qI 0)),oM 2 30]) (.ret))
def mz:SF:=⟨31,[.tm 2],sQ [o 1 (.box (.t 0)),o 2 (.mv (.k (.bool false)))] o4⟩
def qZ:SC:=.seq (.quiet [oF 9 0 2,oL 10 9,o 11 (.call N.aa [.t 10]),oF 12 1 3,oL 13 12,o 14 (.call N.aa [.t 13]),o 15 (.call N.an [.t 11,.t 14]),oF 16 0 3,oL 17 16,o 18 (.call N.aa [.t 17]),oF 19 1 2,oL 20 19,o 21 (.call N.aa [.t 20]),o 22 (.call N.an [.t 18,.t 21]),oM 6 15,oM 7 22]) (.seq (.quiet [oF 23 1 2,oL 24 23,o 25 (.call N.aa [.t 24]),oF 26 1 3,oL 27 26,o 28 (.call N.aa [.t 27]),o 29 (.call N.an [.t 25,.t 28]),oM 8 29]) (.seq (sQ [oF 30 0 2,oL 31 30,o 32 (.bin .lss (.t 31) (qI 0)),oF 33 0 3,oL 34 33,o 35 (.bin .lss (.t 34) (qI 0)),o 36 (.eq false .bool (.t 32) (.t 35))] (.cond (.t 36) (.seq (.feet [0,1,3,0,0,24,0,127,255,255,1023,2047] [oF 37 0 2,oL 38 37,o 39 (.bin .lss (.t 38) (qI 0)),oM 40 6,oM 41 7,o 42 (.call N.aN [.t 40,.t 41]),oM 43 8,o 44 (.call N.ac [.t 39,.t 42,.t 43]),o 45 (.ext (.t 44) 0),o 46 (.ext (.t 44) 1),oz (.store 2 (.t 4) (.t 45)),oM 5 46]) (.ret)) (.skip))) (.seq (sQ [oM 47 6,oM 48 7,o 49 (.call N.ae [.t 47,.t 48]),o 50 (.bin .geq (.t 49) (qI 0))] (.cond (.t 50) (.seq (.feet [0,1,3,0,0,24,0,127,255,255,1023,2047] [oF 51 0 2,oL 52 51,o 53 (.bin .lss (.t 52) (qI 0)),oM 54 6,oM 55 7,o 56 (.call N.aD [.t 54,.t 55]),oM 57 8,o 58 (.call N.ac [.t 53,.t 56,.t 57]),o 59 (.ext (.t 58) 0),o 60 (.ext (.t 58) 1),oz (.store 2 (.t 4) (.t 59)),oM 5 60]) (.ret)) (.skip))) (.seq (.feet [0,1,3,0,0,24,0,127,255,255,1023,2047] [oF 61 0 3,oL 62 61,o 63 (.bin .lss (.t 62) (qI 0)),oM 64 7,oM 65 6,o 66 (.call N.aD [.t 64,.t 65]),oM 67 8,o 68 (.call N.ac [.t 63,.t 66,.t 67]),o 69 (.ext (.t 68) 0),o 70 (.ext (.t 68) 1),oz (.store 2 (.t 4) (.t 69)),oM 5 70]) (.ret)))))
def pI:SF:=⟨71,[.cell true 2 4,.tm 5],sQ [o 2 (.box (.t 0)),o 3 (.box (.t 1)),o 4 (.alloc [.int .i64 0,.int .i64 0]),o 5 (.mv (.k (.bool false)))] qZ⟩
def bQ:SC:=sQ [o 6 (.mv (.k (.nils)))] (sQ [oM 28 6,oM 29 3,oM 30 5,o 31 (.slc 1 (.t 29) [] [.t 30]),o 32 (.app 1 8 (.t 28) (.t 31)),oM 33 4,o 34 (.bsl 1 1 [.int .i64 0] [0] [.t 33]),o 35 (.app 1 8 (.t 32) (.t 34)),oM 6 35] (.ops [oM 36 6,oM 37 3,oM 38 5,o 39 (.slc 1 (.t 37) [.t 38] []),o 40 (.app 1 8 (.t 36) (.t 39)),oM 3 40]))
def jz:SC:=.ops [oM 12 4,oA 13 12,oM 4 13]
def jy:SC:=.seq (sQ [oM 7 4,o 8 (.load true 3 (.t 1)),o 9 (.call N.bc [.t 8]),oN 10 9,o 11 (.bin .lss (.t 7) (.t 10))] (.cond (.t 11) (.skip) (.exit 0))) (.seq (.blk 1 (sQ [oK 5 0] (.seq (sQ [oM 14 4,oF 15 2 1,oL 16 15,oN 17 16,o 18 (.bin .lss (.t 14) (.t 17))] (.cond (.t 18) (.ops [oF 19 2 1,oL 20 19,oM 21 4,oX 22 20 21,oL 23 22,o 24 (.conv .i64 (.t 23)),oM 25 4,oA 26 25,o 27 (.bin .rem (.t 24) (.t 26)),oM 5 27]) (.skip))) bQ))) jz)
def dP:SC:=sQ [oM 41 3,oM 2 41] (.ret)
def eo:SC:=sQ [o 3 (.mv (.k (.nils)))] (.seq (sQ [oK 4 0] (.blk 0 (.loop jy))) dP)
def cI:SF:=⟨42,[.tm 2],sQ [o 1 (.box (.t 0)),o 2 (.mv (.k (.nils)))] eo⟩
def uW:SC:=.seq (sQ [oM 5 4,oM 6 0,oN 7 6,o 8 (.bin .lss (.t 5) (.t 7))] (.cond (.t 8) (.skip) (.exit 0))) (.seq (.blk 1 (.ops [oM 11 3,oM 12 0,oM 13 4,oX 14 12 13,oL 15 14,o 16 (.bin .mul (.t 11) (.t 15)),oM 3 16])) (.ops [oM 9 4,oA 10 9,oM 4 10]))
def o_:SC:=sQ [oM 17 3,oM 2 17] (.ret)
def oa:SF:=⟨18,[.tm 2],sQ [oK 2 0] (sQ [oK 3 1] (.seq (sQ [oK 4 0] (.blk 0 (.loop uW))) o_))⟩
def it:SC:=.seq (.quiet [o 5 (.load true 2 (.t 2)),o 6 (.call N.be [.t 5]),oF 7 1 2,oL 8 7,oM 9 1,o 10 (.ixs 3 (.t 8) (.t 9)),oF 11 1 10,oL 12 11,o 13 (.call N.ba [.t 6,.t 12]),oM 4 13]) (.ret)
def fG:SF:=⟨14,[.tm 4],sQ [o 2 (.box (.t 0)),o 4 (.mv (.k (.nils)))] it⟩
def pR:SC:=.ops [oM 39 10,oM 40 9,oM 41 11,oX 42 40 41,oL 43 42,o 44 (.bin .add (.t 39) (.t 43)),oM 10 44]
def pS:SC:=.ops [oM 20 11,oA 21 20,oM 11 21]
def kJ:SC:=.seq (sQ [oM 17 11,oM 18 1,o 19 (.bin .lss (.t 17) (.t 18))] (.cond (.t 19) (.skip) (.exit 0))) (.seq (.blk 1 (.seq (sQ [oM 22 2,oN 23 22,o 24 (.bin .gtr (.t 23) (qI 0))] (.cond (.t 24) (.ops [oM 25 9,oM 26 11,oM 27 2,oM 28 3,oM 29 11,o 30 (.bin .add (.t 28) (.t 29)),oM 31 2,oN 32 31,o 33 (.bin .rem (.t 30) (.t 32)),oX 34 27 33,oL 35 34,o 36 (.bin .rem (.t 35) (.k (.int .u8 8))),o 37 (.conv .i64 (.t 36)),oX 38 25 26,oz (.store 1 (.t 38) (.t 37))]) (.skip))) pR)) pS)
def pT:SC:=.ops [oM 68 12,oM 69 9,oM 70 14,oX 71 69 70,oL 72 71,o 73 (.bin .sub (.t 68) (.t 72)),oM 12 73]
def pU:SC:=.ops [oM 49 14,oA 50 49,oM 14 50]
def kK:SC:=.seq (sQ [oM 46 14,oM 47 1,o 48 (.bin .lss (.t 46) (.t 47))] (.cond (.t 48) (.skip) (.exit 2))) (.seq (.blk 3 (.seq (sQ [oM 51 9,oM 52 14,oX 53 51 52,oL 54 53,o 55 (.bin .gtr (.t 54) (qI 0))] (.cond (.t 55) (sQ [oM 56 9,oM 57 14,oM 58 0,oM 59 9,oM 60 14,oX 61 59 60,oL 62 61,o 63 (.bin .mul (.t 58) (.t 62)),oM 64 10,o 65 (.bin .quo (.t 63) (.t 64)),oX 66 56 57,oz (.store 1 (.t 66) (.t 65))] (.ops [oM 67 14,oM 13 67])) (.skip))) pT)) pU)
def pV:SC:=sQ [oM 74 9,oM 75 13,oM 76 9,oM 77 13,oX 78 76 77,oL 79 78,oM 80 12,o 81 (.bin .add (.t 79) (.t 80)),oX 82 74 75,oz (.store 1 (.t 82) (.t 81))] (sQ [oM 83 9,oM 8 83] (.ret))
def pW:SC:=sQ [oM 45 0,oM 12 45,oK 13 0] (.seq (sQ [oK 14 0] (.blk 2 (.loop kK))) pV)
def pQ:SF:=⟨84,[.tm 8],sQ [o 8 (.mv (.k (.nils)))] (sQ [oM 15 1,o 16 (.mks 1 8 [.int .i64 0] (.t 15) (.t 15)),oM 9 16] (sQ [oK 10 0] (.seq (sQ [oK 11 0] (.blk 0 (.loop kJ))) pW)))⟩
def qW:SC:=sQ [o 6 (.load true 2 (.t 1)),o 7 (.call N.aJ [.t 6]),oM 5 7,o 8 (.ext (.t 5) 0),o 9 (.ext (.t 5) 1),o 3 (.alloc [.int .i64 0,.nils,.nils,.nils,.nils]),oz (.store 5 (.t 3) (.t 8)),oM 4 9] (sQ [oM 10 4,oM 2 10] (.ret))
def pH:SF:=⟨11,[.tm 2],sQ [o 1 (.box (.t 0)),oK 2 0] qW⟩
def cJ:SF:=⟨9,[.tm 4],sQ [o 4 (.mv (.k (.bool false)))] (sQ [oM 5 0,oM 6 1,o 7 (.call N.bj [.t 5,.t 6]),o 8 (.bin .geq (.t 7) (qI 0)),oM 4 8] (.ret))⟩
def gP:SC:=sQ [o 27 (.bin .lss (.t 26) (.t 25))] (.seq (.cond (.t 27) (.skip) (.exit 0)) (.seq (.blk 1 (sQ [oM 28 26,oX 29 24 26,oL 30 29,oM 7 28,oM 8 30] (sQ [oM 31 8,o 32 (.bin .lss (.t 31) (qI (-1))),oM 33 32,og 34 33 false (.mv (.t 8)),og 35 33 false (.fad 2 (.t 5)),og 36 33 false (.load false 1 (.t 35)),og 37 33 false (.mv (.t 7)),og 38 33 false (.ixs 1 (.t 36) (.t 37)),og 39 33 false (.load false 1 (.t 38)),og 40 33 false (.bin .geq (.t 34) (.t 39)),o 41 (.pick (.t 33) (.k (.bool true)) (.t 40))] (.cond (.t 41) (sQ [oK 4 2] (.ret)) (.skip))))) (.ops [oA 42 26,oM 26 42])))
def gQ:SC:=sQ [oK 4 0] (.ret)
def il:SC:=sQ [o 10 (.load true 2 (.t 2)),o 11 (.call N.aJ [.t 10]),oM 9 11,o 12 (.ext (.t 9) 0),o 13 (.ext (.t 9) 1),o 5 (.alloc [.int .i64 0,.nils,.nils,.nils,.nils]),oz (.store 5 (.t 5) (.t 12)),oM 6 13] (.seq (sQ [oM 14 6,o 15 (.bin .neq (.t 14) (qI 0))] (.cond (.t 15) (sQ [oM 16 6,oM 4 16] (.ret)) (.skip))) (.seq (sQ [oM 17 1,oN 18 17,oF 19 0 5,oF 20 1 19,oL 21 20,oN 22 21,o 23 (.bin .neq (.t 18) (.t 22))] (.cond (.t 23) (sQ [oK 4 2] (.ret)) (.skip))) (.seq (sQ [oM 24 1,oN 25 24,oK 26 0] (.blk 0 (.loop gP))) gQ)))
def fD:SF:=⟨43,[.tm 4],sQ [o 2 (.box (.t 0)),oK 4 0] il⟩
def fK:SC:=.ops [oA 101 84,oM 84 101]
def cY:SC:=sQ [o 85 (.bin .lss (.t 84) (.t 83))] (.seq (.cond (.t 85) (.skip) (.exit 2)) (.seq (.blk 3 (sQ [oX 86 82 84,oL 87 86,oM 15 87] (sQ [oM 88 1,oM 89 15,oX 90 88 89,oL 91 90,o 92 (.bin .eql (.t 91) (qI (-1)))] (.cond (.t 92) (.feet [0,0,3,7,0,16,63,127,255] [oM 93 10,oM 94 12,oX 95 93 94,oL 96 95,oM 97 15,o 98 (.bin .shl (.k (.int .u64 1)) (.t 97)),o 99 (.bin .or (.t 96) (.t 98)),oX 100 93 94,oz (.store 1 (.t 100) (.t 99))]) (.skip))))) fK))
def fL:SC:=.ops [oA 102 46,oM 46 102]
def cZ:SC:=sQ [o 47 (.bin .lss (.t 46) (.t 45))] (.seq (.cond (.t 47) (.skip) (.exit 0)) (.seq (.blk 1 (sQ [oM 48 46,o 49 (.ixs 3 (.t 44) (.t 46)),o 50 (.load true 3 (.t 49)),o 13 (.alloc [.int .i64 0,.int .i64 0,.int .i64 0]),oM 12 48,oz (.store 3 (.t 13) (.t 50))] (.seq (sQ [oF 51 0 13,oL 52 51,o 53 (.bin .eql (.t 52) (qI (-1)))] (.cond (.t 53) (.seq (.feet [0,0,0,0,8,28,60,0,0,256,896,1920,4092,8191,16383] [oM 54 10,oM 55 12,oM 56 10,oF 57 1 13,oL 58 57,oX 59 56 58,oL 60 59,oM 61 10,oF 62 2 13,oL 63 62,oX 64 61 63,oL 65 64,o 66 (.bin .or (.t 60) (.t 65)),oX 67 54 55,oz (.store 1 (.t 67) (.t 66))]) (.exit 1)) (.skip))) (.seq (.feet [0,1,3,7,15,0,32,127,255,511,1023,0,2048,6144,16383,32767,0] [oM 68 9,o 69 (.nilc (.t 68)),oF 70 0 69,oF 71 1 70,oL 72 71,oF 73 0 13,oL 74 73,o 75 (.ixs 3 (.t 72) (.t 74)),oF 76 1 75,oL 77 76,o 78 (.call N.ah [.t 77]),oF 79 0 13,oL 80 79,o 81 (.bsl 1 1 [.int .i64 0] [0] [.t 80]),o 82 (.app 1 8 (.t 78) (.t 81)),oN 83 82,oK 84 0]) (.blk 2 (.loop cY)))))) fL))
def fM:SC:=.ops [oM 108 16,o 109 (.bin .sub (.t 108) (qI 1)),oM 16 109]
def c7:SC:=.seq (sQ [oM 106 16,o 107 (.bin .geq (.t 106) (qI 0))] (.cond (.t 107) (.skip) (.exit 4))) (.seq (.blk 5 (.seq (.feet [0,1,3,7,0,0,0,96,224,0,0,1536,3584,8160,16383,32767] [oM 110 9,o 111 (.nilc (.t 110)),oF 112 5 111,oL 113 112,oM 114 16,oM 115 10,oM 116 16,oX 117 115 116,oL 118 117,oM 119 11,oM 120 16,oX 121 119 120,oL 122 121,o 123 (.bin .and (.t 118) (.t 122)),oX 124 113 114,oz (.store 1 (.t 124) (.t 123))]) (sQ [oM 125 2,oM 126 16,o 127 (.ixs 3 (.t 125) (.t 126)),o 128 (.load true 3 (.t 127)),o 17 (.alloc [.int .i64 0,.int .i64 0,.int .i64 0]),oz (.store 3 (.t 17) (.t 128))] (sQ [oF 129 0 17,oL 130 129,o 131 (.bin .eql (.t 130) (qI (-1)))] (.cond (.t 131) (.seq (.feet [0,1,3,7,0,0,0,64,224,480,0,0,2048,7168,15360,32736,0,0,196608,458752,1048544,2097151,4194303] [oM 132 9,o 133 (.nilc (.t 132)),oF 134 4 133,oL 135 134,oM 136 16,oM 137 10,oF 138 1 17,oL 139 138,oX 140 137 139,oL 141 140,oM 142 10,oF 143 2 17,oL 144 143,oX 145 142 144,oL 146 145,o 147 (.bin .and (.t 141) (.t 146)),oM 148 11,oM 149 16,oX 150 148 149,oL 151 150,o 152 (.bin .andNot (.t 147) (.t 151)),oX 153 135 136,oz (.store 1 (.t 153) (.t 152))]) (.seq (.feet [0,0,2,0,0,24,56,0,128,384,896,0,3968,8064,16376,32767,65535] [oM 154 11,oF 155 1 17,oL 156 155,oM 157 11,oM 158 16,oX 159 157 158,oL 160 159,oM 161 9,o 162 (.nilc (.t 161)),oF 163 4 162,oL 164 163,oM 165 16,oX 166 164 165,oL 167 166,o 168 (.bin .or (.t 160) (.t 167)),oX 169 154 156,oz (.store 1 (.t 169) (.t 168))]) (.feet [0,0,2,0,0,16,56,120,255,511] [oM 170 11,oF 171 2 17,oL 172 171,oM 173 11,oF 174 1 17,oL 175 174,oX 176 173 175,oL 177 176,oX 178 170 172,oz (.store 1 (.t 178) (.t 177))]))) (.skip)))))) fM)
def fN:SC:=sQ [oM 179 9,oM 8 179] (.ret)
def fO:SC:=.seq (sQ [oM 103 2,oN 104 103,o 105 (.bin .sub (.t 104) (qI 1)),oM 16 105] (.blk 4 (.loop c7))) fN
def gm:SC:=.seq (.feet [0,0,0,4,0,0,63,127,255] [o 18 (.load true 2 (.t 4)),oM 19 2,oM 20 1,o 21 (.call N.ah [.t 20]),o 22 (.raw (.makeMap 115 none)),oM 23 3,o 24 (.build [.int .i64 0,.nils,.nils,.nils,.nils,.nils,.nilm,.int .i64 0,.int .i64 0] [(0,2),(2,1),(3,1),(6,1),(7,1)] [.t 18,.t 19,.t 21,.t 22,.t 23]),o 25 (.box (.t 24)),oM 9 25]) (.seq (.feet [0,0,0,4,12,0,32,96,29,285,797,2047,4095,8191] [oM 26 9,oM 27 9,oM 28 2,oN 29 28,o 30 (.mks 1 8 [.int .u64 0] (.t 29) (.t 29)),oM 31 2,oN 32 31,o 33 (.mks 1 8 [.int .u64 0] (.t 32) (.t 32)),o 34 (.nilc (.t 26)),oF 35 4 34,oz (.store 1 (.t 35) (.t 30)),o 36 (.nilc (.t 27)),oF 37 5 36,oz (.store 1 (.t 37) (.t 33))]) (.seq (.feet [0,1,3,0,8,24,7,127] [oM 38 2,oN 39 38,o 40 (.mks 1 8 [.int .u64 0] (.t 39) (.t 39)),oM 41 2,oN 42 41,o 43 (.mks 1 8 [.int .u64 0] (.t 42) (.t 42)),oM 10 40,oM 11 43]) (.seq (sQ [oM 44 2,oN 45 44,oK 46 0] (.blk 0 (.loop cZ))) fO)))
def dW:SF:=⟨180,[.tm 8],sQ [o 4 (.box (.t 0)),o 8 (.mv (.k (.nilp)))] gm⟩
def fP:SC:=sQ [o 3 (.alloc [.nilf])] (sQ [o 4 (.mkf N.aW [] [.t 1,.t 3]),oz (.store 1 (.t 3) (.t 4))] (.seq (.feet [0,0,2,6,14,30,62,127,255] [oL 5 3,oL 6 1,o 7 (.nilc (.t 6)),oF 8 2 7,oL 9 8,oN 10 9,o 11 (.bin .sub (.t 10) (qI 1)),o 12 (.dyn (.t 5) [.t 11]),oM 2 12]) (.ret)))
def dF:SF:=⟨13,[.tm 2],sQ [o 1 (.box (.t 0)),oK 2 0] fP⟩
def iH:SC:=.seq (sQ [oM 12 6,o 13 (.bin .neq (.t 12) (qI 0))] (.cond (.t 13) (.skip) (.exit 0))) (.blk 1 (.quiet [oM 14 6,oM 15 5,oM 16 6,o 17 (.bin .rem (.t 15) (.t 16)),oM 5 14,oM 6 17]))
def nA:SC:=.seq (.feet [0,0,3,0,0,24,63,127] [oM 18 0,oM 19 5,o 20 (.bin .quo (.t 18) (.t 19)),oM 21 1,oM 22 5,o 23 (.bin .quo (.t 21) (.t 22)),o 24 (.build [.int .i64 0,.int .i64 0] [(0,1),(1,1)] [.t 20,.t 23]),oz (.store 2 (.t 4) (.t 24))]) (.ret)
def pe:SC:=sQ [oM 7 0,oM 8 0,o 9 (.un .neg (.t 8)),o 10 (.mx (.t 7) (.t 9)),oM 11 1,oM 5 10,oM 6 11] (.seq (.blk 0 (.loop iH)) nA)
def mE:SF:=⟨25,[.cell true 2 4],sQ [o 4 (.alloc [.int .i64 0,.int .i64 0])] pe⟩
def nB:SC:=sQ [o 8 (.bin .lss (.t 7) (.t 6))] (.seq (.cond (.t 8) (.skip) (.exit 0)) (.seq (.blk 1 (.ops [oM 9 5,oM 10 0,o 11 (.bin .mul (.t 9) (.t 10)),oM 5 11])) (.ops [oA 12 7,oM 7 12])))
def nC:SC:=sQ [oM 13 5,oM 4 13] (.ret)
def mF:SF:=⟨14,[.tm 4],sQ [oK 4 0] (sQ [oK 5 1] (.seq (sQ [oM 6 1,oK 7 0] (.blk 0 (.loop nB))) nC))⟩
def pJ:SC:=sQ [oM 6 0,o 7 (.bin .lss (.t 6) (qI 0)),oM 8 1,o 9 (.bin .lss (.t 8) (qI 0)),o 10 (.eq true .bool (.t 7) (.t 9)),oM 11 0,o 12 (.call N.aa [.t 11]),oM 13 1,o 14 (.call N.aa [.t 13]),o 15 (.call N.ac [.t 10,.t 12,.t 14]),o 16 (.ext (.t 15) 0),o 17 (.ext (.t 15) 1),oz (.store 2 (.t 4) (.t 16)),oM 5 17] (.ret)
def n7:SF:=⟨18,[.cell true 2 4,.tm 5],sQ [o 4 (.alloc [.int .i64 0,.int .i64 0]),o 5 (.mv (.k (.bool false)))] pJ⟩
def kz:SC:=.seq (sQ [oM 19 5,o 20 (.bin .geq (.t 19) (qI 0))] (.cond (.t 20) (.skip) (.exit 0))) (.seq (.blk 1 (.seq (.quiet [oM 23 0,oM 24 5,oX 25 23 24,oL 26 25,oM 27 1,oM 28 5,oX 29 27 28,oL 30 29,o 31 (.bin .neq (.t 26) (.t 30))]) (.cond (.t 31) (.seq (.seq (.quiet [oM 32 0,oM 33 5,oX 34 32 33,oL 35 34,oM 36 1,oM 37 5,oX 38 36 37,oL 39 38,o 40 (.bin .lss (.t 35) (.t 39))]) (.cond (.t 40) (sQ [oK 4 (-1)] (.ret)) (.skip))) (sQ [oK 4 1] (.ret))) (.skip)))) (.ops [oM 21 5,o 22 (.bin .sub (.t 21) (qI 1)),oM 5 22]))
def kA:SC:=sQ [oK 4 0] (.ret)
def jv:SF:=⟨41,[.tm 4],sQ [oK 4 0] (.seq (sQ [oM 6 0,oN 7 6,oM 8 1,oN 9 8,o 10 (.bin .neq (.t 7) (.t 9))] (.cond (.t 10) (.seq (sQ [oM 11 0,oN 12 11,oM 13 1,oN 14 13,o 15 (.bin .lss (.t 12) (.t 14))] (.cond (.t 15) (sQ [oK 4 (-1)] (.ret)) (.skip))) (sQ [oK 4 1] (.ret))) (.skip))) (.seq (sQ [oM 16 0,oN 17 16,o 18 (.bin .sub (.t 17) (qI 1)),oM 5 18] (.blk 0 (.loop kz))) kA))⟩
def kG:SC:=.seq (sQ [oM 7 1,oN 8 7,o 9 (.bin .gtr (.t 8) (qI 0))] (.cond (.t 9) (.skip) (.exit 0))) (.blk 1 (sQ [oM 11 0,oM 12 1,o 13 (.call N.aB [.t 11,.t 12]),oM 10 13,o 14 (.ext (.t 10) 0),o 15 (.ext (.t 10) 1),oM 5 14,oM 6 15] (sQ [oM 16 1,oM 0 16] (.ops [oM 17 6,oM 1 17]))))
def pN:SC:=sQ [oM 18 0,oM 4 18] (.ret)
def pM:SF:=⟨19,[.tm 4],sQ [o 4 (.mv (.k (.nils)))] (.seq (.blk 0 (.loop kG)) pN)⟩
def lM:SC:=.seq (sQ [oM 5 0,o 6 (.bin .neq (.t 5) (qI 0))] (.cond (.t 6) (.skip) (.exit 0))) (.blk 1 (sQ [oM 7 0,o 8 (.bin .rem (.t 7) (qI 10000)),oM 4 8] (sQ [oM 9 3,oM 10 4,oM 11 4,o 12 (.un .neg (.t 11)),o 13 (.mx (.t 10) (.t 12)),o 14 (.bsl 1 1 [.int .i64 0] [0] [.t 13]),o 15 (.app 1 8 (.t 9) (.t 14)),oM 3 15] (.ops [oM 16 0,o 17 (.bin .quo (.t 16) (qI 10000)),oM 0 17]))))
def lN:SC:=sQ [oM 18 3,oM 2 18] (.ret)
def kC:SF:=⟨19,[.tm 2],sQ [o 2 (.mv (.k (.nils)))] (sQ [o 3 (.mv (.k (.nils)))] (.seq (.blk 0 (.loop lM)) lN))⟩
def iE:SC:=sQ [oM 54 5,oM 55 6,oM 56 8,o 57 (.bin .add (.t 55) (.t 56)),oM 58 7,o 59 (.bin .rem (.t 58) (qI 10000)),oX 60 54 57,oz (.store 1 (.t 60) (.t 59))] (.ops [oM 61 7,o 62 (.bin .quo (.t 61) (qI 10000)),oM 7 62])
def iF:SC:=.ops [oM 29 8,oA 30 29,oM 8 30]
def dx:SC:=.seq (sQ [oM 21 8,oM 22 1,oN 23 22,o 24 (.bin .lss (.t 21) (.t 23)),oM 25 24,og 26 25 false (.mv (.t 7)),og 27 25 false (.bin .gtr (.t 26) (qI 0)),o 28 (.pick (.t 25) (.k (.bool true)) (.t 27))] (.cond (.t 28) (.skip) (.exit 2))) (.seq (.blk 3 (sQ [oM 31 7,oM 32 5,oM 33 6,oM 34 8,o 35 (.bin .add (.t 33) (.t 34)),oX 36 32 35,oL 37 36,o 38 (.bin .add (.t 31) (.t 37)),oM 7 38] (.seq (sQ [oM 39 8,oM 40 1,oN 41 40,o 42 (.bin .lss (.t 39) (.t 41))] (.cond (.t 42) (.quiet [oM 43 7,oM 44 0,oM 45 6,oX 46 44 45,oL 47 46,oM 48 1,oM 49 8,oX 50 48 49,oL 51 50,o 52 (.bin .mul (.t 47) (.t 51)),o 53 (.bin .add (.t 43) (.t 52)),oM 7 53]) (.skip))) iE))) iF)
def ua:SC:=.ops [oM 19 6,oA 20 19,oM 6 20]
def ni:SC:=.seq (sQ [oM 15 6,oM 16 0,oN 17 16,o 18 (.bin .lss (.t 15) (.t 17))] (.cond (.t 18) (.skip) (.exit 0))) (.seq (.blk 1 (sQ [oK 7 0] (sQ [oK 8 0] (.blk 2 (.loop dx))))) ua)
def nj:SC:=sQ [oM 63 5,o 64 (.call N.am [.t 63]),oM 4 64] (.ret)
def mB:SF:=⟨65,[.tm 4],sQ [o 4 (.mv (.k (.nils)))] (sQ [oM 9 0,oN 10 9,oM 11 1,oN 12 11,o 13 (.bin .add (.t 10) (.t 12)),o 14 (.mks 1 8 [.int .i64 0] (.t 13) (.t 13)),oM 5 14] (.seq (sQ [oK 6 0] (.blk 0 (.loop ni))) nj))⟩
def jx:SC:=sQ [oM 48 9,oM 49 11,o 50 (.build [.int .i64 0,.int .i64 0] [(0,1),(1,1)] [.t 48,.t 49]),oz (.store 2 (.t 6) (.t 50)),o 7 (.mv (.k (.bool true)))] (.ret)
def kH:SC:=sQ [oM 13 1,oM 14 2,o 15 (.call N.aC [.t 13,.t 14]),oM 8 15] (sQ [oM 17 1,oM 18 8,o 19 (.call N.aB [.t 17,.t 18]),oM 16 19,o 20 (.ext (.t 16) 0),o 21 (.ext (.t 16) 1),oM 1 20] (sQ [oM 23 2,oM 24 8,o 25 (.call N.aB [.t 23,.t 24]),oM 22 25,o 26 (.ext (.t 22) 0),o 27 (.ext (.t 22) 1),oM 2 26] (sQ [oM 29 1,o 30 (.call N.af [.t 29]),oM 28 30,o 31 (.ext (.t 28) 0),o 32 (.ext (.t 28) 1),oM 9 31,oM 10 32] (sQ [oM 34 2,o 35 (.call N.af [.t 34]),oM 33 35,o 36 (.ext (.t 33) 0),o 37 (.ext (.t 33) 1),oM 11 36,oM 12 37] (.seq (sQ [oM 38 10,o 39 (.not (.t 38)),oM 40 39,og 41 40 false (.mv (.t 12)),og 42 40 false (.not (.t 41)),o 43 (.pick (.t 40) (.k (.bool true)) (.t 42))] (.cond (.t 43) (sQ [o 44 (.build [.int .i64 0,.int .i64 0] [] []),oz (.store 2 (.t 6) (.t 44)),o 7 (.mv (.k (.bool false)))] (.ret)) (.skip))) (.seq (sQ [oM 45 0] (.cond (.t 45) (.ops [oM 46 9,o 47 (.un .neg (.t 46)),oM 9 47]) (.skip))) jx))))))
def gW:SF:=⟨51,[.cell true 2 6,.tm 7],sQ [o 6 (.alloc [.int .i64 0,.int .i64 0]),o 7 (.mv (.k (.bool false)))] kH⟩
def o6:SC:=sQ [oM 44 5,oM 45 6,o 46 (.bin .rem (.t 45) (qI 10000)),o 47 (.bsl 1 1 [.int .i64 0] [0] [.t 46]),o 48 (.app 1 8 (.t 44) (.t 47)),oM 5 48] (.ops [oM 49 6,o 50 (.bin .quo (.t 49) (qI 10000)),oM 6 50])
def o7:SC:=.seq (sQ [oM 34 7,oM 35 1,oN 36 35,o 37 (.bin .lss (.t 34) (.t 36))] (.cond (.t 37) (.ops [oM 38 6,oM 39 1,oM 40 7,oX 41 39 40,oL 42 41,o 43 (.bin .add (.t 38) (.t 42)),oM 6 43]) (.skip))) o6
def o8:SC:=.ops [oM 22 7,oA 23 22,oM 7 23]
def o5:SC:=.seq (sQ [oM 8 7,oM 9 0,oN 10 9,o 11 (.bin .lss (.t 8) (.t 10)),oM 12 11,og 13 12 false (.mv (.t 7)),og 14 12 false (.mv (.t 1)),og 15 12 false (.len .slice (.t 14)),og 16 12 false (.bin .lss (.t 13) (.t 15)),o 17 (.pick (.t 12) (.k (.bool true)) (.t 16)),oM 18 17,og 19 18 false (.mv (.t 6)),og 20 18 false (.bin .gtr (.t 19) (qI 0)),o 21 (.pick (.t 18) (.k (.bool true)) (.t 20))] (.cond (.t 21) (.skip) (.exit 0))) (.seq (.blk 1 (.seq (sQ [oM 24 7,oM 25 0,oN 26 25,o 27 (.bin .lss (.t 24) (.t 26))] (.cond (.t 27) (.ops [oM 28 6,oM 29 0,oM 30 7,oX 31 29 30,oL 32 31,o 33 (.bin .add (.t 28) (.t 32)),oM 6 33]) (.skip))) o7)) o8)
def o9:SC:=sQ [oM 51 5,oM 4 51] (.ret)
def n9:SF:=⟨52,[.tm 4],sQ [o 4 (.mv (.k (.nils)))] (sQ [o 5 (.mv (.k (.nils)))] (sQ [oK 6 0] (.seq (sQ [oK 7 0] (.blk 0 (.loop o5))) o9)))⟩
def iD:SC:=.ops [oM 35 5,oM 36 8,o 37 (.bsl 1 1 [.int .i64 0] [0] [.t 36]),o 38 (.app 1 8 (.t 35) (.t 37)),oM 5 38]
def fd:SC:=sQ [oK 6 0] (.seq (sQ [oM 31 8,o 32 (.bin .lss (.t 31) (qI 0))] (.cond (.t 32) (sQ [oM 33 8,o 34 (.bin .add (.t 33) (qI 10000)),oM 8 34] (.ops [oK 6 1])) (.skip))) iD)
def t_:SC:=.ops [oM 13 7,oA 14 13,oM 7 14]
def m_:SC:=.seq (sQ [oM 9 7,oM 10 0,oN 11 10,o 12 (.bin .lss (.t 9) (.t 11))] (.cond (.t 12) (.skip) (.exit 0))) (.seq (.blk 1 (sQ [oM 15 0,oM 16 7,oX 17 15 16,oL 18 17,oM 19 6,o 20 (.bin .sub (.t 18) (.t 19)),oM 8 20] (.seq (sQ [oM 21 7,oM 22 1,oN 23 22,o 24 (.bin .lss (.t 21) (.t 23))] (.cond (.t 24) (.ops [oM 25 8,oM 26 1,oM 27 7,oX 28 26 27,oL 29 28,o 30 (.bin .sub (.t 25) (.t 29)),oM 8 30]) (.skip))) fd))) t_)
def nf:SC:=sQ [oM 39 5,o 40 (.call N.am [.t 39]),oM 4 40] (.ret)
def mA:SF:=⟨41,[.tm 4],sQ [o 4 (.mv (.k (.nils)))] (sQ [o 5 (.mv (.k (.nils)))] (sQ [oK 6 0] (.seq (sQ [oK 7 0] (.blk 0 (.loop m_))) nf)))⟩
def n_:SC:=.seq (sQ [oM 5 4,oF 6 0 1,oL 7 6,oN 8 7,o 9 (.bin .lss (.t 5) (.t 8)),oM 10 9,og 11 10 true (.mv (.t 4)),og 12 10 true (.bin .lss (.t 11) (qI 5)),o 13 (.pick (.t 10) (.t 12) (.k (.bool false)))] (.cond (.t 13) (.skip) (.exit 0))) (.seq (.blk 1 (.ops [oM 16 3,oF 17 0 1,oL 18 17,oM 19 4,oX 20 18 19,oL 21 20,o 22 (.bin .rem (.t 21) (.k (.int .u8 4))),o 23 (.conv .i64 (.t 22)),o 24 (.bin .add (qI 1) (.t 23)),o 25 (.bsl 1 1 [.int .i64 0] [0] [.t 24]),o 26 (.app 1 8 (.t 16) (.t 25)),oM 3 26])) (.ops [oM 14 4,oA 15 14,oM 4 15]))
def gX:SC:=sQ [oM 27 3,oM 2 27] (.ret)
def im:SC:=sQ [o 3 (.mv (.k (.nils)))] (.seq (sQ [oK 4 0] (.blk 0 (.loop n_))) gX)
def fE:SF:=⟨28,[.tm 2],sQ [o 1 (.box (.t 0)),o 2 (.mv (.k (.nils)))] im⟩
def yp:SC:=.seq (sQ [oM 7 6,oM 8 1,oN 9 8,o 10 (.bin .lss (.t 7) (.t 9))] (.cond (.t 10) (.skip) (.exit 0))) (.seq (.blk 1 (.ops [oM 13 5,oM 14 0,oM 15 1,oM 16 6,oX 17 15 16,oL 18 17,oX 19 14 18,oL 20 19,o 21 (.bsl 1 1 [.int .i64 0] [0] [.t 20]),o 22 (.app 1 8 (.t 13) (.t 21)),oM 5 22])) (.ops [oM 11 6,oA 12 11,oM 6 12]))
def q7:SC:=sQ [oM 23 5,oM 4 23] (.ret)
def rJ:SF:=⟨24,[.tm 4],sQ [o 4 (.mv (.k (.nils)))] (sQ [o 5 (.mv (.k (.nils)))] (.seq (sQ [oK 6 0] (.blk 0 (.loop yp))) q7))⟩
def nq:SC:=.seq (sQ [oM 5 4,oF 6 1 1,oL 7 6,oN 8 7,o 9 (.bin .lss (.t 5) (.t 8))] (.cond (.t 9) (.skip) (.exit 0))) (.seq (.blk 1 (.ops [oM 12 3,oF 13 1 1,oL 14 13,oM 15 4,o 16 (.ixs 3 (.t 14) (.t 15)),oF 17 0 16,oL 18 17,o 19 (.bsl 1 1 [.int .i64 0] [0] [.t 18]),o 20 (.app 1 8 (.t 12) (.t 19)),oM 3 20])) (.ops [oM 10 4,oA 11 10,oM 4 11]))
def ny:SC:=sQ [oM 21 3,oM 2 21] (.ret)
def pd:SC:=sQ [o 3 (.mv (.k (.nils)))] (.seq (sQ [oK 4 0] (.blk 0 (.loop nq))) ny)
def mD:SF:=⟨22,[.tm 2],sQ [o 1 (.box (.t 0)),o 2 (.mv (.k (.nils)))] pd⟩
def mo:SC:=sQ [o 51 (.bin .lss (.t 50) (.t 49))] (.seq (.cond (.t 51) (.skip) (.exit 0)) (.seq (.blk 1 (sQ [oM 52 50,o 53 (.ixs 3 (.t 48) (.t 50)),o 54 (.load true 3 (.t 53)),o 7 (.alloc [.int .i64 0,.nils,.nils]),oM 6 52,oz (.store 3 (.t 7) (.t 54))] (.seq (sQ [oF 55 0 7,oL 56 55,o 57 (.bin .lss (.t 56) (qI 1)),oM 58 57,og 59 58 false (.fad 0 (.t 7)),og 60 58 false (.load false 1 (.t 59)),og 61 58 false (.bin .gtr (.t 60) (qI 4)),o 62 (.pick (.t 58) (.k (.bool true)) (.t 61))] (.cond (.t 62) (sQ [o 63 (.build [.int .i64 0,.nils,.nils,.nils,.nils] [] []),oz (.store 5 (.t 2) (.t 63)),oK 3 50] (.ret)) (.skip))) (sQ [oF 64 2 4,oL 65 64,oM 66 6,oF 67 0 7,oL 68 67,oX 69 65 66,oz (.store 1 (.t 69) (.t 68))] (.ops [oM 70 5,oF 71 0 7,oL 72 71,o 73 (.bin .mul (.t 70) (.t 72)),oM 5 73]))))) (.ops [oA 74 50,oM 50 74])))
def mq:SC:=sQ [o 91 (.bin .lss (.t 90) (.t 89))] (.seq (.cond (.t 91) (.skip) (.exit 4)) (.seq (.blk 5 (sQ [oX 92 88 90,oL 93 92,oM 12 93] (.seq (sQ [oM 94 12,oM 95 10,o 96 (.bin .leq (.t 94) (.t 95)),oM 97 96,og 98 97 false (.mv (.t 12)),og 99 97 false (.fad 0 (.t 4)),og 100 97 false (.fad 1 (.t 99)),og 101 97 false (.load false 1 (.t 100)),og 102 97 false (.len .slice (.t 101)),og 103 97 false (.bin .geq (.t 98) (.t 102)),o 104 (.pick (.t 97) (.k (.bool true)) (.t 103)),oM 105 104,og 106 105 false (.mv (.t 12)),og 107 105 false (.mv (.t 8)),og 108 105 false (.bin .eql (.t 106) (.t 107)),o 109 (.pick (.t 105) (.k (.bool true)) (.t 108))] (.cond (.t 109) (sQ [o 110 (.build [.int .i64 0,.nils,.nils,.nils,.nils] [] []),oz (.store 5 (.t 2) (.t 110)),oK 3 50] (.ret)) (.skip))) (sQ [oM 111 12,oM 10 111] (.feet [0,1,0,7,15,0,32,127,255,511] [oF 112 3 4,oL 113 112,oM 114 8,oX 115 113 114,oL 116 115,oM 117 12,o 118 (.bin .shl (.k (.int .u64 1)) (.t 117)),o 119 (.bin .or (.t 116) (.t 118)),oX 120 113 114,oz (.store 1 (.t 120) (.t 119))]))))) (.ops [oA 121 90,oM 90 121])))
def mu:SC:=sQ [o 122 (.load true 5 (.t 4)),o 123 (.load true 3 (.t 9)),o 124 (.call N.aI [.t 122,.t 123]),o 125 (.not (.t 124))] (.cond (.t 125) (sQ [o 126 (.build [.int .i64 0,.nils,.nils,.nils,.nils] [] []),oz (.store 5 (.t 2) (.t 126)),oK 3 50] (.ret)) (.skip))
def qX:SC:=.ops [oA 127 82,oM 82 127]
def mr:SC:=sQ [o 83 (.bin .lss (.t 82) (.t 81))] (.seq (.cond (.t 83) (.skip) (.exit 2)) (.seq (.blk 3 (sQ [oM 84 82,o 85 (.ixs 3 (.t 80) (.t 82)),o 86 (.load true 3 (.t 85)),o 9 (.alloc [.int .i64 0,.nils,.nils]),oM 8 84,oz (.store 3 (.t 9) (.t 86))] (sQ [oK 10 (-1)] (.seq (sQ [oF 87 1 9,oL 88 87,oN 89 88,oK 90 0] (.blk 4 (.loop mq))) mu)))) qX))
def mw:SC:=sQ [oF 129 3 4,oL 130 129,o 131 (.call N.aZ [.t 130]),oM 128 131,o 132 (.ext (.t 128) 0),o 133 (.ext (.t 128) 1),oM 13 132,oM 14 133] (.seq (sQ [oM 134 14,o 135 (.not (.t 134))] (.cond (.t 135) (sQ [o 136 (.build [.int .i64 0,.nils,.nils,.nils,.nils] [] []),oz (.store 5 (.t 2) (.t 136)),oK 3 50] (.ret)) (.skip))) (sQ [oM 137 13,oF 138 4 4,oz (.store 1 (.t 138) (.t 137))] (sQ [o 139 (.load true 5 (.t 4)),oz (.store 5 (.t 2) (.t 139)),oK 3 0] (.ret))))
def qY:SC:=.seq (sQ [oM 75 5,o 76 (.bin .gtr (.t 75) (qI 1024))] (.cond (.t 76) (sQ [o 77 (.build [.int .i64 0,.nils,.nils,.nils,.nils] [] []),oz (.store 5 (.t 2) (.t 77)),oK 3 50] (.ret)) (.skip))) (.seq (sQ [oF 78 0 4,oF 79 1 78,oL 80 79,oN 81 80,oK 82 0] (.blk 2 (.loop mr))) mw)
def sO:SC:=.seq (sQ [oF 15 0 1,oL 16 15,o 17 (.bin .lss (.t 16) (qI 1)),oM 18 17,og 19 18 false (.fad 0 (.t 1)),og 20 18 false (.load false 1 (.t 19)),og 21 18 false (.bin .gtr (.t 20) (qI 60)),o 22 (.pick (.t 18) (.k (.bool true)) (.t 21)),oM 23 22,og 24 23 false (.fad 1 (.t 1)),og 25 23 false (.load false 1 (.t 24)),og 26 23 false (.len .slice (.t 25)),og 27 23 false (.bin .lss (.t 26) (qI 1)),o 28 (.pick (.t 23) (.k (.bool true)) (.t 27)),oM 29 28,og 30 29 false (.fad 1 (.t 1)),og 31 29 false (.load false 1 (.t 30)),og 32 29 false (.len .slice (.t 31)),og 33 29 false (.bin .gtr (.t 32) (qI 8)),o 34 (.pick (.t 29) (.k (.bool true)) (.t 33))] (.cond (.t 34) (sQ [o 35 (.build [.int .i64 0,.nils,.nils,.nils,.nils] [] []),oz (.store 5 (.t 2) (.t 35)),oK 3 50] (.ret)) (.skip))) (.seq (.feet [0,0,2,6,14,0,32,96,224,511,0,2047] [o 36 (.load true 2 (.t 1)),oF 37 1 1,oL 38 37,oN 39 38,o 40 (.mks 1 8 [.int .i64 0] (.t 39) (.t 39)),oF 41 1 1,oL 42 41,oN 43 42,o 44 (.mks 1 8 [.int .u64 0] (.t 43) (.t 43)),o 45 (.build [.int .i64 0,.nils,.nils,.nils,.nils] [(0,2),(2,1),(3,1)] [.t 36,.t 40,.t 44]),o 4 (.alloc [.int .i64 0,.nils,.nils,.nils,.nils]),oz (.store 5 (.t 4) (.t 45))]) (sQ [oK 5 1] (.seq (sQ [oF 46 0 4,oF 47 1 46,oL 48 47,oN 49 48,oK 50 0] (.blk 0 (.loop mo))) qY)))
def ky:SF:=⟨140,[.cell true 5 2,.tm 3],sQ [o 1 (.box (.t 0)),o 2 (.alloc [.int .i64 0,.nils,.nils,.nils,.nils]),oK 3 0] sO⟩
def fy:SC:=sQ [o 9 (.bin .lss (.t 8) (.t 7))] (.seq (.cond (.t 9) (.skip) (.exit 0)) (.seq (.blk 1 (sQ [oM 10 8,oM 5 10] (sQ [oM 11 1,oM 12 0,oM 13 5,oX 14 12 13,oL 15 14,o 16 (.eq false .bool (.t 11) (.t 15))] (.cond (.t 16) (sQ [oM 17 5,oM 4 17] (.ret)) (.skip))))) (.ops [oA 18 8,oM 8 18])))
def fA:SC:=sQ [oK 4 (-1)] (.ret)
def dG:SF:=⟨19,[.tm 4],sQ [oK 4 0] (.seq (sQ [oM 6 0,oN 7 6,oK 8 0] (.blk 0 (.loop fy))) fA)⟩
def cU:SF:=⟨8,[.tm 2],sQ [o 2 (.mv (.k (.nils)))] (.seq (sQ [oM 3 0,o 4 (.eq false .slice (.t 3) (.k (.nils)))] (.cond (.t 4) (sQ [o 2 (.mv (.k (.nils)))] (.ret)) (.skip))) (sQ [o 5 (.bsl 1 0 [.int .i64 0] [] []),oM 6 0,o 7 (.app 1 8 (.t 5) (.t 6)),oM 2 7] (.ret)))⟩
def dZ:SC:=.skip
def bX:SC:=.blk 1 (sQ [oL 63 2,oF 64 1 5,oL 65 64,o 66 (.dyn (.t 63) [.t 65]),oM 10 66] (.feet [0,0,0,0,8,28,62,127,255] [oL 67 9,oM 68 10,oL 69 2,oF 70 2 5,oL 71 70,o 72 (.dyn (.t 69) [.t 71]),o 73 (.bin .mul (.t 68) (.t 72)),o 74 (.bin .add (.t 67) (.t 73)),oz (.store 1 (.t 9) (.t 74))]))
def d_:SC:=sQ [oL 91 9,oM 4 91] (.ret)
def bY:SC:=.seq (.seq (.quiet [oL 75 1,o 76 (.nilc (.t 75)),oF 77 6 76,oL 78 77,o 79 (.len .map (.t 78)),oL 80 1,o 81 (.nilc (.t 80)),oF 82 7 81,oL 83 82,o 84 (.bin .lss (.t 79) (.t 83))]) (.cond (.t 84) (.feet [0,1,3,7,0,0,63] [oL 85 1,o 86 (.nilc (.t 85)),oF 87 6 86,oL 88 87,o 89 (.load true 9 (.t 6)),oL 90 9,oz (.raw (.mapUpdate 115 (.tmp 88) (.tmp 89) (.tmp 90)))]) (.skip))) d_
def bo:SF:=⟨92,[.tm 4],sQ [oK 4 0] (sQ [oL 11 1,o 12 (.nilc (.t 11)),oF 13 2 12,oL 14 13,oM 15 0,o 16 (.ixs 3 (.t 14) (.t 15)),o 17 (.load true 3 (.t 16)),o 5 (.alloc [.int .i64 0,.int .i64 0,.int .i64 0]),oz (.store 3 (.t 5) (.t 17))] (.seq (sQ [oF 18 0 5,oL 19 18,o 20 (.bin .neq (.t 19) (qI (-1)))] (.cond (.t 20) (sQ [oL 21 1,o 22 (.nilc (.t 21)),oF 23 8 22,oL 24 23,oA 25 24,o 26 (.nilc (.t 21)),oF 27 8 26,oz (.store 1 (.t 27) (.t 25))] (sQ [oL 28 1,oF 29 0 5,oL 30 29,o 31 (.call N.aG [.t 28,.t 30]),oM 4 31] (.ret))) (.skip))) (sQ [oL 32 1,oM 33 0,o 34 (.call N.aH [.t 32,.t 33]),o 6 (.alloc [.int .i64 0,.int .i64 0,.int .i64 0,.int .i64 0,.int .i64 0,.int .i64 0,.int .i64 0,.int .i64 0,.int .i64 0]),oz (.store 9 (.t 6) (.t 34))] (.seq (.seq (.quiet [oL 36 1,o 37 (.nilc (.t 36)),oF 38 6 37,oL 39 38,o 40 (.load true 9 (.t 6)),o 41 (.raw (.lookup 115 (.tmp 39) (.tmp 40) true)),oM 35 41,o 42 (.ext (.t 35) 0),o 43 (.ext (.t 35) 1),oM 7 42,oM 8 43]) (sQ [oM 44 8] (.cond (.t 44) (sQ [oM 45 7,oM 4 45] (.ret)) (.skip)))) (sQ [oL 46 1,o 47 (.nilc (.t 46)),oF 48 8 47,oL 49 48,oA 50 49,o 51 (.nilc (.t 46)),oF 52 8 51,oz (.store 1 (.t 52) (.t 50))] (sQ [o 9 (.alloc [.int .i64 0]),oz (.store 1 (.t 9) (qI 0))] (.seq (.seq (.feet [0,0,2,6,14,0,62,126,255] [oL 53 1,oL 54 1,o 55 (.nilc (.t 54)),oF 56 4 55,oL 57 56,oM 58 0,oX 59 57 58,oL 60 59,o 61 (.call N.ax [.t 53,.t 60])]) (.blk 0 (.rng 92 (.t 61) [62] dZ bX))) bY)))))))⟩
def eF:SC:=.ops [oA 39 23,oM 23 39]
def cp:SC:=sQ [o 24 (.bin .lss (.t 23) (.t 22))] (.seq (.cond (.t 24) (.skip) (.exit 0)) (.seq (.blk 1 (sQ [oX 25 21 23,oL 26 25,oM 7 26] (sQ [oL 27 2,o 28 (.nilc (.t 27)),oF 29 3 28,oL 30 29,oM 31 7,oX 32 30 31,oL 33 32,o 34 (.bin .eql (.t 33) (qI (-1)))] (.cond (.t 34) (.ops [oM 35 5,oM 36 7,o 37 (.bin .shl (.k (.int .u64 1)) (.t 36)),o 38 (.bin .or (.t 35) (.t 37)),oM 5 38]) (.skip))))) eF))
def eE:SC:=.skip
def bB:SC:=.blk 3 (.feet [0,0,2,6,14,30,0,126,254,510,0,1024,3072,7168,15360,0,0,65536,196608,458752,1047552,2097150,4194302,0,8388608,25165824,58720256,0,260046848,528482304,1073741822,2147483646,4294967295,8589934591] [oL 44 8,oL 45 2,o 46 (.nilc (.t 45)),oF 47 0 46,oF 48 1 47,oL 49 48,oL 50 3,o 51 (.ixs 3 (.t 49) (.t 50)),oF 52 2 51,oL 53 52,oL 54 2,o 55 (.nilc (.t 54)),oF 56 0 55,oF 57 1 56,oL 58 57,oL 59 3,oL 60 2,o 61 (.nilc (.t 60)),oF 62 3 61,oL 63 62,o 64 (.call N.aR [.t 58,.t 59,.t 63]),oX 65 53 64,oL 66 65,oL 67 2,o 68 (.nilc (.t 67)),oF 69 3 68,oL 70 69,oL 71 3,oX 72 70 71,oL 73 72,oX 74 66 73,oL 75 74,o 76 (.bin .add (.t 44) (.t 75)),oz (.store 1 (.t 8) (.t 76))])
def eG:SC:=sQ [oL 77 8,oM 4 77] (.ret)
def eH:SC:=sQ [o 8 (.alloc [.int .i64 0]),oz (.store 1 (.t 8) (qI 0))] (.seq (sQ [oL 40 2,oM 41 5,o 42 (.call N.ax [.t 40,.t 41])] (.blk 2 (.rng 78 (.t 42) [43] eE bB))) eG)
def fu:SC:=sQ [o 5 (.mv (.k (.int .u64 0)))] (.seq (.seq (.feet [0,1,3,7,15,0,63,127,255,511,0,1024,4095,8191,0] [oL 9 2,o 10 (.nilc (.t 9)),oF 11 0 10,oF 12 1 11,oL 13 12,oL 14 3,o 15 (.ixs 3 (.t 13) (.t 14)),oF 16 1 15,oL 17 16,o 18 (.call N.ah [.t 17]),oL 19 3,o 20 (.bsl 1 1 [.int .i64 0] [0] [.t 19]),o 21 (.app 1 8 (.t 18) (.t 20)),oN 22 21,oK 23 0]) (.blk 0 (.loop cp))) eH)
def du:SF:=⟨78,[.tm 4],sQ [o 2 (.box (.t 0)),o 3 (.box (.t 1)),oK 4 0] fu⟩
def eg:SC:=.ops [oA 36 9,oM 9 36]
def ef:SC:=sQ [o 10 (.bin .lss (.t 9) (qI 8))] (.seq (.cond (.t 10) (.skip) (.exit 0)) (.seq (.blk 1 (sQ [oM 11 9,oM 6 11] (sQ [oM 12 6,oF 13 1 5,o 14 (.ixa 8 1 (.t 13) (.t 12)),oz (.store 1 (.t 14) (qI (-1)))] (sQ [oM 15 0,o 16 (.nilc (.t 15)),oF 17 5 16,oL 18 17,oM 19 1,oX 20 18 19,oL 21 20,oM 22 6,o 23 (.bin .shr (.t 21) (.t 22)),o 24 (.bin .and (.t 23) (.k (.int .u64 1))),o 25 (.bin .eql (.t 24) (.k (.int .u64 1)))] (.cond (.t 25) (.ops [oM 26 6,oM 27 0,o 28 (.nilc (.t 27)),oF 29 3 28,oL 30 29,oM 31 6,oX 32 30 31,oL 33 32,oF 34 1 5,o 35 (.ixa 8 1 (.t 34) (.t 26)),oz (.store 1 (.t 35) (.t 33))]) (.skip)))))) eg))
def eh:SC:=sQ [o 37 (.load true 9 (.t 5)),oz (.store 9 (.t 4) (.t 37))] (.ret)
def eI:SC:=sQ [oM 7 1,o 8 (.build [.int .i64 0,.int .i64 0,.int .i64 0,.int .i64 0,.int .i64 0,.int .i64 0,.int .i64 0,.int .i64 0,.int .i64 0] [(0,1)] [.t 7]),o 5 (.alloc [.int .i64 0,.int .i64 0,.int .i64 0,.int .i64 0,.int .i64 0,.int .i64 0,.int .i64 0,.int .i64 0,.int .i64 0]),oz (.store 9 (.t 5) (.t 8))] (.seq (sQ [oK 9 0] (.blk 0 (.loop ef))) eh)
def c8:SF:=⟨38,[.cell true 9 4],sQ [o 4 (.alloc [.int .i64 0,.int .i64 0,.int .i64 0,.int .i64 0,.int .i64 0,.int .i64 0,.int .i64 0,.int .i64 0,.int .i64 0])] eI⟩
def dY:SC:=sQ [o 5 (.mkf N.ay [] [.t 2,.t 3]),oM 4 5] (.ret)
def cH:SF:=⟨6,[.tm 4],sQ [o 2 (.box (.t 0)),o 3 (.box (.t 1)),o 4 (.mv (.k (.nilf)))] dY⟩
def ej:SC:=sQ [oM 75 12,oM 76 6,o 77 (.bin .leq (.t 75) (.t 76))] (.cond (.t 77) (.ops [oM 78 10,o 79 (.bin .mul (.t 78) (qI 10000)),oM 80 1,oM 81 12,oX 82 80 81,oL 83 82,o 84 (.bin .add (.t 79) (.t 83)),oM 10 84]) (.skip))
def gU:SC:=.ops [oM 61 12,o 62 (.bin .sub (.t 61) (qI 1)),oM 12 62]
def cT:SC:=.seq (sQ [oM 56 12,oM 57 6,o 58 (.bin .sub (.t 57) (qI 1)),o 59 (.mx (qI 0) (.t 58)),o 60 (.bin .geq (.t 56) (.t 59))] (.cond (.t 60) (.skip) (.exit 2))) (.seq (.blk 3 (sQ [oM 63 11,o 64 (.bin .mul (.t 63) (qI 10000)),oM 11 64] (.seq (sQ [oM 65 12,oM 66 8,oN 67 66,o 68 (.bin .lss (.t 65) (.t 67))] (.cond (.t 68) (.ops [oM 69 11,oM 70 8,oM 71 12,oX 72 70 71,oL 73 72,o 74 (.bin .add (.t 69) (.t 73)),oM 11 74]) (.skip))) ej))) gU)
def ei:SC:=.seq (sQ [oM 92 13,oM 93 14,o 94 (.bin .lss (.t 92) (.t 93))] (.cond (.t 94) (.skip) (.exit 4))) (.blk 5 (sQ [oM 95 13,oM 96 14,o 97 (.bin .add (.t 95) (.t 96)),oA 98 97,o 99 (.bin .quo (.t 98) (qI 2)),oM 15 99] (sQ [oM 100 1,oM 101 15,o 102 (.bsl 1 1 [.int .i64 0] [0] [.t 101]),o 103 (.call N.an [.t 100,.t 102]),oM 104 8,o 105 (.call N.ae [.t 103,.t 104]),o 106 (.bin .leq (.t 105) (qI 0))] (.cond (.t 106) (.ops [oM 107 15,oM 13 107]) (.ops [oM 108 15,o 109 (.bin .sub (.t 108) (qI 1)),oM 14 109])))))
def gV:SC:=sQ [oM 110 7,oM 111 9,oM 112 13,oX 113 110 111,oz (.store 1 (.t 113) (.t 112))] (.ops [oM 114 8,oM 115 1,oM 116 13,o 117 (.bsl 1 1 [.int .i64 0] [0] [.t 116]),o 118 (.call N.am [.t 117]),o 119 (.call N.an [.t 115,.t 118]),o 120 (.call N.aD [.t 114,.t 119]),oM 8 120])
def lP:SC:=.seq (.quiet [oM 85 11,oM 86 10,oA 87 86,o 88 (.bin .quo (.t 85) (.t 87)),oM 89 11,oM 90 10,o 91 (.bin .quo (.t 89) (.t 90)),oM 13 88,oM 14 91]) (.seq (.blk 4 (.loop ei)) gV)
def lQ:SC:=.ops [oM 44 9,o 45 (.bin .sub (.t 44) (qI 1)),oM 9 45]
def lO:SC:=.seq (sQ [oM 42 9,o 43 (.bin .geq (.t 42) (qI 0))] (.cond (.t 43) (.skip) (.exit 0))) (.seq (.blk 1 (sQ [oM 46 0,oM 47 9,oX 48 46 47,oL 49 48,o 50 (.bsl 1 1 [.int .i64 0] [0] [.t 49]),oM 51 8,o 52 (.app 1 8 (.t 50) (.t 51)),o 53 (.call N.am [.t 52]),oM 8 53] (sQ [oK 10 0,oK 11 0] (.seq (sQ [oM 54 6,oA 55 54,oM 12 55] (.blk 2 (.loop cT))) lP)))) lQ)
def lR:SC:=sQ [oM 121 7,o 122 (.call N.am [.t 121]),oM 123 8,oM 4 122,oM 5 123] (.ret)
def gT:SF:=⟨124,[.tm 4,.tm 5],sQ [o 4 (.mv (.k (.nils))),o 5 (.mv (.k (.nils)))] (sQ [oM 16 1,oN 17 16,o 18 (.bin .sub (.t 17) (qI 1)),oM 6 18] (.seq (sQ [oM 19 0,oN 20 19,oM 21 6,o 22 (.bin .leq (.t 20) (.t 21))] (.cond (.t 22) (sQ [o 23 (.bsl 1 0 [.int .i64 0] [] []),oM 24 0,o 25 (.app 1 8 (.t 23) (.t 24)),o 4 (.mv (.k (.nils))),oM 5 25] (.ret)) (.skip))) (sQ [oM 26 0,oN 27 26,oM 28 6,o 29 (.bin .sub (.t 27) (.t 28)),o 30 (.mks 1 8 [.int .i64 0] (.t 29) (.t 29)),oM 7 30] (sQ [o 31 (.bsl 1 0 [.int .i64 0] [] []),oM 32 0,oM 33 0,oN 34 33,oM 35 6,o 36 (.bin .sub (.t 34) (.t 35)),o 37 (.slc 1 (.t 32) [.t 36] []),o 38 (.app 1 8 (.t 31) (.t 37)),oM 8 38] (.seq (sQ [oM 39 7,oN 40 39,o 41 (.bin .sub (.t 40) (qI 1)),oM 9 41] (.blk 0 (.loop lO))) lR)))))⟩
def pL:SC:=.seq (sQ [oM 3 0,oN 4 3,o 5 (.bin .gtr (.t 4) (qI 0)),oM 6 5,og 7 6 true (.mv (.t 0)),og 8 6 true (.mv (.t 0)),og 9 6 true (.len .slice (.t 8)),og 10 6 true (.bin .sub (.t 9) (qI 1)),og 11 6 true (.ixs 1 (.t 7) (.t 10)),og 12 6 true (.load false 1 (.t 11)),og 13 6 true (.bin .eql (.t 12) (qI 0)),o 14 (.pick (.t 6) (.t 13) (.k (.bool false)))] (.cond (.t 14) (.skip) (.exit 0))) (.blk 1 (.ops [oM 15 0,oM 16 0,oN 17 16,o 18 (.bin .sub (.t 17) (qI 1)),o 19 (.slc 1 (.t 15) [] [.t 18]),oM 0 19]))
def gS:SC:=sQ [oM 20 0,oM 2 20] (.ret)
def pK:SF:=⟨21,[.tm 2],sQ [o 2 (.mv (.k (.nils)))] (.seq (.blk 0 (.loop pL)) gS)⟩
def nk:SC:=.seq (sQ [oM 13 5,o 14 (.bin .geq (.t 13) (qI 0))] (.cond (.t 14) (.skip) (.exit 0))) (.seq (.blk 1 (.ops [oM 17 4,o 18 (.bin .mul (qI 10000) (.t 17)),oM 19 0,oM 20 5,oX 21 19 20,oL 22 21,o 23 (.bin .add (.t 18) (.t 22)),oM 4 23])) (.ops [oM 15 5,o 16 (.bin .sub (.t 15) (qI 1)),oM 5 16]))
def np:SC:=sQ [oM 24 4,oM 2 24,o 3 (.mv (.k (.bool true)))] (.ret)
def mC:SF:=⟨25,[.tm 2,.tm 3],sQ [oK 2 0,o 3 (.mv (.k (.bool false)))] (.seq (sQ [oM 6 0,o 7 (.call N.aa [.k (.int .i64 4611686018427387903)]),o 8 (.call N.ae [.t 6,.t 7]),o 9 (.bin .gtr (.t 8) (qI 0))] (.cond (.t 9) (sQ [oK 2 0,o 3 (.mv (.k (.bool false)))] (.ret)) (.skip))) (sQ [oK 4 0] (.seq (sQ [oM 10 0,oN 11 10,o 12 (.bin .sub (.t 11) (qI 1)),oM 5 12] (.blk 0 (.loop nk))) np)))⟩
def gv:SC:=sQ [o 17 (.bin .lss (.t 16) (.t 15))] (.seq (.cond (.t 17) (.skip) (.exit 0)) (.seq (.blk 1 (sQ [oX 18 14 16,oL 19 18,oM 7 19] (.ops [oM 20 5,oF 21 2 2,oL 22 21,oM 23 7,oX 24 22 23,oL 25 24,o 26 (.bin .mul (.t 20) (.t 25)),oM 5 26]))) (.ops [oA 27 16,oM 16 27])))
def gu:SC:=.ops [oM 9 36]
def dw:SC:=sQ [o 43 (.bin .lss (.t 42) (.t 41))] (.seq (.cond (.t 43) (.skip) (.exit 4)) (.seq (.blk 5 (sQ [oX 44 40 42,oL 45 44,oM 12 45] (.seq (sQ [oM 46 12,o 47 (.bin .lss (.t 46) (qI 0)),oM 48 47,og 49 48 false (.mv (.t 12)),og 50 48 false (.mv (.t 10)),og 51 48 false (.bin .gtr (.t 49) (.t 50)),o 52 (.pick (.t 48) (.k (.bool true)) (.t 51))] (.cond (.t 52) (sQ [oz (.store 1 (.t 4) (.k (.bool false)))] (.ret)) (.skip))) (.ops [oM 53 10,oM 54 12,o 55 (.bin .sub (.t 53) (.t 54)),oM 10 55])))) (.ops [oA 56 42,oM 42 56])))
def bN:SC:=sQ [oM 57 9,oN 58 57,oF 59 0 3,oL 60 59,o 61 (.bin .neq (.t 58) (.t 60)),oM 62 61,og 63 62 false (.mv (.t 10)),og 64 62 false (.bin .neq (.t 63) (qI 0)),o 65 (.pick (.t 62) (.k (.bool true)) (.t 64))] (.cond (.t 65) (sQ [oz (.store 1 (.t 4) (.k (.bool false)))] (.ret)) (.skip))
def gz:SC:=.blk 3 (sQ [oF 37 0 2,oF 38 0 37,oL 39 38,oM 10 39] (.seq (sQ [oM 40 9,oN 41 40,oK 42 0] (.blk 4 (.loop dw))) bN))
def gA:SC:=sQ [oz (.store 1 (.t 4) (.k (.bool true)))] (.ret)
def gB:SC:=.seq (sQ [oF 28 2 3,oL 29 28,oN 30 29,oM 31 5,o 32 (.bin .neq (.t 30) (.t 31))] (.cond (.t 32) (sQ [oz (.store 1 (.t 4) (.k (.bool false)))] (.ret)) (.skip))) (.seq (sQ [o 33 (.load true 3 (.t 3)),o 34 (.call N.aK [.t 33])] (.blk 2 (.rng 66 (.t 34) [35,36] gu gz))) gA)
def gR:SC:=sQ [oK 5 1] (.seq (sQ [oF 13 1 3,oL 14 13,oN 15 14,oK 16 0] (.blk 0 (.loop gv))) gB)
def eK:SF:=⟨66,[.cell false 1 4],sQ [o 2 (.box (.t 0)),o 3 (.box (.t 1)),o 4 (.alloc [.bool false])] gR⟩
def oS:SC:=sQ [o 19 (.bin .lss (.t 18) (.t 17))] (.seq (.cond (.t 19) (.skip) (.exit 2)) (.seq (.blk 3 (sQ [oM 20 18,oX 21 16 18,oL 22 21,oM 6 20,oM 7 22] (sQ [oM 23 5,oM 24 6,o 25 (.bin .shr (.t 23) (.t 24)),o 26 (.bin .and (.t 25) (.k (.int .u64 1))),o 27 (.bin .eql (.t 26) (.k (.int .u64 0))),oM 28 27,og 29 28 true (.mv (.t 7)),og 30 28 true (.mv (.t 5)),og 31 28 true (.bin .andNot (.t 29) (.t 30)),og 32 28 true (.bin .eql (.t 31) (.k (.int .u64 0))),o 33 (.pick (.t 28) (.t 32) (.k (.bool false)))] (.cond (.t 33) (sQ [oM 34 4,oM 35 6,o 36 (.bsl 1 1 [.int .i64 0] [0] [.t 35]),o 37 (.app 1 8 (.t 34) (.t 36)),oM 4 37] (sQ [oM 38 5,oM 39 6,o 40 (.bin .shl (.k (.int .u64 1)) (.t 39)),o 41 (.bin .or (.t 38) (.t 40)),oM 5 41] (.exit 1))) (.skip))))) (.ops [oA 42 18,oM 18 42])))
def oY:SC:=sQ [o 2 (.mv (.k (.nils))),o 3 (.mv (.k (.bool false)))] (.ret)
def oT:SC:=.seq (sQ [oM 11 4,oN 12 11,oM 13 0,oN 14 13,o 15 (.bin .lss (.t 12) (.t 14))] (.cond (.t 15) (.skip) (.exit 0))) (.blk 1 (.seq (sQ [oM 16 0,oN 17 16,oK 18 0] (.blk 2 (.loop oS))) oY))
def oZ:SC:=sQ [oM 43 4,oM 2 43,o 3 (.mv (.k (.bool true)))] (.ret)
def nZ:SF:=⟨44,[.tm 2,.tm 3],sQ [o 2 (.mv (.k (.nils))),o 3 (.mv (.k (.bool false)))] (sQ [oM 8 0,oN 9 8,o 10 (.mks 1 8 [.int .i64 0] (qI 0) (.t 9)),oM 4 10,o 5 (.mv (.k (.int .u64 0)))] (.seq (.skip) (.seq (.blk 0 (.loop oT)) oZ)))⟩
def pY:SC:=sQ [o 17 (.bin .lss (.t 16) (.t 15))] (.seq (.cond (.t 17) (.skip) (.exit 0)) (.seq (.blk 1 (sQ [oX 18 14 16,oL 19 18,oM 9 19] (.quiet [oM 20 7,oM 21 0,oM 22 9,o 23 (.ixs 3 (.t 21) (.t 22)),oF 24 0 23,oL 25 24,o 26 (.bin .mul (.t 20) (.t 25)),oM 27 2,oM 28 9,oX 29 27 28,oL 30 29,o 31 (.bin .add (.t 26) (.t 30)),oM 7 31]))) (.ops [oA 32 16,oM 16 32])))
def pZ:SC:=sQ [oM 33 7,oM 6 33] (.ret)
def pX:SF:=⟨34,[.tm 6],sQ [oK 6 0] (sQ [oK 7 0] (.seq (sQ [oM 10 0,oM 11 1,o 12 (.ixs 3 (.t 10) (.t 11)),oF 13 1 12,oL 14 13,oN 15 14,oK 16 0] (.blk 0 (.loop pY))) pZ))⟩
def dl:SC:=.ops [oA 39 20,oM 20 39]
def bI:SC:=sQ [o 21 (.bin .lss (.t 20) (.t 19))] (.seq (.cond (.t 21) (.skip) (.exit 0)) (.seq (.blk 1 (sQ [oM 22 20,o 23 (.ixs 3 (.t 18) (.t 20)),o 24 (.load true 3 (.t 23)),o 7 (.alloc [.int .i64 0,.nils,.nils]),oM 6 22,oz (.store 3 (.t 7) (.t 24))] (sQ [oL 25 2,oM 26 6,o 27 (.bin .shr (.t 25) (.t 26)),o 28 (.bin .and (.t 27) (.k (.int .u64 1))),o 29 (.bin .eql (.t 28) (.k (.int .u64 1)))] (.cond (.t 29) (.feet [0,0,2,7,0,0,32,96,255,511,1023] [oL 30 4,oM 31 6,o 32 (.bsl 1 1 [.int .i64 0] [0] [.t 31]),o 33 (.app 1 8 (.t 30) (.t 32)),oM 34 5,oF 35 0 7,oL 36 35,o 37 (.bsl 1 1 [.int .i64 0] [0] [.t 36]),o 38 (.app 1 8 (.t 34) (.t 37)),oz (.store 1 (.t 4) (.t 33)),oM 5 38]) (.skip))))) dl))
def dj:SC:=sQ [oM 8 42] (.ops [oM 9 43])
def bJ:SC:=sQ [o 47 (.bin .lss (.t 46) (.t 45))] (.seq (.cond (.t 47) (.skip) (.exit 4)) (.seq (.blk 5 (sQ [oM 48 46,oX 49 44 46,oL 50 49,oM 10 48,oM 11 50] (.feet [0,1,3,7,0,0,0,96,224,511,1023] [oL 51 1,o 52 (.nilc (.t 51)),oF 53 3 52,oL 54 53,oM 55 11,oM 56 9,oM 57 10,oX 58 56 57,oL 59 58,oX 60 54 55,oz (.store 1 (.t 60) (.t 59))]))) (.ops [oA 61 46,oM 46 61])))
def dm:SC:=sQ [oL 62 3,oM 63 8,o 64 (.dyn (.t 62) [.t 63]),o 65 (.not (.t 64))] (.cond (.t 65) (.exit 2) (.skip))
def dk:SC:=.blk 3 (.seq (sQ [oL 44 4,oN 45 44,oK 46 0] (.blk 4 (.loop bJ))) dm)
def bK:SC:=sQ [o 69 (.bin .lss (.t 68) (.t 67))] (.seq (.cond (.t 69) (.skip) (.exit 6)) (.seq (.blk 7 (sQ [oX 70 66 68,oL 71 70,oM 13 71] (.ops [oL 72 1,o 73 (.nilc (.t 72)),oF 74 3 73,oL 75 74,oM 76 13,oX 77 75 76,oz (.store 1 (.t 77) (qI (-1)))]))) (.ops [oA 78 68,oM 68 78])))
def dq:SC:=sQ [oL 66 4,oN 67 66,oK 68 0] (.blk 6 (.loop bK))
def dt:SC:=.seq (sQ [oM 40 5,o 41 (.call N.bk [.t 40])] (.blk 2 (.rng 79 (.t 41) [42,43] dj dk))) dq
def dC:SC:=sQ [o 4 (.alloc [.nils]),o 5 (.mv (.k (.nils)))] (.seq (sQ [oL 14 1,o 15 (.nilc (.t 14)),oF 16 0 15,oF 17 1 16,oL 18 17,oN 19 18,oK 20 0] (.blk 0 (.loop bI))) dt)
def aN:SF:=⟨79,[],sQ [o 3 (.box (.t 0))] dC⟩
def g_:SC:=sQ [o 3 (.mkf N.aQ [] [.t 1]),oM 2 3] (.ret)
def eP:SF:=⟨4,[.tm 2],sQ [o 1 (.box (.t 0)),o 2 (.mv (.k (.nilf)))] g_⟩
def sP:SC:=sQ [o 3 (.mkf N.ak [] [.t 1]),oM 2 3] (.ret)
def rH:SF:=⟨4,[.tm 2],sQ [o 1 (.box (.t 0)),o 2 (.mv (.k (.nilf)))] sP⟩
def bE:SC:=.seq (.seq (.quiet [oM 18 5,o 19 (.bin .geq (.t 18) (qI 0)),oM 20 19,og 21 20 true (.mv (.t 3)),og 22 20 true (.mv (.t 5)),og 23 20 true (.ixs 1 (.t 21) (.t 22)),og 24 20 true (.load false 1 (.t 23)),og 25 20 true (.load false 1 (.t 1)),og 26 20 true (.mv (.t 5)),og 27 20 true (.ixs 1 (.t 25) (.t 26)),og 28 20 true (.load false 1 (.t 27)),og 29 20 true (.bin .sub (.t 28) (qI 1)),og 30 20 true (.bin .eql (.t 24) (.t 29)),o 31 (.pick (.t 20) (.t 30) (.k (.bool false)))]) (.cond (.t 31) (.skip) (.exit 2))) (.blk 3 (sQ [oM 32 3,oM 33 5,oX 34 32 33,oz (.store 1 (.t 34) (qI 0))] (.ops [oM 35 5,o 36 (.bin .sub (.t 35) (qI 1)),oM 5 36])))
def bF:SC:=.seq (sQ [oM 37 5,o 38 (.bin .lss (.t 37) (qI 0))] (.cond (.t 38) (.ret) (.skip))) (.ops [oM 39 3,oM 40 5,oX 41 39 40,oL 42 41,oA 43 42,oX 44 39 40,oz (.store 1 (.t 44) (.t 43))])
def cK:SC:=.ops [oM 13 4,oA 14 13,oM 4 14]
def fB:SC:=.seq (sQ [oM 9 0,oM 10 4,oM 11 3,o 12 (.dyn (.t 9) [.t 10,.t 11])] (.cond (.t 12) (.skip) (.exit 0))) (.seq (.blk 1 (sQ [oL 15 1,oN 16 15,o 17 (.bin .sub (.t 16) (qI 1)),oM 5 17] (.seq (.blk 2 (.loop bE)) bF))) cK)
def aO:SF:=⟨45,[],sQ [oL 6 1,oN 7 6,o 8 (.mks 1 8 [.int .i64 0] (.t 7) (.t 7)),oM 3 8] (sQ [oK 4 0] (.blk 0 (.loop fB)))⟩
def oR:SC:=sQ [o 9 (.bin .lss (.t 8) (.t 7))] (.seq (.cond (.t 9) (.skip) (.exit 0)) (.seq (.blk 1 (sQ [oM 10 8,oX 11 6 8,oL 12 11,oM 3 10,oM 4 12] (sQ [oM 13 0,oM 14 3,oM 15 4,o 16 (.dyn (.t 13) [.t 14,.t 15]),o 17 (.not (.t 16))] (.cond (.t 17) (.ret) (.skip))))) (.ops [oA 18 8,oM 8 18])))
def fc:SF:=⟨19,[],sQ [oF 5 2 1,oL 6 5,oN 7 6,oK 8 0] (.blk 0 (.loop oR))⟩
theorem ph:nFn C0 N.bm=some eJ:=by kernel_rfl
theorem rG:nFn C0 N.bf=some gY:=by kernel_rfl
theorem pz (d:Nat)(xs:List AV)(g:G):ax C0 d N.bf xs g=aA (I C0) d g N.bf xs:=by kernel_rfl
theorem uV:nFn C0 N.bi=some kM:=by kernel_rfl
theorem sF (d:Nat)(xs:List AV)(g:G):ax C0 d N.bi xs g=aA (I C0) d g N.bi xs:=by kernel_rfl
theorem rF:nFn C0 N.aT=some gN:=by kernel_rfl
theorem py (d:Nat)(xs:List AV)(g:G):ax C0 d N.aT xs g=aA (I C0) d g N.aT xs:=by kernel_rfl
theorem sK:nFn C0 N.bg=some iG:=by kernel_rfl
theorem qO (d:Nat)(xs:List AV)(g:G):ax C0 d N.bg xs g=orF ((I C0).call d N.bg xs g):=by kernel_rfl
theorem sJ:nFn C0 N.ap=some iC:=by kernel_rfl
theorem qN (d:Nat)(xs:List AV)(g:G):ax C0 d N.ap xs g=aA (I C0) d g N.ap xs:=by kernel_rfl
theorem BC:nFn C0 N.aA=some rI:=by kernel_rfl
theorem yd (d:Nat)(xs:List AV)(g:G):ax C0 d N.aA xs g=aA (I C0) d g N.aA xs:=by kernel_rfl
theorem wH:nFn C0 N.a_=some mz:=by kernel_rfl
theorem tR (d:Nat)(xs:List AV)(g:G):ax C0 d N.a_ xs g=aA (I C0) d g N.a_ xs:=by kernel_rfl
theorem zX:nFn C0 N.aL=some pI:=by kernel_rfl
theorem wg (d:Nat)(xs:List AV)(g:G):ax C0 d N.aL xs g=aA (I C0) d g N.aL xs:=by kernel_rfl
theorem ks:nFn C0 N.aE=some cI:=by kernel_rfl
theorem jB (t:T)(g:G)(xs:List Od):SO.foot C0 t g (.call N.aE xs)=ac ((fe t xs).flatMap (aw g.h aD)):=by kernel_rfl
theorem jr (d:Nat)(xs:List AV)(g:G):ax C0 d N.aE xs g=aA (I C0) d g N.aE xs:=by kernel_rfl
theorem ym:nFn C0 N.aO=some oa:=by kernel_rfl
theorem uR (d:Nat)(xs:List AV)(g:G):ax C0 d N.aO xs g=aA (I C0) d g N.aO xs:=by kernel_rfl
theorem pE:nFn C0 N.bh=some fG:=by kernel_rfl
theorem nS (d:Nat)(xs:List AV)(g:G):ax C0 d N.bh xs g=aA (I C0) d g N.bh xs:=by kernel_rfl
theorem z0:nFn C0 N.aw=some pQ:=by kernel_rfl
theorem wR (t:T)(g:G)(xs:List Od):SO.foot C0 t g (.call N.aw xs)=ac ((fe t xs).flatMap (aw g.h aD)):=by kernel_rfl
theorem wm (d:Nat)(xs:List AV)(g:G):ax C0 d N.aw xs g=aA (I C0) d g N.aw xs:=by kernel_rfl
theorem zW:nFn C0 N.aX=some pH:=by kernel_rfl
theorem we (d:Nat)(xs:List AV)(g:G):ax C0 d N.aX xs g=aA (I C0) d g N.aX xs:=by kernel_rfl
theorem ku:nFn C0 N.aP=some cJ:=by kernel_rfl
theorem jt (d:Nat)(xs:List AV)(g:G):ax C0 d N.aP xs g=aA (I C0) d g N.aP xs:=by kernel_rfl
theorem pC:nFn C0 N.aY=some fD:=by kernel_rfl
theorem nQ (d:Nat)(xs:List AV)(g:G):ax C0 d N.aY xs g=aA (I C0) d g N.aY xs:=by kernel_rfl
theorem nY:nFn C0 N.aU=some dW:=by kernel_rfl
theorem mh (d:Nat)(xs:List AV)(g:G):ax C0 d N.aU xs g=orF ((I C0).call d N.aU xs g):=by kernel_rfl
theorem m7:nFn C0 N.aV=some dF:=by kernel_rfl
theorem lF (d:Nat)(xs:List AV)(g:G):ax C0 d N.aV xs g=orF ((I C0).call d N.aV xs g):=by kernel_rfl
theorem wM:nFn C0 N.aF=some mE:=by kernel_rfl
theorem ub (t:T)(g:G)(xs:List Od):SO.foot C0 t g (.call N.aF xs)=ac ((fe t xs).flatMap (aw g.h aD)):=by kernel_rfl
theorem tW (d:Nat)(xs:List AV)(g:G):ax C0 d N.aF xs g=aA (I C0) d g N.aF xs:=by kernel_rfl
theorem wN:nFn C0 N.aS=some mF:=by kernel_rfl
theorem uc (t:T)(g:G)(xs:List Od):SO.foot C0 t g (.call N.aS xs)=ac ((fe t xs).flatMap (aw g.h aD)):=by kernel_rfl
theorem tX (d:Nat)(xs:List AV)(g:G):ax C0 d N.aS xs g=aA (I C0) d g N.aS xs:=by kernel_rfl
theorem yk:nFn C0 N.aM=some n7:=by kernel_rfl
theorem uP (d:Nat)(xs:List AV)(g:G):ax C0 d N.aM xs g=aA (I C0) d g N.aM xs:=by kernel_rfl
theorem t9:nFn C0 N.ae=some jv:=by kernel_rfl
theorem rL (t:T)(g:G)(xs:List Od):SO.foot C0 t g (.call N.ae xs)=ac ((fe t xs).flatMap (aw g.h aD)):=by kernel_rfl
theorem rA (d:Nat)(xs:List AV)(g:G):ax C0 d N.ae xs g=aA (I C0) d g N.ae xs:=by kernel_rfl
theorem zZ:nFn C0 N.aC=some pM:=by kernel_rfl
theorem wQ (t:T)(g:G)(xs:List Od):SO.foot C0 t g (.call N.aC xs)=ac ((fe t xs).flatMap (aw g.h aD)):=by kernel_rfl
theorem wk (d:Nat)(xs:List AV)(g:G):ax C0 d N.aC xs g=aA (I C0) d g N.aC xs:=by kernel_rfl
theorem uT:nFn C0 N.aa=some kC:=by kernel_rfl
theorem sT (t:T)(g:G)(xs:List Od):SO.foot C0 t g (.call N.aa xs)=ac ((fe t xs).flatMap (aw g.h aD)):=by kernel_rfl
theorem sD (d:Nat)(xs:List AV)(g:G):ax C0 d N.aa xs g=aA (I C0) d g N.aa xs:=by kernel_rfl
theorem wJ:nFn C0 N.an=some mB:=by kernel_rfl
theorem tT (d:Nat)(xs:List AV)(g:G):ax C0 d N.an xs g=aA (I C0) d g N.an xs:=by kernel_rfl
theorem qV:nFn C0 N.ac=some gW:=by kernel_rfl
theorem uX (t:T)(g:G)(xs:List Od):SO.foot C0 t g (.call N.ac xs)=ac ((fe t xs).flatMap (aw g.h aD)):=by kernel_rfl
theorem oQ (d:Nat)(xs:List AV)(g:G):ax C0 d N.ac xs g=aA (I C0) d g N.ac xs:=by kernel_rfl
theorem yl:nFn C0 N.aN=some n9:=by kernel_rfl
theorem uY (t:T)(g:G)(xs:List Od):SO.foot C0 t g (.call N.aN xs)=ac ((fe t xs).flatMap (aw g.h aD)):=by kernel_rfl
theorem uQ (d:Nat)(xs:List AV)(g:G):ax C0 d N.aN xs g=aA (I C0) d g N.aN xs:=by kernel_rfl
theorem wI:nFn C0 N.aD=some mA:=by kernel_rfl
theorem tS (d:Nat)(xs:List AV)(g:G):ax C0 d N.aD xs g=aA (I C0) d g N.aD xs:=by kernel_rfl
theorem pD:nFn C0 N.bc=some fE:=by kernel_rfl
theorem nR (d:Nat)(xs:List AV)(g:G):ax C0 d N.bc xs g=aA (I C0) d g N.bc xs:=by kernel_rfl
theorem BE:nFn C0 N.ba=some rJ:=by kernel_rfl
theorem ye (d:Nat)(xs:List AV)(g:G):ax C0 d N.ba xs g=aA (I C0) d g N.ba xs:=by kernel_rfl
theorem wL:nFn C0 N.be=some mD:=by kernel_rfl
theorem tV (d:Nat)(xs:List AV)(g:G):ax C0 d N.be xs g=aA (I C0) d g N.be xs:=by kernel_rfl
theorem BA:nFn C0 N.aJ=some ky:=by kernel_rfl
theorem ya (d:Nat)(xs:List AV)(g:G):ax C0 d N.aJ xs g=aA (I C0) d g N.aJ xs:=by kernel_rfl
theorem m8:nFn C0 N.bj=some dG:=by kernel_rfl
theorem lG (d:Nat)(xs:List AV)(g:G):ax C0 d N.bj xs g=aA (I C0) d g N.bj xs:=by kernel_rfl
theorem nW:nFn HC N.ah=some cU:=by kernel_rfl
theorem dy (t:T)(g:G)(xs:List Od):SO.foot C0 t g (.call N.ah xs)=ac ((fe t xs).flatMap (aw g.h aD)):=by kernel_rfl
theorem mU (d:Nat)(xs:List AV)(g:G):ax C0 d N.ah xs g=yw HC N.ah d xs g:=by kernel_rfl
theorem fq:nFn C0 N.aW=some bo:=by kernel_rfl
theorem mj:nFn C0 N.aG=some du:=by kernel_rfl
theorem ke (d:Nat)(xs:List AV)(g:G):ax C0 d N.aG xs g=orF ((I C0).call d N.aG xs g):=by kernel_rfl
theorem lI:nFn C0 N.aH=some c8:=by kernel_rfl
theorem jM (d:Nat)(xs:List AV)(g:G):ax C0 d N.aH xs g=orF ((I C0).call d N.aH xs g):=by kernel_rfl
theorem ko:nFn C0 N.ax=some cH:=by kernel_rfl
theorem jA (t:T)(g:G)(xs:List Od):SO.foot C0 t g (.call N.ax xs)=cD:=by kernel_rfl
theorem jq (d:Nat)(xs:List AV)(g:G):ax C0 d N.ax xs g=orF ((I C0).call d N.ax xs g):=by kernel_rfl
theorem uU:nFn C0 N.aB=some gT:=by kernel_rfl
theorem sE (d:Nat)(xs:List AV)(g:G):ax C0 d N.aB xs g=aA (I C0) d g N.aB xs:=by kernel_rfl
theorem zY:nFn C0 N.am=some pK:=by kernel_rfl
theorem wj (d:Nat)(xs:List AV)(g:G):ax C0 d N.am xs g=orF ((I C0).call d N.am xs g):=by kernel_rfl
theorem wK:nFn C0 N.af=some mC:=by kernel_rfl
theorem tU (d:Nat)(xs:List AV)(g:G):ax C0 d N.af xs g=aA (I C0) d g N.af xs:=by kernel_rfl
theorem pi:nFn C0 N.aI=some eK:=by kernel_rfl
theorem mT (d:Nat)(xs:List AV)(g:G):ax C0 d N.aI xs g=aA (I C0) d g N.aI xs:=by kernel_rfl
theorem yj:nFn C0 N.aZ=some nZ:=by kernel_rfl
theorem uO (d:Nat)(xs:List AV)(g:G):ax C0 d N.aZ xs g=aA (I C0) d g N.aZ xs:=by kernel_rfl
theorem z9:nFn C0 N.aR=some pX:=by kernel_rfl
theorem wS (t:T)(g:G)(xs:List Od):SO.foot C0 t g (.call N.aR xs)=ac ((fe t xs).flatMap (aw g.h aD)):=by kernel_rfl
theorem wn (d:Nat)(xs:List AV)(g:G):ax C0 d N.aR xs g=aA (I C0) d g N.aR xs:=by kernel_rfl
theorem ju:nFn C0 N.ay=some aN:=by kernel_rfl
theorem pj:nFn C0 N.bk=some eP:=by kernel_rfl
theorem mV (d:Nat)(xs:List AV)(g:G):ax C0 d N.bk xs g=orF ((I C0).call d N.bk xs g):=by kernel_rfl
theorem BB:nFn C0 N.aK=some rH:=by kernel_rfl
theorem yc (d:Nat)(xs:List AV)(g:G):ax C0 d N.aK xs g=aA (I C0) d g N.aK xs:=by kernel_rfl
theorem m9:nFn C0 N.aQ=some aO:=by kernel_rfl
theorem yh:nFn C0 N.ak=some fc:=by kernel_rfl
theorem oP {α:Type}{f:Nat->α->Nat->α->Bool}{i:Nat}{x:α}:∀{l:List α} {j:Nat},(∀b y,l[b]?=some y->f i x (j+b) y=true)->eX f i x j l=true
 | [],_,_=>rfl
 | y::r,j,h=>by simp only[eX,Bool.and_eq_true];refine ⟨by simpa using h 0 y rfl,oP λb z hb=>?_⟩;have:=h (b+1) z (by simpa using hb);rwa [show j+(b+1)=j+1+b by omega] at this
theorem uu {α:Type}{f:Nat->α->Nat->α->Bool}:∀{l:List α} {i:Nat},(∀a b x y,a<b->l[a]?=some x->l[b]?=some y->f (i+a) x (i+b) y=true)->i6 f i l=true
 | [],_,_=>rfl
 | x::r,i,h=>by
  simp only[i6,Bool.and_eq_true];refine ⟨oP λb y hb=>?_,uu λa b x' y hab ha hb=>?_⟩
  ·have:=h 0 (b+1) x y (by omega) rfl (by simpa using hb);rwa [Nat.add_zero,show i+(b+1)=i+1+b by omega] at this
  ·have:=h (a+1) (b+1) x' y (by omega) (by simpa using ha) (by simpa using hb);rwa [show i+(a+1)=i+1+a by omega,show i+(b+1)=i+1+b by omega] at this
theorem uL {pm:List Nat}:∀{l:List Foot} {i:Nat},(∀f∈l,f.lk.sr=[])->qq pm i l=true
 | [],_,_=>rfl
 | x::r,i,h=>by simp only[qq,h x (by simp)];exact uL λf hf=>h f (by simp[hf])
def JT (pm:List Nat)(ws:List Bool)(L:List (Nat×Nat))(i j:Nat):Bool:=(pm.getD j 0).testBit i || (!(ws.getD i false)&&!(ws.getD j false)) || L.contains (i,j)
def LU (pm:List Nat)(ws:List Bool)(L:List (Nat×Nat)):Bool:=(List.range ws.length).all λj=>(List.range j).all λi=>JT pm ws L i j
theorem aF {pm:List Nat}{fs:List Foot}(ws:List Bool)(L:List (Nat×Nat))(hw:All2 (λ(f:Foot) (w:Bool)=>f.lk.sr=[]/\(w=false->f.wr=[])) fs ws)(hd:LU pm ws L=true)
  (hL:∀p∈L,∀x y,fs[p.1]?=some x->fs[p.2]?=some y->bS x y=true):oe pm fs=true:=by
 unfold oe;rw[aa,if_pos]
 ·exact uL λf hf=>by obtain ⟨i,hi,rfl⟩:=List.mem_iff_getElem.1 hf;obtain ⟨w,-,h⟩:=hw.get (List.getElem?_eq_getElem hi);exact h.1
 ·refine uu λa b x y hab ha hb=>?_;simp only[Nat.zero_add];obtain ⟨wa,hwa,ka⟩:=hw.get ha;obtain ⟨wb,hwb,kb⟩:=hw.get hb;have hbl:=(List.getElem?_eq_some_iff.1 hwb).1;have:=List.all_eq_true.1 (List.all_eq_true.1 hd b (List.mem_range.2 hbl)) a (List.mem_range.2 hab);simp only[JT,Bool.or_eq_true] at this;rcases this with (h | h) | h
  ·rw[h,Bool.true_or]
  ·simp only[List.getD_eq_getElem?_getD,hwa,hwb,Option.getD_some,Bool.and_eq_true,Bool.not_eq_true'] at h;have ex:=ka.2 h.1;have ey:=kb.2 h.2;simp only[bS,jg,gD,ex,ey,Bool.and_self,Bool.or_true]
  ·rw[hL (a,b) (List.contains_iff_mem.1 h) x y ha hb,Bool.or_true]
structure Mech where
 card:Int
 frm:List Int
 noise:List Int
 out:List Int
structure Causal where
 grain:Int
 roots:List (List Int)
 nodes:List Mech
structure Node where
 card:Int
 parents:List Int
 rows:List (List Int)
structure Net where
 grain:Int
 nodes:List Node
structure Factor where
 vars:List Int
 cards:List Int
 w:List Int
instance : Rp Mech:=Rp.via λm:Mech=>(m.card,m.frm,m.noise,m.out)
instance : Rp Causal:=Rp.via λm:Causal=>(m.grain,m.roots,m.nodes)
instance : Rp Node:=Rp.via λm:Node=>(m.card,m.parents,m.rows)
instance : Rp Net:=Rp.via λm:Net=>(m.grain,m.nodes)
instance : Rp Factor:=Rp.via λm:Factor=>(m.vars,m.cards,m.w)
section
variable {P:Nat->Prop}{k:Nat}{h:H}{cs:List AV}
theorem dh {m:Node}:Rp.rp P k h m cs↔∃a b,cs=[.int .i64 m.card,a,b]/\SlR P k h m.parents a/\SlR P k h m.rows b:=by
 constructor
 ·rintro ⟨c1,c2,rfl,h1,d1,d2,rfl,⟨a,rfl,h2⟩,⟨b,rfl,h3⟩⟩;rw[bc.1 h1];exact ⟨a,b,rfl,h2,h3⟩
 ·rintro ⟨a,b,rfl,h2,h3⟩;exact ⟨[.int .i64 m.card],[a,b],rfl,bc.2 rfl,[a],[b],rfl,⟨a,rfl,h2⟩,⟨b,rfl,h3⟩⟩
theorem qm {m:Net}:Rp.rp P k h m cs↔∃a,cs=[.int .i64 m.grain,a]/\SlR P k h m.nodes a:=by
 constructor
 ·rintro ⟨c1,c2,rfl,h1,⟨a,rfl,h2⟩⟩;rw[bc.1 h1];exact ⟨a,rfl,h2⟩
 ·rintro ⟨a,rfl,h2⟩;exact ⟨[.int .i64 m.grain],[a],rfl,bc.2 rfl,⟨a,rfl,h2⟩⟩
end
theorem SlR.len {α:Type} [Rp α]{P:Nat->Prop}{k:Nat}{h:H}{l:List α}{v:AV}(r:SlR P k h l v)(g:G):eB .slice v g=.val (.int .i64 (l.length:Int)):=by obtain ⟨rows,h1,h2⟩:=r.rows;rw[jY h1,h2.len]
theorem SlR.tree {α:Type} [Rp α]{k k':Nat}{h h':H}{l:List α}{v:AV}(r:SlR NoP k h l v)(hk:k<=k'):SlR NoP k' h' l v:=by obtain ⟨w,hw,q⟩:=Rp.tree (P:=NoP) (k':=k') (h':=h') (show Rp.rp NoP k h l [v] from ⟨v,rfl,r⟩) hk;injection hw with hw;subst hw;exact q
theorem dV {α:Type} [Rp α]{P:Nat->Prop}{k:Nat}{h:H}{l:List α}{v:AV}(r:SlR P k h l v)(d:Nat)(hd:Rp.dp (List α)<=20:=by decide) :
  ∃v',Hx.snap h d aD v=some v'/\∀h',SlR NoP (max k d) h' l v':=by
 obtain ⟨v',e,w,hw,q⟩:=rm (bj l hd) (by decide) d (show One l P k h v from ⟨v,rfl,r⟩);injection hw with hw;subst hw;exact ⟨v',e,λh'=>q.tree (Nat.le_refl _)⟩
theorem SlR.all {α:Type} [Rp α]{k:Nat}{h:H}{l:List α}{v:AV}(r:SlR NoP k h l v) :
  ∃rows:List (List AV),(∀h',ah h' (Rp.sz α) v=some rows)/\rows.length=l.length/\(∀(i:Nat) (x:α),l[i]?=some x->∃row,rows[i]?=some row/\Rp.rp NoP k .nil x row)/\(0<l.length->yz v=true):=by
 have r0:=(r.tree (h':=.nil) (Nat.le_refl _));obtain ⟨rows,h1,h2⟩:=r0.rows;refine ⟨rows,λh'=>?_,h2.len.symm,λi x hi=>h2.get hi,λhl=>L6 h1 (i:=0) (by rw[<-h2.len];exact hl)⟩;rw[<-h1];exact uH λid ep off len lim e=>by subst e;exact r.2.1.elim
theorem zH {P:Nat->Prop}{k:Nat}{h:H}{l:List Nat}{v:AV}(r:SlR P k h l v):∀x∈l,x<18446744073709551616:=by obtain ⟨rows,h1,h2⟩:=r.rows;intro x hx;obtain ⟨i,hi,e⟩:=List.mem_iff_getElem.1 hx;obtain ⟨row,h3,h4⟩:=h2.get (i:=i) (a:=x) (by rw[List.getElem?_eq_getElem hi,e]);exact (DX.1 h4).2
end
end Hx
end
section
namespace Hx
open Go
noncomputable section
theorem qv {C:Cfg}{nt d:Nat}{rd:Option Nat}{c:Code}{t:T}{df:List ADf}{g:G}{Q:QT}(h:wp C d rd (dQ C nt c) Q t df g):((I C).code nt d rd c t df g).sat Q:=by rw[CY];exact M_ _ _ _ _ _ h
end
end Hx
end
