/- A part of the proof: what the functions of the chapter compute. -/
import Derived.KernelRfl
import Derived.Test.YtikpmbiklokdiaaGreatHx8
set_option linter.all false
set_option maxRecDepth 20000
set_option maxHeartbeats 8000000
namespace Hx
open Go
noncomputable section
end
end Hx
section
namespace Go.Proofs.YtikpmbiklokdiaaGreat.Gen
open Hx
noncomputable def t69:=EH 3 Tab.D3.tab69 (EH 4 Tab.D4.tab69 (KH q0 20000 69))
theorem e69:ExtOk q0 69 t69:=zx q0Ok Tab.D3.tab69_ok (zx q0Ok Tab.D4.tab69_ok (zf q0Ok))
noncomputable def t78:=EH 3 Tab.D3.tab78 (EH 4 Tab.D4.tab78 (KH q0 20000 78))
theorem e78:ExtOk q0 78 t78:=zx q0Ok Tab.D3.tab78_ok (zx q0Ok Tab.D4.tab78_ok (zf q0Ok))
noncomputable def q1:Cfg:=q0.add 69 t69
theorem q1Ok:CfgOk q1:=q0Ok.add e69
noncomputable def q2:Cfg:=q1.add 78 t78
theorem q2Ok:CfgOk q2:=q1Ok.add (ExtOk.cfg (C:=q0) (C':=q1) rfl rfl e78)
noncomputable def p1:Cfg:=q2.add 11 (MW q2 1000 1000 11)
theorem p1Ok:CfgOk p1:=q2Ok.add (zg q2Ok)
noncomputable def p2:Cfg:=p1.add 13 (MW q2 1000 1000 13)
theorem p2Ok:CfgOk p2:=p1Ok.add (ExtOk.cfg (C:=q2) (C':=p1) rfl rfl (zg q2Ok))
noncomputable def p3:Cfg:=p2.add 15 (MW q2 1000 1000 15)
theorem p3Ok:CfgOk p3:=p2Ok.add (ExtOk.cfg (C:=q2) (C':=p2) rfl rfl (zg q2Ok))
noncomputable def p4:Cfg:=p3.add 19 (MW q2 1000 1000 19)
theorem p4Ok:CfgOk p4:=p3Ok.add (ExtOk.cfg (C:=q2) (C':=p3) rfl rfl (zg q2Ok))
theorem works_run:ac (sem p4 20000) 1 G.empty 18 []=.val (.bool true):=by kernel_rfl
noncomputable def cfg1:Cfg:=cfg.add 18 (Aa (.bool true))
theorem cfg1Ok:CfgOk cfg1:=cfgOk.add (ExtOk.cfg (C:=p4) (C':=cfg) rfl rfl (Kc p4Ok works_run))
end Go.Proofs.YtikpmbiklokdiaaGreat.Gen
end
namespace Hx
open Go
noncomputable section
@[match_pattern,reducible] def X8(x:Int):AV:=.int .i64 x
@[match_pattern,reducible] def X9(i:Nat):AV:=.hptr i 0 0 0
@[match_pattern,reducible] def X_(x:Int):AV:=.int .u64 x
@[reducible] def Xt (d:Nat)(p:BinOp)(a b:Nat):SI:=o d (.bin p (.t a) (.t b))
@[reducible] def Xu (d:Nat)(p:BinOp)(a:Nat)(z:Int):SI:=o d (.bin p (.t a) (qI z))
@[reducible] def Xv (d n a:Nat):SI:=o d (.load true n (.t a))
@[reducible] def Xw (d a i:Nat):SI:=o d (.ext (.t a) i)
@[reducible] def Xx (n a b:Nat):SI:=oz (.store n (.t a) (.t b))
@[reducible] def Xy (d a:Nat):SI:=o d (.nilc (.t a))
@[reducible] def Xz (d a b:Nat):SI:=o d (.pick (.t a) (.k (.bool true)) (.t b))
@[reducible] def XA (d a b:Nat):SI:=o d (.pick (.t a) (.t b) (.k (.bool false)))
@[reducible] def XB (d n a b:Nat):SI:=o d (.ixs n (.t a) (.t b))
@[reducible] def XC (d s:Nat)(w:Bool)(a:Nat):SI:=og d s w (.mv (.t a))
@[reducible] def XD (d s:Nat)(w:Bool)(a:Nat):SI:=og d s w (.load false 1 (.t a))
@[reducible] def XE (d s:Nat)(w:Bool)(n a:Nat):SI:=og d s w (.fad n (.t a))
@[reducible] def XF (d s:Nat)(w:Bool)(p:BinOp)(a b:Nat):SI:=og d s w (.bin p (.t a) (.t b))
@[reducible] def XG (d s:Nat)(w:Bool)(p:BinOp)(a:Nat)(z:Int):SI:=og d s w (.bin p (.t a) (qI z))
@[reducible] def XH (d s:Nat)(w:Bool)(a:Nat):SI:=og d s w (.len .slice (.t a))
@[reducible] def XN(d f a:Nat):SI:=o d (.call f [.t a])
@[reducible] def XO(d f a b:Nat):SI:=o d (.call f [.t a,.t b])
@[reducible] def XP(d f a b c:Nat):SI:=o d (.call f [.t a,.t b,.t c])
@[reducible] def XQ(d f a b c e:Nat):SI:=o d (.call f [.t a,.t b,.t c,.t e])
@[reducible] def XR(d m n a b:Nat):SI:=o d (.app m n (.t a) (.t b))
@[reducible] def XS(d:Nat)(b:Bool):SI:=o d (.mv (.k (.bool b)))
@[reducible] def XT(d:Nat):SI:=o d (.mv (.k .nils))
@[reducible] def XU(d:Nat)(p:BinOp)(a:Nat)(k:IntKind)(z:Int):SI:=o d (.bin p (.t a) (.k (.int k z)))
@[reducible] def XV(d a:Nat):SI:=o d (.not (.t a))
@[reducible] def XW(d:Nat)(k:IntKind)(a:Nat):SI:=o d (.conv k (.t a))
@[reducible] def XX(d s:Nat)(w:Bool)(n a b:Nat):SI:=og d s w (.ixs n (.t a) (.t b))
@[reducible] def XY(d a:Nat):SI:=o d (.bsl 1 1 [X8 0] [0] [.t a])
@[reducible] def XZ(d a:Nat):SI:=o d (.bsl 1 1 [.nils] [0] [.t a])
@[reducible] def X0(d a:Nat):SI:=o d (.box (.t a))
@[reducible] def X3(d m n a b:Nat):SI:=o d (.ixa m n (.t a) (.t b))
@[reducible] def X4(a b c d e f:Nat):SC:=.ops [oM a b,oA c d,oM e f]
@[reducible] def X5(a b:Nat):SC:=.cond (.t a) .skip (.exit b)
@[reducible] def X6(a:Nat)(x y:SC):SC:=.cond (.t a) x y
@[reducible] def X7(x y:SC):SC:=.seq x y
class XOc where
 xo:Nat->Option (Nat->List AV->G->OR)
 so:Nat->List AV->G->OR
def C0[i:XOc]:Cfg:={ Go.Proofs.YtikpmbiklokdiaaGreat.Gen.cfg1 with ext:=λk=>ak (Nat.beq k 85) (some i.so) (ak (Nat.testBit 567296 k) (i.xo k) (Go.Proofs.YtikpmbiklokdiaaGreat.Gen.cfg1.ext k)) }
abbrev tPP:Nat:=200
def cW:SC:=sQ [Xt 161 .lss 160 159] (X7 (X5 161 4) (X7 (.blk 5 (sQ [oX 162 158 160,oL 163 162,oM 26 163] (sQ [oM 164 26,oM 165 24,Xt 166 .andNot 164 165,XU 167 .eql 166 .u64 0] (X6 167 (sQ [XS 6 false] (.ret)) (.skip))))) (.ops [oA 168 160,oM 160 168])))
def jf:SC:=.ops [oA 169 112,oM 112 169]
def eT:SC:=sQ [Xt 113 .lss 112 111] (X7 (X5 113 2) (X7 (.blk 3 (sQ [oM 114 112,oX 115 110 112,oL 116 115,oM 23 114,oM 24 116] (X7 (sQ [oM 117 24,oM 118 20,Xt 119 .andNot 117 118,XU 120 .neq 119 .u64 0,oM 121 120,XC 122 121 false 23,XG 123 121 false .gtr 122 0,XC 124 121 false 123,XC 125 124 true 22,XC 126 124 true 23,XG 127 124 true .sub 126 1,XX 128 124 true 1 125 127,XD 129 124 true 128,og 130 124 true (.call 26 [.t 129]),XC 131 124 true 24,og 132 124 true (.call 26 [.t 131]),XF 133 124 true .gtr 130 132,XC 134 124 true 133,XC 135 134 false 22,XC 136 134 false 23,XG 137 134 false .sub 136 1,XX 138 134 false 1 135 137,XD 139 134 false 138,og 140 134 false (.call 26 [.t 139]),XC 141 134 false 24,og 142 134 false (.call 26 [.t 141]),XF 143 134 false .eql 140 142,XC 144 134 false 143,XC 145 144 true 22,XC 146 144 true 23,XG 147 144 true .sub 146 1,XX 148 144 true 1 145 147,XD 149 144 true 148,XC 150 144 true 24,XF 151 144 true .geq 149 150,og 152 134 false (.pick (.t 144) (.t 151) (.k (.bool false))),og 153 124 true (.pick (.t 134) (.k (.bool true)) (.t 152)),og 154 121 false (.pick (.t 124) (.t 153) (.k (.bool false))),Xz 155 121 154] (X6 155 (sQ [XS 6 false] (.ret)) (.skip))) (sQ [oM 156 22,oM 157 23,o 158 (.slc 1 (.t 156) [] [.t 157]),oN 159 158,oK 160 0] (.blk 4 (.loop cW)))))) jf))
def bW:SC:=sQ [Xt 217 .lss 216 215] (X7 (X5 217 8) (X7 (.blk 9 (sQ [oX 218 214 216,oL 219 218,oM 34 219] (.ops [oM 220 31,oM 221 220,XC 222 221 false 34,XC 223 221 false 27,XF 224 221 false .andNot 222 223,og 225 221 false (.bin .eql (.t 224) (.k (X_ 0))),Xz 226 221 225,oM 227 32,oM 228 227,XC 229 228 false 34,XC 230 228 false 27,XF 231 228 false .eql 229 230,Xz 232 228 231,oM 31 226,oM 32 232]))) (.ops [oA 233 216,oM 216 233])))
def cX:SC:=sQ [oM 234 29,oM 235 21,Xu 236 .eql 235 0,o 237 (.eq false .bool (.t 234) (.t 236)),oM 238 237,XC 239 238 true 31,og 240 238 true (.not (.t 239)),XA 241 238 240,oM 242 241,XC 243 242 false 29,XC 244 242 false 21,XG 245 242 false .eql 244 0,og 246 242 false (.eq true .bool (.t 243) (.t 245)),XC 247 242 false 246,XC 248 247 true 32,og 249 242 false (.pick (.t 247) (.t 248) (.k (.bool false))),Xz 250 242 249] (X6 250 (sQ [XS 6 false] (.ret)) (.skip))
def eU:SC:=sQ [Xv 190 2 7,oM 191 28,oM 192 9,oM 193 10,Xv 194 2 11,o 195 (.call 28 [.t 190,.t 191,.t 192,.t 193,.t 194]),oM 189 195,Xw 196 189 0,Xw 197 189 1,oM 29 196,oM 30 197] (X7 (sQ [oM 198 30,XV 199 198,oM 200 199,XC 201 200 false 21,XG 202 200 false .eql 201 0,XC 203 200 false 202,XC 204 203 true 27,XC 205 203 true 20,XF 206 203 true .eql 204 205,og 207 200 false (.pick (.t 203) (.t 206) (.k (.bool false))),XC 208 200 false 207,XC 209 208 true 29,XC 210 208 true 16,og 211 208 true (.eq true .bool (.t 209) (.t 210)),og 212 200 false (.pick (.t 208) (.t 211) (.k (.bool false))),Xz 213 200 212] (X6 213 (sQ [XS 6 false] (.ret)) (.skip))) (sQ [XS 31 false,XS 32 false] (X7 (sQ [oM 214 22,oN 215 214,oK 216 0] (.blk 8 (.loop bW))) cX)))
def aS:SC:=.ops [oM 173 27,XU 174 .add 173 .u64 1,oM 27 174]
def bX:SC:=X7 (sQ [oM 170 27,oM 171 20,Xt 172 .leq 170 171] (X5 172 6)) (X7 (.blk 7 (X7 (sQ [oM 175 27,oM 176 20,Xt 177 .andNot 175 176,XU 178 .neq 177 .u64 0] (X6 178 (.exit 7) (.skip))) (sQ [oM 179 8,oM 180 27,XO 181 27 179 180,oM 28 181] (X7 (sQ [oM 182 21,Xu 183 .eql 182 1] (X6 183 (.ops [oM 184 8,oM 185 20,oM 186 27,Xt 187 .andNot 185 186,XO 188 27 184 187,oM 28 188]) (.skip))) eU)))) aS)
def eV:SC:=sQ [o 27 (.mv (.k (X_ 0)))] (.blk 6 (.loop bX))
def jg:SC:=.ops [oA 251 106,oM 106 251]
def iE:SC:=sQ [Xu 107 .lss 106 2] (X7 (X5 107 0) (X7 (.blk 1 (sQ [oM 108 106,o 109 (.ix false 2 1 (.t 105) (.t 106)),oM 21 108,oM 22 109] (X7 (sQ [oM 110 22,oN 111 110,oK 112 0] (.blk 2 (.loop eT))) eV))) jg))
def eg:SC:=sQ [oM 252 16,oM 253 252,XC 254 253 false 14,og 255 253 false (.bsl 1 1 [X_ 0] [0] [.k (X_ 0)]),og 256 253 false (.call 17 [.t 254,.t 255]),Xz 257 253 256,oM 6 257] (.ret)
def jF:SC:=X7 (sQ [o 35 (.call 18 []),XV 36 35] (X6 36 (sQ [XS 6 false] (.ret)) (.skip))) (sQ [Xv 38 3 3,Xv 39 9 4,Xv 40 4 5,XP 41 23 38 39 40,oM 37 41,Xw 42 37 0,Xw 43 37 1,Xw 44 37 2,Xw 45 37 3,Xw 46 37 4,o 7 (.alloc [X8 0,.nils]),o 11 (.alloc [X8 0,X8 0]),Xx 2 7 42,oM 8 43,oM 9 44,oM 10 45,Xx 2 11 46] (sQ [Xv 48 2 7,oM 49 8,oM 50 9,oM 51 10,Xv 52 2 11,o 53 (.call 13 [.t 48,.t 49,.t 50,.t 51,.t 52]),oM 47 53,Xw 54 47 0,Xw 55 47 1,oM 12 54,oM 13 55] (sQ [Xv 57 2 7,oM 58 8,oM 59 9,oM 60 10,Xv 61 2 11,o 62 (.call 15 [.t 57,.t 58,.t 59,.t 60,.t 61]),oM 56 62,Xw 63 56 0,Xw 64 56 1,oM 14 63,oM 15 64] (sQ [Xv 66 2 7,oM 67 8,oM 68 9,oM 69 10,Xv 70 2 11,o 71 (.call 11 [.t 66,.t 67,.t 68,.t 69,.t 70]),oM 65 71,Xw 72 65 0,Xw 73 65 1,oM 16 72,oM 17 73] (X7 (sQ [oM 74 13,oM 75 15,Xt 76 .neq 74 75,oM 77 76,XC 78 77 false 13,XC 79 77 false 17,XF 80 77 false .neq 78 79,Xz 81 77 80] (X6 81 (sQ [XS 6 false] (.ret)) (.skip))) (X7 (sQ [oM 82 13,Xu 83 .neq 82 0] (X6 83 (sQ [Xv 85 2 7,oM 86 8,XO 87 24 85 86,oM 84 87,Xw 88 84 0,Xw 89 84 1,o 18 (.alloc [X8 0,X8 0]),Xx 2 18 88,oM 19 89] (sQ [oM 90 13,Xu 91 .eql 90 7,oM 92 91,XC 93 92 true 19,XG 94 92 true .eql 93 0,XA 95 92 94,oM 96 95,XE 97 96 true 0 18,XD 98 96 true 97,XG 99 96 true .eql 98 0,XA 100 96 99,oM 6 100] (.ret))) (.skip))) (sQ [oM 101 8,XN 102 25 101,oM 20 102] (X7 (sQ [oM 103 12,oM 104 14,o 105 (.build [.nils,.nils] [(0,1),(1,1)] [.t 103,.t 104]),oK 106 0] (.blk 0 (.loop iE))) eg))))))))
def gI:SF:=⟨258,[.tm 6],sQ [X0 3 0,X0 4 1,X0 5 2,XS 6 false] jF⟩
def tb:SC:=sQ [oM 65 6,oM 66 9,Xt 67 .mul 65 66,oM 6 67] (.feet [0,1,0,0,12,28,0,127,255,511] [oF 68 1 4,oL 69 68,oM 70 5,oM 71 7,oX 72 70 71,oL 73 72,oM 74 9,XB 75 3 69 73,oF 76 0 75,Xx 1 76 74])
def tc:SC:=sQ [oF 50 0 8,oL 51 50,XU 52 .rem 51 .u8 2,XW 53 .i64 52,o 54 (.bin .add (qI 2) (.t 53)),oM 9 54] (X7 (sQ [oM 55 6,oM 56 9,Xt 57 .mul 55 56,oM 58 3,Xu 59 .sub 58 1,oM 60 7,Xt 61 .sub 59 60,XW 62 .u64 61,Xt 63 .shl 57 62,Xu 64 .gtr 63 100] (X6 64 (.ops [oK 9 2]) (.skip))) tb)
def lz:SC:=X4 38 7 39 38 7 39
def fZ:SC:=X7 (sQ [oM 35 7,oM 36 3,Xt 37 .lss 35 36] (X5 37 0)) (X7 (.blk 1 (sQ [o 8 (.alloc [.int .u8 0,.int .u8 0,.nils])] (X7 (sQ [oM 40 7,oF 41 1 1,oL 42 41,oN 43 42,Xt 44 .lss 40 43] (X6 44 (.ops [oF 45 1 1,oL 46 45,oM 47 7,XB 48 3 46 47,Xv 49 3 48,Xx 3 8 49]) (.skip))) tc))) lz)
def lA:SC:=X4 104 14 105 104 14 105
def f8:SC:=X7 (sQ [oM 101 14,oM 102 10,Xt 103 .lss 101 102] (X5 103 6)) (X7 (.blk 7 (sQ [oM 106 5,oM 107 14,oX 108 106 107,oL 109 108,oM 110 13,Xt 111 .eql 109 110,oM 112 111,XE 113 112 true 1 11,XD 114 112 true 113,XC 115 112 true 14,og 116 112 true (.conv .u64 (.t 115)),XF 117 112 true .shr 114 116,og 118 112 true (.bin .and (.t 117) (.k (.int .u8 1))),og 119 112 true (.bin .eql (.t 118) (.k (.int .u8 1))),XA 120 112 119,oM 121 120,XE 122 121 true 1 4,XD 123 121 true 122,XC 124 121 true 12,XX 125 121 true 3 123 124,XE 126 121 true 1 125,XD 127 121 true 126,XH 128 121 true 127,XG 129 121 true .lss 128 3,XA 130 121 129] (X6 130 (.feet [0,1,0,0,8,0,56,120,248,0,512,2040,4095,8191,16383] [oF 131 1 4,oL 132 131,oM 133 12,oF 134 1 4,oL 135 134,oM 136 12,XB 137 3 135 136,oF 138 1 137,oL 139 138,oM 140 13,XY 141 140,XR 142 1 8 139 141,XB 143 3 132 133,oF 144 1 143,Xx 1 144 142]) (.skip)))) lA)
def lB:SC:=X4 99 13 100 99 13 100
def f_:SC:=X7 (sQ [oM 96 13,oM 97 3,Xt 98 .lss 96 97] (X5 98 4)) (X7 (.blk 5 (sQ [oK 14 0] (.blk 6 (.loop f8)))) lB)
def gc:SC:=X7 (sQ [oM 145 15,Xv 146 2 4,oM 147 12,XO 148 31 146 147,XN 149 30 148,Xt 150 .lss 145 149] (X5 150 8)) (X7 (.blk 9 (.feet [0,1,0,0,8,0,56,120,248,0,512,0,2048,0,14336,30720,63488,0,131072,0,0,1048576,0,7340032,15728640,32505856,66060288,133693440,268434944,536870400,1073741816,2147483647,4294967295,8589934591] [oF 153 1 4,oL 154 153,oM 155 12,oF 156 1 4,oL 157 156,oM 158 12,XB 159 3 157 158,oF 160 2 159,oL 161 160,oF 162 0 4,oL 163 162,oF 164 1 4,oL 165 164,oM 166 12,XB 167 3 165 166,oF 168 0 167,oL 169 168,oF 170 2 11,oL 171 170,oM 172 15,oF 173 1 4,oL 174 173,oM 175 12,XB 176 3 174 175,oF 177 0 176,oL 178 177,oA 179 178,Xt 180 .mul 172 179,XQ 181 32 163 169 171 180,XZ 182 181,XR 183 1 24 161 182,XB 184 3 154 155,oF 185 2 184,Xx 1 185 183])) (X4 151 15 152 151 15 152))
def lC:SC:=sQ [oK 15 0] (.blk 8 (.loop gc))
def jJ:SC:=sQ [oM 92 5,oM 93 10,oX 94 92 93,oL 95 94,oM 12 95] (X7 (sQ [oK 13 0] (.blk 4 (.loop f_))) lC)
def jK:SC:=X4 80 10 81 80 10 81
def fG:SC:=X7 (sQ [oM 77 10,oM 78 3,Xt 79 .lss 77 78] (X5 79 2)) (X7 (.blk 3 (sQ [o 11 (.alloc [.int .u8 0,.int .u8 0,.nils])] (X7 (sQ [oM 82 10,oF 83 1 1,oL 84 83,oN 85 84,Xt 86 .lss 82 85] (X6 86 (.ops [oF 87 1 1,oL 88 87,oM 89 10,XB 90 3 88 89,Xv 91 3 90,Xx 3 11 91]) (.skip))) jJ))) jK)
def jL:SC:=sQ [Xv 186 2 4,Xx 2 2 186] (.ret)
def jM:SC:=X7 (sQ [oK 10 0] (.blk 2 (.loop fG))) jL
def mu:SC:=sQ [oF 16 1 1,oL 17 16,oN 18 17,o 19 (.mx (.t 18) (qI 1)),o 20 (.mn (.t 19) (qI 5)),oM 3 20] (X7 (.feet [0,1,3,7,15,0,32,127,0,511] [oF 21 0 1,oL 22 21,XU 23 .rem 22 .u8 60,XW 24 .i64 23,o 25 (.bin .add (qI 1) (.t 24)),oM 26 3,o 27 (.mks 3 56 [X8 0,.nils,.nils] (.t 26) (.t 26)),o 28 (.build [X8 0,.nils] [(0,1),(1,1)] [.t 25,.t 27]),o 4 (.alloc [X8 0,.nils]),Xx 2 4 28]) (X7 (.feet [0,1,0,4,15,31,63] [oM 29 3,o 30 (.mks 1 1 [.int .u8 0] (.t 29) (.t 29)),oF 31 2 1,oL 32 31,o 33 (.build [.nils,.int .u16 0,.nils] [(0,1),(2,1)] [.t 30,.t 32]),XN 34 29 33,oM 5 34]) (sQ [oK 6 1] (X7 (sQ [oK 7 0] (.blk 0 (.loop fZ))) jM))))
def jq:SF:=⟨187,[.cell true 2 2],sQ [X0 1 0,o 2 (.alloc [X8 0,.nils])] mu⟩
def pc:SF:=⟨8,[.tm 4],sQ [XT 4] (sQ [oM 5 0,oM 6 1,o 7 (.call 33 [.t 5,.t 6,.k (X8 (-1))]),oM 4 7] (.ret))⟩
def gN:SC:=.ops [oM 34 5,oM 35 7,XY 36 35,XR 37 1 8 34 36,oM 5 37]
def uJ:SC:=X4 13 6 14 13 6 14
def uI:SC:=X7 (sQ [oM 8 6,oF 9 1 3,oL 10 9,oN 11 10,Xt 12 .lss 8 11] (X5 12 0)) (X7 (.blk 1 (sQ [oK 7 (-1)] (X7 (sQ [oF 15 0 2,oL 16 15,oM 17 6,XW 18 .u64 17,Xt 19 .shr 16 18,XU 20 .and 19 .u8 1,XU 21 .eql 20 .u8 1] (X6 21 (.quiet [oM 22 6,oF 23 1 2,X3 24 8 1 23 22,oL 25 24,XW 26 .i64 25,oF 27 1 3,oL 28 27,oM 29 6,XB 30 3 28 29,oF 31 0 30,oL 32 31,Xt 33 .rem 26 32,oM 7 33]) (.skip))) gN))) uJ)
def mw:SC:=sQ [oM 38 5,oM 4 38] (.ret)
def nz:SC:=sQ [XT 5] (X7 (sQ [oK 6 0] (.blk 0 (.loop uI))) mw)
def kg:SF:=⟨39,[.tm 4],sQ [X0 2 0,X0 3 1,XT 4] nz⟩
def qa:SC:=sQ [o 12 (.mkf 35 [] [.t 5,.t 6,.t 7,.t 8,.t 9]),XN 13 34 12,Xw 14 13 0,Xw 15 13 1,oM 10 14,oM 11 15] (.ret)
def nk:SF:=⟨16,[.tm 10,.tm 11],sQ [X0 5 0,X0 6 1,X0 7 2,X0 8 3,X0 9 4,XS 10 false,oK 11 0] qa⟩
def ol:SC:=sQ [o 12 (.mkf 45 [] [.t 5,.t 6,.t 7,.t 8,.t 9]),XN 13 44 12,Xw 14 13 0,Xw 15 13 1,oM 10 14,oM 11 15] (.ret)
def lX:SF:=⟨16,[.tm 10,.tm 11],sQ [X0 5 0,X0 6 1,X0 7 2,X0 8 3,X0 9 4,XT 10,oK 11 0] ol⟩
def rM:SC:=sQ [o 12 (.mkf 51 [] [.t 5,.t 6,.t 7,.t 8,.t 9]),XN 13 44 12,Xw 14 13 0,Xw 15 13 1,oM 10 14,oM 11 15] (.ret)
def o9:SF:=⟨16,[.tm 10,.tm 11],sQ [X0 5 0,X0 6 1,X0 7 2,X0 8 3,X0 9 4,XT 10,oK 11 0] rM⟩
def my:SC:=X7 (sQ [oM 11 5,oM 12 0,oN 13 12,Xt 14 .lss 11 13] (X5 14 0)) (X7 (.blk 1 (X7 (.quiet [oM 17 0,oM 18 5,oX 19 17 18,oL 20 19,oM 21 1,oM 22 5,oX 23 21 22,oL 24 23,Xt 25 .neq 20 24]) (X6 25 (sQ [XS 4 false] (.ret)) (.skip)))) (X4 15 5 16 15 5 16))
def mz:SC:=sQ [XS 4 true] (.ret)
def kh:SF:=⟨26,[.tm 4],sQ [XS 4 false] (X7 (sQ [oM 6 0,oN 7 6,oM 8 1,oN 9 8,Xt 10 .neq 7 9] (X6 10 (sQ [XS 4 false] (.ret)) (.skip))) (X7 (sQ [oK 5 0] (.blk 0 (.loop my))) mz))⟩
def rC:SC:=sQ [Xv 15 3 3,XN 16 7 15,o 11 (.alloc [X8 0,.nils]),Xx 2 11 16] (sQ [o 17 (.ixa 4 1 (.t 5) (qI 0)),oL 18 17,XW 19 .i64 18,oF 20 1 11,oL 21 20,oN 22 21,Xt 23 .rem 19 22,oM 12 23] (X7 (.feet [0,1,3,0,8,24,56,127,0,256,768,1792,4095,8191,16383,16383,0,98303,262143] [o 25 (.ixa 4 1 (.t 5) (qI 2)),oL 26 25,XW 27 .i64 26,o 28 (.ixa 4 1 (.t 5) (qI 3)),oL 29 28,XW 30 .i64 29,oA 31 30,Xt 32 .rem 27 31,o 33 (.ixa 4 1 (.t 5) (qI 3)),oL 34 33,XW 35 .i64 34,oA 36 35,XO 37 65 32 36,oM 24 37,Xw 38 24 0,Xw 39 24 1,o 13 (.alloc [X8 0,X8 0]),Xx 2 13 38,oM 14 39]) (X7 (.feet [0,0,0,6,0,30,0,0,128,384,0,1024,0,7168,15360,31744,65408,0,63,262207,786559,1966079,4194303] [Xv 40 2 11,Xv 41 9 4,Xv 42 2 11,XO 43 9 41 42,oM 44 12,XO 45 8 43 44,oM 46 12,o 47 (.ixa 4 1 (.t 5) (qI 1)),oL 48 47,XW 49 .i64 48,oF 50 1 11,oL 51 50,oM 52 12,XB 53 3 51 52,oF 54 0 53,oL 55 54,Xt 56 .rem 49 55,Xv 57 2 13,Xx 2 6 40,oM 7 45,oM 8 46,oM 9 56,Xx 2 10 57]) (.ret))))
def oT:SF:=⟨58,[.cell true 2 6,.tm 7,.tm 8,.tm 9,.cell true 2 10],sQ [X0 3 0,X0 4 1,X0 5 2,o 6 (.alloc [X8 0,.nils]),XT 7,oK 8 0,oK 9 0,o 10 (.alloc [X8 0,X8 0])] rC⟩
def sT:SC:=sQ [Xv 10 2 2,oM 11 1,XZ 12 11,XO 13 66 10 12,oM 9 13,Xw 14 9 0,Xw 15 9 1,o 6 (.alloc [X8 0,.nils,.nils,.nils]),Xx 4 6 14,oM 7 15] (X7 (sQ [oM 16 7,Xu 17 .neq 16 0] (X6 17 (sQ [o 18 (.build [X8 0,X8 0] [] []),oM 19 7,Xx 2 4 18,oM 5 19] (.ret)) (.skip))) (sQ [Xv 21 2 2,XN 22 67 21,oM 20 22,Xw 23 20 0,Xw 24 20 1,oM 8 23,oM 7 24] (X7 (sQ [oM 25 7,Xu 26 .neq 25 0] (X6 26 (sQ [o 27 (.build [X8 0,X8 0] [] []),oM 28 7,Xx 2 4 27,oM 5 28] (.ret)) (.skip))) (sQ [Xv 29 4 6,oM 30 1,XO 31 68 29 30,oM 32 8,XO 33 65 31 32,Xw 34 33 0,Xw 35 33 1,Xx 2 4 34,oM 5 35] (.ret)))))
def qF:SF:=⟨36,[.cell true 2 4,.tm 5],sQ [X0 2 0,o 4 (.alloc [X8 0,X8 0]),oK 5 0] sT⟩
def pX:SC:=.ops [oA 19 8,oM 8 19]
def pW:SC:=sQ [Xt 9 .lss 8 7] (X7 (X5 9 0) (X7 (.blk 1 (sQ [oM 10 8,oX 11 6 8,oL 12 11,oM 4 10,oM 5 12] (sQ [oM 13 5,Xu 14 .geq 13 0] (X6 14 (.ops [oM 15 3,oM 16 4,o 17 (.bin .shl (.k (X_ 1)) (.t 16)),Xt 18 .or 15 17,oM 3 18]) (.skip))))) pX))
def pY:SC:=sQ [oM 20 3,oM 2 20] (.ret)
def oV:SF:=⟨21,[.tm 2],sQ [o 2 (.mv (.k (X_ 0)))] (sQ [o 3 (.mv (.k (X_ 0)))] (X7 (sQ [oM 6 0,oN 7 6,oK 8 0] (.blk 0 (.loop pW))) pY))⟩
def pU:SC:=X7 (sQ [oM 4 0,XU 5 .gtr 4 .u64 0] (X5 5 0)) (X7 (.blk 1 (X4 10 3 11 10 3 11)) (.ops [oM 6 0,oM 7 0,XU 8 .sub 7 .u64 1,Xt 9 .and 6 8,oM 0 9]))
def pV:SC:=sQ [oM 12 3,oM 2 12] (.ret)
def oU:SF:=⟨13,[.tm 2],sQ [oK 2 0] (sQ [oK 3 0] (X7 (.blk 0 (.loop pU)) pV))⟩
def rE:SC:=.ops [oA 30 13,oM 13 30]
def rD:SC:=sQ [Xt 14 .lss 13 12] (X7 (X5 14 0) (X7 (.blk 1 (sQ [oM 15 13,oX 16 11 13,oL 17 16,oM 6 15,oM 7 17] (sQ [oM 18 5,oM 19 6,oX 20 18 19,oz (.store 1 (.t 20) (qI (-1)))] (sQ [oM 21 1,oM 22 6,Xt 23 .shr 21 22,XU 24 .and 23 .u64 1,XU 25 .eql 24 .u64 1] (X6 25 (.ops [oM 26 5,oM 27 6,oM 28 7,oX 29 26 27,Xx 1 29 28]) (.skip)))))) rE))
def rF:SC:=sQ [oM 31 5,oM 4 31] (.ret)
def qG:SF:=⟨32,[.tm 4],sQ [XT 4] (sQ [oM 8 0,oN 9 8,o 10 (.mks 1 8 [X8 0] (.t 9) (.t 9)),oM 5 10] (X7 (sQ [oM 11 0,oN 12 11,oK 13 0] (.blk 0 (.loop rD))) rF))⟩
def sZ:SC:=sQ [Xv 17 2 5,oM 18 1,oM 19 2,XP 20 69 17 18 19,oM 16 20,Xw 21 16 0,Xw 22 16 1,oM 12 21,oM 13 22] (X7 (sQ [oM 23 13,Xu 24 .neq 23 0,oM 25 24,XC 26 25 false 3,XC 27 25 false 12,XH 28 25 false 27,XF 29 25 false .geq 26 28,Xz 30 25 29] (X6 30 (sQ [XS 10 false,XS 11 false] (.ret)) (.skip))) (X7 (.quiet [oM 32 12,oM 33 3,XB 34 2 32 33,Xv 35 2 34,Xv 36 2 9,XO 37 70 35 36,oM 31 37,Xw 38 31 0,Xw 39 31 1,oM 14 38,oM 15 39]) (sQ [oM 40 14,Xu 41 .geq 40 0,oM 42 15,Xu 43 .eql 42 0,oM 10 41,oM 11 43] (.ret))))
def qH:SF:=⟨44,[.tm 10,.tm 11],sQ [X0 5 0,X0 9 4,XS 10 false,XS 11 false] sZ⟩
def cQ:SC:=sQ [XT 6] (sQ [oM 28 6,oM 29 3,oM 30 5,o 31 (.slc 1 (.t 29) [] [.t 30]),XR 32 1 8 28 31,oM 33 4,XY 34 33,XR 35 1 8 32 34,oM 6 35] (.ops [oM 36 6,oM 37 3,oM 38 5,o 39 (.slc 1 (.t 37) [.t 38] []),XR 40 1 8 36 39,oM 3 40]))
def lZ:SC:=X4 12 4 13 12 4 13
def lY:SC:=X7 (sQ [oM 7 4,Xv 8 3 1,XN 9 71 8,oN 10 9,Xt 11 .lss 7 10] (X5 11 0)) (X7 (.blk 1 (sQ [oK 5 0] (X7 (sQ [oM 14 4,oF 15 2 1,oL 16 15,oN 17 16,Xt 18 .lss 14 17] (X6 18 (.ops [oF 19 2 1,oL 20 19,oM 21 4,oX 22 20 21,oL 23 22,XW 24 .i64 23,oM 25 4,oA 26 25,Xt 27 .rem 24 26,oM 5 27]) (.skip))) cQ))) lZ)
def fm:SC:=sQ [oM 41 3,oM 2 41] (.ret)
def fL:SC:=sQ [XT 3] (X7 (sQ [oK 4 0] (.blk 0 (.loop lY))) fm)
def dD:SF:=⟨42,[.tm 2],sQ [X0 1 0,XT 2] fL⟩
def yV:SC:=X7 (sQ [oM 5 4,oM 6 0,oN 7 6,Xt 8 .lss 5 7] (X5 8 0)) (X7 (.blk 1 (.ops [oM 11 3,oM 12 0,oM 13 4,oX 14 12 13,oL 15 14,Xt 16 .mul 11 15,oM 3 16])) (X4 9 4 10 9 4 10))
def rN:SC:=sQ [oM 17 3,oM 2 17] (.ret)
def qL:SF:=⟨18,[.tm 2],sQ [oK 2 0] (sQ [oK 3 1] (X7 (sQ [oK 4 0] (.blk 0 (.loop yV))) rN))⟩
def jN:SC:=X7 (.quiet [Xv 5 2 2,XN 6 73 5,oF 7 1 2,oL 8 7,oM 9 1,XB 10 3 8 9,oF 11 1 10,oL 12 11,XO 13 72 6 12,oM 4 13]) (.ret)
def gO:SF:=⟨14,[.tm 4],sQ [X0 2 0,XT 4] jN⟩
def te:SC:=.ops [oM 39 10,oM 40 9,oM 41 11,oX 42 40 41,oL 43 42,Xt 44 .add 39 43,oM 10 44]
def tf:SC:=X4 20 11 21 20 11 21
def nA:SC:=X7 (sQ [oM 17 11,oM 18 1,Xt 19 .lss 17 18] (X5 19 0)) (X7 (.blk 1 (X7 (sQ [oM 22 2,oN 23 22,Xu 24 .gtr 23 0] (X6 24 (.ops [oM 25 9,oM 26 11,oM 27 2,oM 28 3,oM 29 11,Xt 30 .add 28 29,oM 31 2,oN 32 31,Xt 33 .rem 30 32,oX 34 27 33,oL 35 34,XU 36 .rem 35 .u8 8,XW 37 .i64 36,oX 38 25 26,Xx 1 38 37]) (.skip))) te)) tf)
def tg:SC:=.ops [oM 68 12,oM 69 9,oM 70 14,oX 71 69 70,oL 72 71,Xt 73 .sub 68 72,oM 12 73]
def th:SC:=X4 49 14 50 49 14 50
def nB:SC:=X7 (sQ [oM 46 14,oM 47 1,Xt 48 .lss 46 47] (X5 48 2)) (X7 (.blk 3 (X7 (sQ [oM 51 9,oM 52 14,oX 53 51 52,oL 54 53,Xu 55 .gtr 54 0] (X6 55 (sQ [oM 56 9,oM 57 14,oM 58 0,oM 59 9,oM 60 14,oX 61 59 60,oL 62 61,Xt 63 .mul 58 62,oM 64 10,Xt 65 .quo 63 64,oX 66 56 57,Xx 1 66 65] (.ops [oM 67 14,oM 13 67])) (.skip))) tg)) th)
def tj:SC:=sQ [oM 74 9,oM 75 13,oM 76 9,oM 77 13,oX 78 76 77,oL 79 78,oM 80 12,Xt 81 .add 79 80,oX 82 74 75,Xx 1 82 81] (sQ [oM 83 9,oM 8 83] (.ret))
def tu:SC:=sQ [oM 45 0,oM 12 45,oK 13 0] (X7 (sQ [oK 14 0] (.blk 2 (.loop nB))) tj)
def td:SF:=⟨84,[.tm 8],sQ [XT 8] (sQ [oM 15 1,o 16 (.mks 1 8 [X8 0] (.t 15) (.t 15)),oM 9 16] (sQ [oK 10 0] (X7 (sQ [oK 11 0] (.blk 0 (.loop nA))) tu)))⟩
def qM:SF:=⟨16,[.tm 6],sQ [XT 6] (sQ [o 8 (.bsl 1 0 [X8 0] [] []),oM 9 0,XR 10 1 8 8 9,oM 7 10] (sQ [oM 11 7,oM 12 1,oM 13 2,oX 14 11 12,Xx 1 14 13] (sQ [oM 15 7,oM 6 15] (.ret))))⟩
def lq:SC:=sQ [o 4 (.mkf 74 [] [.t 2,.t 3]),oz (.raw (.defer ⟨.value (.tmp 4),#[],#[]⟩))] (sQ [oM 5 0,o 6 (.dyn (.t 5) []),Xx 1 2 6,oz (.store 1 (.t 3) (qI 0))] (.ret))
def ip:SF:=⟨7,[.cell false 1 2,.cell false 1 3],sQ [o 2 (.alloc [.bool false]),o 3 (.alloc [X8 0])] lq⟩
def j5:SF:=⟨25,[.tm 5],sQ [XS 5 false] (sQ [Xv 7 2 0,oL 8 1,oL 9 2,oL 10 3,XY 11 10,XQ 12 36 7 8 9 11,oM 6 12] (sQ [oM 13 6,Xv 14 2 4,XO 15 37 13 14] (sQ [oM 16 6,XN 17 38 16] (sQ [oM 18 6,oM 19 6,Xy 20 19,oF 21 7 20,oL 22 21,XO 23 39 18 22,XN 24 40 23,oM 5 24] (.ret)))))⟩
def mj:SC:=sQ [oM 69 10,Xu 70 .eql 69 0] (X6 70 (.ops [oM 71 9,oM 72 11,Xy 73 71,oF 74 4 73,Xx 1 74 72]) (.skip))
def uG:SC:=.ops [oA 75 48,oM 48 75]
def mh:SC:=sQ [Xt 49 .lss 48 47] (X7 (X5 49 0) (X7 (.blk 1 (sQ [oM 50 48,oX 51 46 48,oL 52 51,oM 10 50,oM 11 52] (X7 (sQ [oM 53 11,Xu 54 .lss 53 0,oM 55 54,XC 56 55 false 11,XC 57 55 false 9,og 58 55 false (.nilc (.t 57)),XE 59 55 false 0 58,XE 60 55 false 1 59,XD 61 55 false 60,XC 62 55 false 2,XX 63 55 false 3 61 62,XE 64 55 false 0 63,XD 65 55 false 64,XF 66 55 false .geq 56 65,Xz 67 55 66] (X6 67 (.ops [o 68 (.raw (.makeInterface 47 (.const (.int .i64 2)))),oz (.raw (.panic (.tmp 68)))]) (.skip))) mj))) uG))
def uH:SC:=.ops [oA 94 78,oM 78 94]
def mi:SC:=sQ [Xt 79 .lss 78 77] (X7 (X5 79 2) (X7 (.blk 3 (sQ [oM 80 78,oX 81 76 78,oL 82 81,oM 12 80,oM 13 82] (sQ [oM 83 13,Xu 84 .geq 83 0] (X6 84 (.feet [0,1,3,7,0,16,63,127,255,511] [oM 85 9,Xy 86 85,oF 87 7 86,oL 88 87,oM 89 12,o 90 (.bin .shl (.k (X_ 1)) (.t 89)),Xt 91 .or 88 90,Xy 92 85,oF 93 7 92,Xx 1 93 91]) (.skip))))) uH))
def mo:SC:=sQ [oM 95 9,oM 8 95] (.ret)
def mq:SC:=X7 (sQ [oM 76 1,oN 77 76,oK 78 0] (.blk 2 (.loop mi))) mo
def gL:SC:=sQ [Xv 41 2 4,oM 42 1,oM 43 2,o 44 (.build [X8 0,.nils,.nils,X8 0,X8 0,X8 0,X8 0,X_ 0] [(0,2),(2,1),(3,1)] [.t 41,.t 42,.t 43]),X0 45 44,oM 9 45] (X7 (sQ [oM 46 3,oN 47 46,oK 48 0] (.blk 0 (.loop mh))) mq)
def mr:SC:=X7 (sQ [Xv 18 2 4,oM 19 1,XO 20 76 18 19,Xu 21 .neq 20 0,oM 22 21,XC 23 22 false 2,XG 24 22 false .lss 23 0,Xz 25 22 24,oM 26 25,XC 27 26 false 2,XE 28 26 false 1 4,XD 29 26 false 28,XH 30 26 false 29,XF 31 26 false .geq 27 30,Xz 32 26 31,oM 33 32,XC 34 33 false 1,XC 35 33 false 2,XX 36 33 false 1 34 35,XD 37 33 false 36,XG 38 33 false .geq 37 0,Xz 39 33 38] (X6 39 (.ops [o 40 (.raw (.makeInterface 47 (.const (.int .i64 2)))),oz (.raw (.panic (.tmp 40)))]) (.skip))) gL
def np:SC:=X7 (sQ [Xv 14 2 4,XN 15 75 14,Xu 16 .neq 15 0] (X6 16 (.ops [o 17 (.raw (.makeInterface 47 (.const (.int .i64 50)))),oz (.raw (.panic (.tmp 17)))]) (.skip))) mr
def j9:SF:=⟨96,[.tm 8],sQ [X0 4 0,o 8 (.mv (.k (.nilp)))] np⟩
def fJ:SC:=.ops [oM 20 0,Xv 21 2 3,Xy 22 20,oF 23 5 22,Xx 2 23 21]
def fY:SC:=X7 (sQ [Xv 4 2 3,XN 5 77 4,Xu 6 .neq 5 0,oM 7 6,XE 8 7 false 0 3,XD 9 7 false 8,XG 10 7 false .lss 9 0,Xz 11 7 10,oM 12 11,XE 13 12 false 0 3,XD 14 12 false 13,XE 15 12 false 1 3,XD 16 12 false 15,XF 17 12 false .gtr 14 16,Xz 18 12 17] (X6 18 (.ops [o 19 (.raw (.makeInterface 47 (.const (.int .i64 2)))),oz (.raw (.panic (.tmp 19)))]) (.skip))) fJ
def dT:SF:=⟨24,[],sQ [X0 3 1] fY⟩
def fk:SC:=sQ [oM 20 2,Xu 21 .eql 20 0] (X6 21 (.ops [o 22 (.raw (.makeInterface 47 (.const (.int .i64 7)))),oz (.raw (.panic (.tmp 22)))]) (.skip))
def dC:SF:=⟨23,[],.seq (.quiet [oM 5 0,Xy 6 5,oF 7 0 6,Xv 8 2 7,oM 9 0,Xy 10 9,oF 11 2 10,oL 12 11,XO 13 78 8 12,oM 4 13,Xw 14 4 0,Xw 15 4 1,oM 2 14,oM 3 15]) (X7 (sQ [oM 16 3,Xu 17 .neq 16 0] (X6 17 (.ops [oM 18 3,o 19 (.raw (.makeInterface 47 (.tmp 18))),oz (.raw (.panic (.tmp 19)))]) (.skip))) fk)⟩
def fg:SC:=sQ [oM 46 7,Xu 47 .geq 46 0,o 48 (.build [.bool false] [(0,1)] [.t 47]),Xx 1 4 48] (.ret)
def fj:SC:=X7 (.quiet [oM 28 5,oM 29 0,Xy 30 29,oF 31 4 30,oL 32 31,XB 33 2 28 32,Xv 34 2 33,oM 35 0,Xy 36 35,oF 37 5 36,Xv 38 2 37,XO 39 70 34 38,oM 27 39,Xw 40 27 0,Xw 41 27 1,oM 7 40,oM 6 41]) (X7 (sQ [oM 42 6,Xu 43 .neq 42 0] (X6 43 (.ops [oM 44 6,o 45 (.raw (.makeInterface 47 (.tmp 44))),oz (.raw (.panic (.tmp 45)))]) (.skip))) fg)
def fK:SC:=X7 (.feet [0,1,3,7,0,0,48,0,128,384,896,2047,4095,8191,8191,16383,65535] [oM 9 0,Xy 10 9,oF 11 0 10,Xv 12 2 11,oM 13 0,oM 14 1,XO 15 79 13 14,oM 16 0,Xy 17 16,oF 18 3 17,oL 19 18,XP 20 69 12 15 19,oM 8 20,Xw 21 8 0,Xw 22 8 1,oM 5 21,oM 6 22]) (X7 (sQ [oM 23 6,Xu 24 .neq 23 0] (X6 24 (.ops [oM 25 6,o 26 (.raw (.makeInterface 47 (.tmp 25))),oz (.raw (.panic (.tmp 26)))]) (.skip))) fj)
def bp:SF:=⟨49,[.cell true 1 4],sQ [o 4 (.alloc [.bool false])] fK⟩
def fI:SC:=sQ [oF 3 0 1,oL 4 3,oM 2 4] (.ret)
def dA:SF:=⟨5,[.tm 2],sQ [X0 1 0,XS 2 false] fI⟩
def lr:SC:=sQ [o 4 (.mkf 83 [] [.t 2,.t 3]),oz (.raw (.defer ⟨.value (.tmp 4),#[],#[]⟩))] (sQ [oM 5 0,o 6 (.dyn (.t 5) []),Xx 1 2 6,oz (.store 1 (.t 3) (qI 0))] (.ret))
def iq:SF:=⟨7,[.cell false 1 2,.cell false 1 3],sQ [o 2 (.alloc [.nils]),o 3 (.alloc [X8 0])] lr⟩
def jn:SF:=⟨24,[.tm 5],sQ [XT 5] (sQ [Xv 8 2 0,oL 9 1,oL 10 2,oL 11 3,XY 12 11,XQ 13 36 8 9 10 12,oM 6 13] (sQ [oM 14 6,Xv 15 2 4,XO 16 37 14 15] (sQ [oM 17 6,XN 18 38 17] (sQ [oM 19 6,XN 20 46 19,o 7 (.alloc [.nilm]),Xx 1 7 20] (sQ [oM 21 6,o 22 (.mkf 48 [] [.t 7]),XO 23 47 21 22,oM 5 23] (.ret))))))⟩
def dV:SC:=.ops [oM 4 11]
def dW:SC:=.blk 1 (.feet [0,0,0,0,12,28,63] [oL 12 3,oM 13 4,oL 14 1,oM 15 4,XO 16 39 14 15,o 17 (.mkf 40 [.t 16] []),oz (.raw (.mapUpdate 102 (.tmp 12) (.tmp 13) (.tmp 17)))])
def dX:SC:=sQ [oL 18 3,oM 2 18] (.ret)
def eC:SC:=sQ [o 5 (.raw (.makeMap 102 none)),o 3 (.alloc [.nilm]),Xx 1 3 5] (X7 (sQ [oL 6 1,Xy 7 6,oF 8 7 7,oL 9 8,XN 10 84 9] (.blk 0 (.rng 19 (.t 10) [11] dV dW))) dX)
def aT:SF:=⟨19,[.tm 2],sQ [X0 1 0,o 2 (.mv (.k (.nilm)))] eC⟩
def gC:SC:=.ops [o 6 (.alloc [X_ 0]),Xx 1 6 13]
def gD:SC:=.ops [oM 7 20]
def dB:SC:=.blk 3 (sQ [oM 21 7,oL 22 6,Xt 23 .neq 21 22,oM 24 23,XD 25 24 true 3,XC 26 24 true 7,og 27 24 true (.dyn (.t 25) [.t 26]),XA 28 24 27] (X6 28 (.exit 1) (.skip)))
def gF:SC:=.ops [oL 29 5,oL 30 6,o 31 (.bsl 1 1 [X_ 0] [0] [.t 30]),XR 32 1 8 29 31,Xx 1 5 32]
def gE:SC:=.blk 1 (X7 (sQ [oL 14 3,oL 15 6,o 16 (.dyn (.t 14) [.t 15]),XV 17 16] (X6 17 (.exit 1) (.skip))) (X7 (sQ [oL 18 6,XN 19 84 18] (.blk 2 (.rng 36 (.t 19) [20] gD dB))) gF))
def gG:SC:=sQ [oL 33 5,o 34 (.call 85 [.t 33,.k (.clo 86 [] [])])] (sQ [oL 35 5,oM 4 35] (.ret))
def gU:SC:=sQ [o 5 (.alloc [.nils])] (X7 (.skip) (X7 (sQ [oM 8 0,Xy 9 8,oF 10 7 9,oL 11 10,XN 12 84 11] (.blk 0 (.rng 36 (.t 12) [13] gC gE))) gG))
def bH:SF:=⟨36,[.tm 4],sQ [X0 3 1,XT 4] gU⟩
def gK:SF:=⟨8,[.tm 3],sQ [XS 3 false] (sQ [oL 4 1,oM 5 0,o 6 (.raw (.lookup 102 (.tmp 4) (.tmp 5) false)),o 7 (.dyn (.t 6) []),oM 3 7] (.ret))⟩
def lV:SF:=⟨24,[.tm 5],sQ [XT 5] (sQ [Xv 8 2 0,oL 9 1,oL 10 2,oL 11 3,XY 12 11,XQ 13 36 8 9 10 12,o 6 (.alloc [.nilp]),Xx 1 6 13] (sQ [oL 14 6,Xv 15 2 4,XO 16 37 14 15] (sQ [oL 17 6,XN 18 38 17] (sQ [oL 19 6,XN 20 46 19,o 7 (.alloc [.nilm]),Xx 1 7 20] (sQ [oL 21 6,o 22 (.mkf 52 [] [.t 7,.t 6]),XO 23 47 21 22,oM 5 23] (.ret))))))⟩
def jl:SF:=⟨15,[.tm 4],sQ [XS 4 false] (X7 (.feet [0,0,2,6,14,0,62,127,255,511,1023] [oL 5 1,oL 6 2,Xy 7 6,oF 8 7 7,oL 9 8,oM 10 0,Xt 11 .andNot 9 10,o 12 (.raw (.lookup 102 (.tmp 5) (.tmp 11) false)),o 13 (.dyn (.t 12) []),XV 14 13,oM 4 14]) (.ret))⟩
def uP:SC:=X7 (sQ [oL 6 3,Xu 7 .eql 6 0] (X6 7 (sQ [o 8 (.build [X8 0,X8 0] [] []),Xx 2 4 8,oK 5 2] (.ret)) (.skip))) (sQ [o 9 (.mkf 100 [] [.t 2,.t 3]),XN 10 99 9,Xw 11 10 0,Xw 12 10 1,Xx 2 4 11,oM 5 12] (.ret))
def sP:SF:=⟨13,[.cell true 2 4,.tm 5],sQ [X0 2 0,X0 3 1,o 4 (.alloc [X8 0,X8 0]),oK 5 0] uP⟩
def sV:SC:=sQ [Xt 28 .lss 27 26] (X7 (X5 28 0) (X7 (.blk 1 (sQ [oX 29 25 27,oL 30 29,oM 9 30] (sQ [Xv 31 2 2,oM 32 9,XO 33 76 31 32,oM 10 33] (sQ [oM 34 10,Xu 35 .neq 34 0] (X6 35 (sQ [o 36 (.build [X8 0,.nils,.nils,.nils] [] []),oM 37 10,Xx 4 4 36,oM 5 37] (.ret)) (.skip)))))) (.ops [oA 38 27,oM 27 38])))
def nf:SC:=X7 (sQ [oM 64 15,Xu 65 .geq 64 0] (X5 65 4)) (X7 (.blk 5 (X7 (.feet [0,1,0,7,15,0,32,0,224,480,0,2047,4095] [oF 68 3 11,oL 69 68,oM 70 12,oX 71 69 70,oL 72 71,oF 73 0 13,oL 74 73,oM 75 15,oX 76 74 75,oL 77 76,oM 78 14,oX 79 72 77,Xx 1 79 78]) (.ops [oM 80 14,oF 81 1 13,oL 82 81,oM 83 15,oX 84 82 83,oL 85 84,Xt 86 .mul 80 85,oM 14 86]))) (.ops [oM 66 15,Xu 67 .sub 66 1,oM 15 67]))
def sW:SC:=.ops [oA 87 47,oM 47 87]
def nh:SC:=sQ [Xt 48 .lss 47 46] (X7 (X5 48 2) (X7 (.blk 3 (sQ [oM 49 47,XB 50 3 45 47,Xv 51 3 50,o 13 (.alloc [.nils,.nils,.nils]),oM 12 49,Xx 3 13 51] (X7 (.feet [0,1,0,0,8,24,56,127,255] [oF 52 3 11,oL 53 52,oM 54 12,oF 55 1 2,oL 56 55,oN 57 56,o 58 (.mks 1 8 [X8 0] (.t 57) (.t 57)),oX 59 53 54,Xx 1 59 58]) (sQ [oK 14 1] (sQ [oF 60 0 13,oL 61 60,oN 62 61,Xu 63 .sub 62 1,oM 15 63] (.blk 4 (.loop nf))))))) sW))
def sX:SC:=sQ [Xv 88 4 11,Xx 4 4 88,oK 5 0] (.ret)
def sY:SC:=X7 (.feet [0,0,0,4,12,31,0,127] [Xv 39 2 2,oM 40 6,oM 41 6,oN 42 41,o 43 (.mks 1 24 [.nils] (.t 42) (.t 42)),o 44 (.build [X8 0,.nils,.nils,.nils] [(0,2),(2,1),(3,1)] [.t 39,.t 40,.t 43]),o 11 (.alloc [X8 0,.nils,.nils,.nils]),Xx 4 11 44]) (X7 (sQ [oM 45 6,oN 46 45,oK 47 0] (.blk 2 (.loop nh))) sX)
def uR:SC:=sQ [Xv 17 2 2,XN 18 104 17,oM 16 18,Xw 19 16 0,Xw 20 16 1,oM 6 19,oM 7 20] (X7 (sQ [oM 21 7,Xu 22 .neq 21 0] (X6 22 (sQ [o 23 (.build [X8 0,.nils,.nils,.nils] [] []),oM 24 7,Xx 4 4 23,oM 5 24] (.ret)) (.skip))) (X7 (sQ [oM 25 1,oN 26 25,oK 27 0] (.blk 0 (.loop sV))) sY))
def sU:SF:=⟨89,[.cell true 4 4,.tm 5],sQ [X0 2 0,o 4 (.alloc [X8 0,.nils,.nils,.nils]),oK 5 0] uR⟩
def s_:SC:=sQ [Xt 20 .lss 19 18] (X7 (X5 20 0) (X7 (.blk 1 (.ops [oM 21 6,oF 22 0 4,oF 23 0 22,oL 24 23,Xt 25 .mul 21 24,oM 6 25])) (.ops [oA 26 19,oM 19 26])))
def ta:SC:=sQ [oM 27 6,oM 2 27,oK 3 0] (.ret)
def uT:SC:=sQ [Xv 8 2 1,XN 9 105 8,oM 7 9,Xw 10 7 0,Xw 11 7 1,o 4 (.alloc [X8 0,.nils,.nils,.nils,.nils]),Xx 5 4 10,oM 5 11] (X7 (sQ [oM 12 5,Xu 13 .neq 12 0] (X6 13 (sQ [oM 14 5,oK 2 0,oM 3 14] (.ret)) (.skip))) (sQ [oK 6 1] (X7 (sQ [oF 15 0 4,oF 16 1 15,oL 17 16,oN 18 17,oK 19 0] (.blk 0 (.loop s_))) ta)))
def s8:SF:=⟨28,[.tm 2,.tm 3],sQ [X0 1 0,oK 2 0,oK 3 0] uT⟩
def gR:SC:=.ops [o 6 (.alloc [X8 0,X8 0,.nils]),Xx 3 6 10]
def gS:SC:=.blk 1 (.ops [oL 11 5,oF 12 1 6,oL 13 12,Xt 14 .add 11 13,Xx 1 5 14])
def gT:SC:=sQ [oL 15 5,oM 4 15] (.ret)
def iD:SC:=sQ [o 5 (.alloc [X8 0]),oz (.store 1 (.t 5) (qI 0))] (X7 (sQ [Xv 7 4 2,oM 8 1,XO 9 106 7 8] (.blk 0 (.rng 16 (.t 9) [10] gR gS))) gT)
def fE:SF:=⟨16,[.tm 4],sQ [X0 2 0,oK 4 0] iD⟩
def mg:SC:=sQ [Xv 12 2 3,oM 13 1,XZ 14 13,XO 15 66 12 14,oM 11 15,Xw 16 11 0,Xw 17 11 1,o 8 (.alloc [X8 0,.nils,.nils,.nils]),Xx 4 8 16,oM 9 17] (X7 (sQ [oM 18 9,Xu 19 .neq 18 0] (X6 19 (sQ [oM 20 9,XT 6,oM 7 20] (.ret)) (.skip))) (X7 (sQ [oM 21 2,Xu 22 .lss 21 0,oM 23 22,XC 24 23 false 2,XE 25 23 false 0 8,XE 26 23 false 1 25,XD 27 23 false 26,XH 28 23 false 27,XF 29 23 false .geq 24 28,Xz 30 23 29] (X6 30 (sQ [XT 6,oK 7 2] (.ret)) (.skip))) (sQ [Xv 32 4 8,oM 33 1,XO 34 107 32 33,oM 31 34,Xw 35 31 0,Xw 36 31 1,oM 10 35,oM 9 36] (X7 (sQ [oM 37 9,Xu 38 .neq 37 0] (X6 38 (sQ [oM 39 9,XT 6,oM 7 39] (.ret)) (.skip))) (sQ [oM 40 10,oM 41 2,o 42 (.dyn (.t 40) [.t 41]),Xw 43 42 0,Xw 44 42 1,oM 6 43,oM 7 44] (.ret))))))
def je:SF:=⟨45,[.tm 6,.tm 7],sQ [X0 3 0,XT 6,oK 7 0] mg⟩
def wK:SC:=sQ [Xv 6 2 2,Xv 7 2 3,o 8 (.call 108 [.t 6,.t 7,.k (.clo 109 [] [])]),Xw 9 8 0,Xw 10 8 1,oM 4 9,oM 5 10] (.ret)
def vM:SF:=⟨11,[.tm 4,.tm 5],sQ [X0 2 0,X0 3 1,oK 4 0,oK 5 0] wK⟩
def qK:SC:=X7 (sQ [oM 5 4,oF 6 0 1,oL 7 6,oN 8 7,Xt 9 .lss 5 8,oM 10 9,XC 11 10 true 4,XG 12 10 true .lss 11 5,XA 13 10 12] (X5 13 0)) (X7 (.blk 1 (.ops [oM 16 3,oF 17 0 1,oL 18 17,oM 19 4,oX 20 18 19,oL 21 20,XU 22 .rem 21 .u8 4,XW 23 .i64 22,o 24 (.bin .add (qI 1) (.t 23)),XY 25 24,XR 26 1 8 16 25,oM 3 26])) (X4 14 4 15 14 4 15))
def jp:SC:=sQ [oM 27 3,oM 2 27] (.ret)
def jI:SC:=sQ [XT 3] (X7 (sQ [oK 4 0] (.blk 0 (.loop qK))) jp)
def gM:SF:=⟨28,[.tm 2],sQ [X0 1 0,XT 2] jI⟩
def B3:SC:=X7 (sQ [oM 7 6,oM 8 1,oN 9 8,Xt 10 .lss 7 9] (X5 10 0)) (X7 (.blk 1 (.ops [oM 13 5,oM 14 0,oM 15 1,oM 16 6,oX 17 15 16,oL 18 17,oX 19 14 18,oL 20 19,XY 21 20,XR 22 1 8 13 21,oM 5 22])) (X4 11 6 12 11 6 12))
def uW:SC:=sQ [oM 23 5,oM 4 23] (.ret)
def vP:SF:=⟨24,[.tm 4],sQ [XT 4] (sQ [XT 5] (X7 (sQ [oK 6 0] (.blk 0 (.loop B3))) uW))⟩
def qb:SC:=X7 (sQ [oM 5 4,oF 6 1 1,oL 7 6,oN 8 7,Xt 9 .lss 5 8] (X5 9 0)) (X7 (.blk 1 (.ops [oM 12 3,oF 13 1 1,oL 14 13,oM 15 4,XB 16 3 14 15,oF 17 0 16,oL 18 17,XY 19 18,XR 20 1 8 12 19,oM 3 20])) (X4 10 4 11 10 4 11))
def qc:SC:=sQ [oM 21 3,oM 2 21] (.ret)
def rO:SC:=sQ [XT 3] (X7 (sQ [oK 4 0] (.blk 0 (.loop qb))) qc)
def o_:SF:=⟨22,[.tm 2],sQ [X0 1 0,XT 2] rO⟩
def iP:SC:=sQ [XS 5 false] (.ops [oM 16 5,oM 17 3,Xx 1 0 16,Xx 1 1 17])
def cE:SF:=⟨18,[],sQ [o 6 (.raw (.call ⟨.builtin .recover,#[],#[]⟩)),oM 2 6] (sQ [oM 7 2,o 8 (.eq true (.iface true) (.t 7) (.k (.nili)))] (X6 8 (sQ [oM 10 2,o 11 (.raw (.typeAssert (.tmp 10) 20 47 true)),oM 9 11,Xw 12 9 0,Xw 13 9 1,oM 3 12,oM 4 13] (X7 (sQ [oM 14 4,XV 15 14] (X6 15 (.ops [oK 3 2]) (.skip))) iP)) (.skip)))⟩
def uS:SC:=sQ [Xv 6 2 1,XN 7 105 6,oM 5 7,Xw 8 5 0,Xw 9 5 1,o 3 (.alloc [X8 0,.nils,.nils,.nils,.nils]),Xx 5 3 8,oM 4 9] (sQ [oM 10 4,oM 2 10] (.ret))
def s7:SF:=⟨11,[.tm 2],sQ [X0 1 0,oK 2 0] uS⟩
def jh:SC:=sQ [Xt 27 .lss 26 25] (X7 (X5 27 0) (X7 (.blk 1 (sQ [oM 28 26,oX 29 24 26,oL 30 29,oM 7 28,oM 8 30] (sQ [oM 31 8,Xu 32 .lss 31 (-1),oM 33 32,XC 34 33 false 8,XE 35 33 false 2 5,XD 36 33 false 35,XC 37 33 false 7,XX 38 33 false 1 36 37,XD 39 33 false 38,XF 40 33 false .geq 34 39,Xz 41 33 40] (X6 41 (sQ [oK 4 2] (.ret)) (.skip))))) (.ops [oA 42 26,oM 26 42])))
def ji:SC:=sQ [oK 4 0] (.ret)
def jG:SC:=sQ [Xv 10 2 2,XN 11 105 10,oM 9 11,Xw 12 9 0,Xw 13 9 1,o 5 (.alloc [X8 0,.nils,.nils,.nils,.nils]),Xx 5 5 12,oM 6 13] (X7 (sQ [oM 14 6,Xu 15 .neq 14 0] (X6 15 (sQ [oM 16 6,oM 4 16] (.ret)) (.skip))) (X7 (sQ [oM 17 1,oN 18 17,oF 19 0 5,oF 20 1 19,oL 21 20,oN 22 21,Xt 23 .neq 18 22] (X6 23 (sQ [oK 4 2] (.ret)) (.skip))) (X7 (sQ [oM 24 1,oN 25 24,oK 26 0] (.blk 0 (.loop jh))) ji)))
def gJ:SF:=⟨43,[.tm 4],sQ [X0 2 0,oK 4 0] jG⟩
def cC:SC:=X7 (sQ [oF 3 1 1,oL 4 3,Xu 5 .lss 4 1,oM 6 5,XE 7 6 false 1 1,XD 8 6 false 7,XG 9 6 false .gtr 8 4611686018427387903,Xz 10 6 9,oM 11 10,XE 12 11 false 0 1,XD 13 11 false 12,XG 14 11 false .lss 13 (-4611686018427387903),Xz 15 11 14,oM 16 15,XE 17 16 false 0 1,XD 18 16 false 17,XG 19 16 false .gtr 18 4611686018427387903,Xz 20 16 19] (X6 20 (sQ [oK 2 5] (.ret)) (.skip))) (X7 (X7 (.quiet [oF 21 0 1,oL 22 21,XN 23 102 22,oF 24 1 1,oL 25 24,XW 26 .u64 25,XO 27 101 23 26,XU 28 .neq 27 .u64 1]) (X6 28 (sQ [oK 2 5] (.ret)) (.skip))) (sQ [oK 2 0] (.ret)))
def cy:SF:=⟨29,[.tm 2],sQ [X0 1 0,oK 2 0] cC⟩
def sS:SC:=sQ [Xv 9 2 2,oM 10 1,XZ 11 10,XO 12 66 9 11,oM 8 12,Xw 13 8 0,Xw 14 8 1,o 6 (.alloc [X8 0,.nils,.nils,.nils]),Xx 4 6 13,oM 7 14] (X7 (sQ [oM 15 7,Xu 16 .neq 15 0] (X6 16 (sQ [oM 17 7,oK 4 0,oM 5 17] (.ret)) (.skip))) (sQ [Xv 18 4 6,oM 19 1,XO 20 68 18 19,oM 4 20,oK 5 0] (.ret)))
def qE:SF:=⟨21,[.tm 4,.tm 5],sQ [X0 2 0,oK 4 0,oK 5 0] sS⟩
def gW:SC:=.ops [oA 36 15,oM 15 36]
def gV:SC:=sQ [Xt 16 .lss 15 14] (X7 (X5 16 0) (X7 (.blk 1 (sQ [oM 17 15,oM 6 17] (sQ [oM 18 5,oM 19 6,oX 20 18 19,oz (.store 1 (.t 20) (qI (-1)))] (sQ [oM 21 1,oM 22 6,Xt 23 .shr 21 22,XU 24 .and 23 .u64 1,XU 25 .eql 24 .u64 1] (X6 25 (.ops [oM 26 5,oM 27 6,oM 28 0,Xy 29 28,oF 30 2 29,oL 31 30,oM 32 6,oX 33 31 32,oL 34 33,oX 35 26 27,Xx 1 35 34]) (.skip)))))) gW))
def gX:SC:=sQ [oM 37 5,oM 4 37] (.ret)
def fF:SF:=⟨38,[.tm 4],sQ [XT 4] (sQ [oM 7 0,Xy 8 7,oF 9 2 8,oL 10 9,oN 11 10,o 12 (.mks 1 8 [X8 0] (.t 11) (.t 11)),oM 5 12] (X7 (sQ [oM 13 5,oN 14 13,oK 15 0] (.blk 0 (.loop gV))) gX))⟩
def iQ:SC:=sQ [XT 5] (.ops [oM 16 5,oM 17 3,Xx 1 0 16,Xx 1 1 17])
def cG:SF:=⟨18,[],sQ [o 6 (.raw (.call ⟨.builtin .recover,#[],#[]⟩)),oM 2 6] (sQ [oM 7 2,o 8 (.eq true (.iface true) (.t 7) (.k (.nili)))] (X6 8 (sQ [oM 10 2,o 11 (.raw (.typeAssert (.tmp 10) 20 47 true)),oM 9 11,Xw 12 9 0,Xw 13 9 1,oM 3 12,oM 4 13] (X7 (sQ [oM 14 4,XV 15 14] (X6 15 (.ops [oK 3 2]) (.skip))) iQ)) (.skip)))⟩
def nu:SC:=sQ [o 3 (.mkf 118 [] [.t 1]),oM 2 3] (.ret)
def j_:SF:=⟨4,[.tm 2],sQ [X0 1 0,o 2 (.mv (.k (.nilf)))] nu⟩
def bM:SF:=⟨17,[.tm 4],sQ [oK 4 0] (X7 (sQ [oM 6 0,XN 7 87 6,oM 8 1,XN 9 87 8,Xt 10 .sub 7 9,oM 5 10] (sQ [oM 11 5,Xu 12 .neq 11 0] (X6 12 (sQ [oM 13 5,oM 4 13] (.ret)) (.skip)))) (X7 (sQ [oM 14 0,oM 15 1,Xt 16 .lss 14 15] (X6 16 (sQ [oK 4 (-1)] (.ret)) (.skip))) (sQ [oK 4 1] (.ret))))⟩
def fV:SF:=⟨8,[.tm 2],sQ [oK 2 0] (X7 (.cond (.k (.bool false)) (sQ [oM 3 0,XW 4 .u32 3,XN 5 121 4,oM 2 5] (.ret)) (.skip)) (sQ [oM 6 0,XN 7 122 6,oM 2 7] (.ret)))⟩
def j4:SF:=⟨51,[.tm 4,.tm 5],sQ [o 4 (.mv (.k (X_ 0))),o 5 (.mv (.k (X_ 0)))] (sQ [oM 14 0,XU 15 .and 14 .u64 4294967295,oM 6 15] (sQ [oM 16 0,XU 17 .shr 16 .u64 32,oM 7 17] (sQ [oM 18 1,XU 19 .and 18 .u64 4294967295,oM 8 19] (sQ [oM 20 1,XU 21 .shr 20 .u64 32,oM 9 21] (sQ [oM 22 6,oM 23 8,Xt 24 .mul 22 23,oM 10 24] (sQ [oM 25 7,oM 26 8,Xt 27 .mul 25 26,oM 28 10,XU 29 .shr 28 .u64 32,Xt 30 .add 27 29,oM 11 30] (sQ [oM 31 11,XU 32 .and 31 .u64 4294967295,oM 12 32] (sQ [oM 33 11,XU 34 .shr 33 .u64 32,oM 13 34] (sQ [oM 35 12,oM 36 6,oM 37 9,Xt 38 .mul 36 37,Xt 39 .add 35 38,oM 12 39] (sQ [oM 40 7,oM 41 9,Xt 42 .mul 40 41,oM 43 13,Xt 44 .add 42 43,oM 45 12,XU 46 .shr 45 .u64 32,Xt 47 .add 44 46,oM 4 47] (sQ [oM 48 0,oM 49 1,Xt 50 .mul 48 49,oM 5 50] (.ret))))))))))))⟩
def mf:SC:=sQ [o 4 (.mkf 128 [] [.t 2,.t 3]),oz (.raw (.defer ⟨.value (.tmp 4),#[],#[]⟩))] (sQ [oM 5 0,o 6 (.dyn (.t 5) []),Xx 2 2 6,oz (.store 1 (.t 3) (qI 0))] (.ret))
def jc:SF:=⟨7,[.cell true 2 2,.cell false 1 3],sQ [o 2 (.alloc [X8 0,X8 0]),o 3 (.alloc [X8 0])] mf⟩
def rB:SC:=X7 (.quiet [oL 4 0,XN 5 102 4,oL 6 1,XN 7 102 6,XO 8 101 5 7,oM 3 8]) (X7 (.feet [0,1,0,4,15,0,32,0,224,480,0,1120,0,7264,15456,32767,65535] [oL 9 0,Xu 10 .lss 9 0,oL 11 1,Xu 12 .lss 11 0,o 13 (.eq true .bool (.t 10) (.t 12)),oL 14 0,XN 15 102 14,oM 16 3,Xt 17 .quo 15 16,o 18 (.build [X_ 0,X_ 0] [(0,1),(1,1)] [.k (X_ 0),.t 17]),oL 19 1,XN 20 102 19,oM 21 3,Xt 22 .quo 20 21,o 23 (.build [X_ 0,X_ 0] [(0,1),(1,1)] [.k (X_ 0),.t 22]),XP 24 103 13 18 23,Xx 2 2 24]) (.ret))
def oR:SF:=⟨25,[.cell true 2 2],sQ [o 2 (.alloc [X8 0,X8 0])] rB⟩
def pS:SC:=X7 (sQ [oM 5 1,XU 6 .neq 5 .u64 0] (X5 6 0)) (.blk 1 (.quiet [oM 7 1,oM 8 0,oM 9 1,Xt 10 .rem 8 9,oM 0 7,oM 1 10]))
def pT:SC:=sQ [oM 11 0,oM 4 11] (.ret)
def oS:SF:=⟨12,[.tm 4],sQ [o 4 (.mv (.k (X_ 0)))] (X7 (.blk 0 (.loop pS)) pT)⟩
def lp:SF:=⟨10,[.tm 2],sQ [o 2 (.mv (.k (X_ 0)))] (X7 (sQ [oM 3 0,Xu 4 .lss 3 0] (X6 4 (sQ [oM 5 0,XW 6 .u64 5,o 7 (.un .neg (.t 6)),oM 2 7] (.ret)) (.skip))) (sQ [oM 8 0,XW 9 .u64 8,oM 2 9] (.ret)))⟩
def uQ:SC:=X7 (sQ [oM 27 0] (X6 27 (sQ [o 28 (.ixa 2 1 (.t 4) (qI 1)),oL 29 28,XW 30 .i64 29,o 31 (.un .neg (.t 30)),o 32 (.ixa 2 1 (.t 5) (qI 1)),oL 33 32,XW 34 .i64 33,o 35 (.build [X8 0,X8 0] [(0,1),(1,1)] [.t 31,.t 34]),Xx 2 6 35] (.ret)) (.skip))) (sQ [o 36 (.ixa 2 1 (.t 4) (qI 1)),oL 37 36,XW 38 .i64 37,o 39 (.ixa 2 1 (.t 5) (qI 1)),oL 40 39,XW 41 .i64 40,o 42 (.build [X8 0,X8 0] [(0,1),(1,1)] [.t 38,.t 41]),Xx 2 6 42] (.ret))
def wL:SC:=X7 (sQ [o 7 (.ixa 2 1 (.t 4) (qI 0)),oL 8 7,XU 9 .neq 8 .u64 0,oM 10 9,og 11 10 false (.ixa 2 1 (.t 4) (qI 1)),XD 12 10 false 11,og 13 10 false (.bin .gtr (.t 12) (.k (X_ 4611686018427387903))),Xz 14 10 13,oM 15 14,og 16 15 false (.ixa 2 1 (.t 5) (qI 0)),XD 17 15 false 16,og 18 15 false (.bin .neq (.t 17) (.k (X_ 0))),Xz 19 15 18,oM 20 19,og 21 20 false (.ixa 2 1 (.t 5) (qI 1)),XD 22 20 false 21,og 23 20 false (.bin .gtr (.t 22) (.k (X_ 4611686018427387903))),Xz 24 20 23] (X6 24 (.ops [o 25 (.build [] [] []),o 26 (.raw (.makeInterface 195 (.tmp 25))),oz (.raw (.panic (.tmp 26)))]) (.skip))) uQ
def vN:SF:=⟨43,[.cell true 2 6],sQ [X0 4 1,X0 5 2,o 6 (.alloc [X8 0,X8 0])] wL⟩
def pZ:SC:=sQ [Xt 24 .lss 23 22] (X7 (X5 24 0) (X7 (.blk 1 (sQ [oM 25 23,oM 7 25] (.ops [oM 26 6,oM 27 7,Xv 28 5 4,oM 29 7,XO 30 129 28 29,XB 31 3 26 27,Xx 3 31 30]))) (.ops [oA 32 23,oM 23 32])))
def p_:SC:=sQ [oM 33 6,oM 2 33,oK 3 0] (.ret)
def rG:SC:=sQ [Xv 9 2 1,XN 10 105 9,oM 8 10,Xw 11 8 0,Xw 12 8 1,o 4 (.alloc [X8 0,.nils,.nils,.nils,.nils]),Xx 5 4 11,oM 5 12] (X7 (sQ [oM 13 5,Xu 14 .neq 13 0] (X6 14 (sQ [oM 15 5,XT 2,oM 3 15] (.ret)) (.skip))) (sQ [oF 16 0 4,oF 17 1 16,oL 18 17,oN 19 18,o 20 (.mks 3 72 [.nils,.nils,.nils] (.t 19) (.t 19)),oM 6 20] (X7 (sQ [oM 21 6,oN 22 21,oK 23 0] (.blk 0 (.loop pZ))) p_)))
def oY:SF:=⟨34,[.tm 2,.tm 3],sQ [X0 1 0,XT 2,oK 3 0] rG⟩
def oZ:SC:=sQ [Xt 51 .lss 50 49] (X7 (X5 51 0) (X7 (.blk 1 (sQ [oM 52 50,XB 53 3 48 50,Xv 54 3 53,o 7 (.alloc [X8 0,.nils,.nils]),oM 6 52,Xx 3 7 54] (X7 (sQ [oF 55 0 7,oL 56 55,Xu 57 .lss 56 1,oM 58 57,XE 59 58 false 0 7,XD 60 58 false 59,XG 61 58 false .gtr 60 4,Xz 62 58 61] (X6 62 (sQ [o 63 (.build [X8 0,.nils,.nils,.nils,.nils] [] []),Xx 5 2 63,oK 3 50] (.ret)) (.skip))) (sQ [oF 64 2 4,oL 65 64,oM 66 6,oF 67 0 7,oL 68 67,oX 69 65 66,Xx 1 69 68] (.ops [oM 70 5,oF 71 0 7,oL 72 71,Xt 73 .mul 70 72,oM 5 73]))))) (.ops [oA 74 50,oM 50 74])))
def o5:SC:=sQ [Xt 91 .lss 90 89] (X7 (X5 91 4) (X7 (.blk 5 (sQ [oX 92 88 90,oL 93 92,oM 12 93] (X7 (sQ [oM 94 12,oM 95 10,Xt 96 .leq 94 95,oM 97 96,XC 98 97 false 12,XE 99 97 false 0 4,XE 100 97 false 1 99,XD 101 97 false 100,XH 102 97 false 101,XF 103 97 false .geq 98 102,Xz 104 97 103,oM 105 104,XC 106 105 false 12,XC 107 105 false 8,XF 108 105 false .eql 106 107,Xz 109 105 108] (X6 109 (sQ [o 110 (.build [X8 0,.nils,.nils,.nils,.nils] [] []),Xx 5 2 110,oK 3 50] (.ret)) (.skip))) (sQ [oM 111 12,oM 10 111] (.feet [0,1,0,7,15,0,32,127,255,511] [oF 112 3 4,oL 113 112,oM 114 8,oX 115 113 114,oL 116 115,oM 117 12,o 118 (.bin .shl (.k (X_ 1)) (.t 117)),Xt 119 .or 116 118,oX 120 113 114,Xx 1 120 119]))))) (.ops [oA 121 90,oM 90 121])))
def o7:SC:=sQ [Xv 122 5 4,Xv 123 3 9,XO 124 130 122 123,XV 125 124] (X6 125 (sQ [o 126 (.build [X8 0,.nils,.nils,.nils,.nils] [] []),Xx 5 2 126,oK 3 50] (.ret)) (.skip))
def uU:SC:=.ops [oA 127 82,oM 82 127]
def o6:SC:=sQ [Xt 83 .lss 82 81] (X7 (X5 83 2) (X7 (.blk 3 (sQ [oM 84 82,XB 85 3 80 82,Xv 86 3 85,o 9 (.alloc [X8 0,.nils,.nils]),oM 8 84,Xx 3 9 86] (sQ [oK 10 (-1)] (X7 (sQ [oF 87 1 9,oL 88 87,oN 89 88,oK 90 0] (.blk 4 (.loop o5))) o7)))) uU))
def o8:SC:=sQ [oF 129 3 4,oL 130 129,XN 131 131 130,oM 128 131,Xw 132 128 0,Xw 133 128 1,oM 13 132,oM 14 133] (X7 (sQ [oM 134 14,XV 135 134] (X6 135 (sQ [o 136 (.build [X8 0,.nils,.nils,.nils,.nils] [] []),Xx 5 2 136,oK 3 50] (.ret)) (.skip))) (sQ [oM 137 13,oF 138 4 4,Xx 1 138 137] (sQ [Xv 139 5 4,Xx 5 2 139,oK 3 0] (.ret))))
def uV:SC:=X7 (sQ [oM 75 5,Xu 76 .gtr 75 1024] (X6 76 (sQ [o 77 (.build [X8 0,.nils,.nils,.nils,.nils] [] []),Xx 5 2 77,oK 3 50] (.ret)) (.skip))) (X7 (sQ [oF 78 0 4,oF 79 1 78,oL 80 79,oN 81 80,oK 82 0] (.blk 2 (.loop o6))) o8)
def wM:SC:=X7 (sQ [oF 15 0 1,oL 16 15,Xu 17 .lss 16 1,oM 18 17,XE 19 18 false 0 1,XD 20 18 false 19,XG 21 18 false .gtr 20 60,Xz 22 18 21,oM 23 22,XE 24 23 false 1 1,XD 25 23 false 24,XH 26 23 false 25,XG 27 23 false .lss 26 1,Xz 28 23 27,oM 29 28,XE 30 29 false 1 1,XD 31 29 false 30,XH 32 29 false 31,XG 33 29 false .gtr 32 8,Xz 34 29 33] (X6 34 (sQ [o 35 (.build [X8 0,.nils,.nils,.nils,.nils] [] []),Xx 5 2 35,oK 3 50] (.ret)) (.skip))) (X7 (.feet [0,0,2,6,14,0,32,96,224,511,0,2047] [Xv 36 2 1,oF 37 1 1,oL 38 37,oN 39 38,o 40 (.mks 1 8 [X8 0] (.t 39) (.t 39)),oF 41 1 1,oL 42 41,oN 43 42,o 44 (.mks 1 8 [X_ 0] (.t 43) (.t 43)),o 45 (.build [X8 0,.nils,.nils,.nils,.nils] [(0,2),(2,1),(3,1)] [.t 36,.t 40,.t 44]),o 4 (.alloc [X8 0,.nils,.nils,.nils,.nils]),Xx 5 4 45]) (sQ [oK 5 1] (X7 (sQ [oF 46 0 4,oF 47 1 46,oL 48 47,oN 49 48,oK 50 0] (.blk 0 (.loop oZ))) uV)))
def nj:SF:=⟨140,[.cell true 5 2,.tm 3],sQ [X0 1 0,o 2 (.alloc [X8 0,.nils,.nils,.nils,.nils]),oK 3 0] wM⟩
def fH:SC:=sQ [o 5 (.mkf 132 [] [.t 2,.t 3]),oM 4 5] (.ret)
def dz:SF:=⟨6,[.tm 4],sQ [X0 2 0,X0 3 1,o 4 (.mv (.k (.nilf)))] fH⟩
def d9:SC:=.ops [o 8 (.alloc [X8 0,X8 0,.nils]),Xx 3 8 15]
def cp:SC:=sQ [Xt 24 .lss 23 22] (X7 (X5 24 2) (X7 (.blk 3 (sQ [oM 25 23,oX 26 21 23,oL 27 26,oM 9 25,oM 10 27] (.feet [0,0,0,6,15,0,32,127,111,367,1023] [oL 28 6,oM 29 9,oM 30 10,o 31 (.build [X8 0,X8 0] [(0,1),(1,1)] [.t 29,.t 30]),o 32 (.raw (.lookup 200 (.tmp 28) (.tmp 31) false)),oF 33 1 8,oL 34 33,Xt 35 .add 32 34,o 36 (.raw (.mapEntry 200 (.tmp 28) (.tmp 31))),Xw 37 36 1,oz (.raw (.entryStore 200 (.tmp 28) (.tmp 37) (.tmp 35)))]))) (.ops [oA 38 23,oM 23 38])))
def d_:SC:=.blk 1 (sQ [oL 16 7,oF 17 1 8,oL 18 17,Xt 19 .add 16 18,Xx 1 7 19] (sQ [oF 20 2 8,oL 21 20,oN 22 21,oK 23 0] (.blk 2 (.loop cp))))
def ct:SC:=X7 (sQ [oL 39 7,Xu 40 .eql 39 0] (X6 40 (sQ [o 4 (.mv (.k (.nilf))),oK 5 7] (.ret)) (.skip))) (sQ [o 41 (.mkf 135 [] [.t 2,.t 6,.t 7]),oM 4 41,oK 5 0] (.ret))
def eP:SC:=sQ [o 11 (.raw (.makeMap 200 none)),o 6 (.alloc [.nilm]),o 7 (.alloc [X8 0]),Xx 1 6 11,oz (.store 1 (.t 7) (qI 0))] (X7 (sQ [Xv 12 4 2,oM 13 1,XO 14 106 12 13] (.blk 0 (.rng 42 (.t 14) [15] d9 d_))) ct)
def cV:SF:=⟨42,[.tm 4,.tm 5],sQ [X0 2 0,o 4 (.mv (.k (.nilf))),oK 5 0] eP⟩
def pR:SC:=X7 (sQ [Xv 9 2 3,XN 10 77 9,Xu 11 .neq 10 0,oM 12 11,og 13 12 false (.load true 2 (.t 4)),og 14 12 false (.call 77 [.t 13]),XG 15 12 false .neq 14 0,Xz 16 12 15] (X6 16 (sQ [oK 8 0] (sQ [oM 17 8,oM 6 17,oK 7 5] (.ret))) (.skip))) (sQ [o 18 (.mkf 137 [] [.t 5,.t 3,.t 4]),XN 19 136 18,Xw 20 19 0,Xw 21 19 1,oM 6 20,oM 7 21] (.ret))
def nc:SF:=⟨22,[.tm 6,.tm 7],sQ [X0 3 0,X0 4 1,X0 5 2,oK 6 0,oK 7 0] pR⟩
def sO:SC:=X7 (.feet [0,1,3,0,8,24,63,0,128,511,0,1024,3072,8191,0,0,65535,131071] [oF 7 0 2,oL 8 7,XN 9 102 8,oF 10 1 3,oL 11 10,XW 12 .u64 11,XO 13 110 9 12,oF 14 0 3,oL 15 14,XN 16 102 15,oF 17 1 2,oL 18 17,XW 19 .u64 18,XO 20 110 16 19,o 5 (.alloc [X_ 0,X_ 0]),o 6 (.alloc [X_ 0,X_ 0]),Xx 2 5 13,Xx 2 6 20]) (X7 (.blk 0 (sQ [oF 22 0 2,oL 23 22,Xu 24 .lss 23 0,oF 25 0 3,oL 26 25,Xu 27 .lss 26 0,o 28 (.eq true .bool (.t 24) (.t 27)),oM 21 28] (X6 21 (X7 (sQ [oF 29 0 2,oL 30 29,Xu 31 .lss 30 0] (X6 31 (sQ [oK 4 (-1)] (.ret)) (.skip))) (sQ [oK 4 1] (.ret))) (sQ [Xv 33 2 5,Xv 34 2 6,o 35 (.eq false (.flat [.int .u64,.int .u64]) (.t 33) (.t 34)),oM 32 35] (X6 32 (sQ [oK 4 0] (.ret)) (X7 (.quiet [Xv 37 2 5,Xv 38 2 6,XO 39 111 37 38,oF 40 0 2,oL 41 40,Xu 42 .geq 41 0,o 43 (.eq false .bool (.t 39) (.t 42)),oM 36 43]) (X6 36 (sQ [oK 4 (-1)] (.ret)) (.skip)))))))) (sQ [oK 4 1] (.ret)))
def mD:SF:=⟨44,[.tm 4],sQ [X0 2 0,X0 3 1,oK 4 0] sO⟩
def sR:SC:=sQ [oM 8 0,oM 9 1,XO 10 90 8 9,oM 7 10,Xw 11 7 0,Xw 12 7 1,oM 5 11,oM 6 12] (sQ [oM 13 5,oM 14 6,o 15 (.build [X_ 0,X_ 0] [(0,1),(1,1)] [.t 13,.t 14]),Xx 2 4 15] (.ret))
def qD:SF:=⟨16,[.cell true 2 4],sQ [o 4 (.alloc [X_ 0,X_ 0])] sR⟩
def kK:SC:=sQ [o 5 (.ixa 2 1 (.t 2) (qI 0)),oL 6 5,o 7 (.ixa 2 1 (.t 3) (qI 0)),oL 8 7,Xt 9 .lss 6 8,oM 10 9,og 11 10 false (.ixa 2 1 (.t 2) (qI 0)),XD 12 10 false 11,og 13 10 false (.ixa 2 1 (.t 3) (qI 0)),XD 14 10 false 13,XF 15 10 false .eql 12 14,XC 16 10 false 15,og 17 16 true (.ixa 2 1 (.t 2) (qI 1)),XD 18 16 true 17,og 19 16 true (.ixa 2 1 (.t 3) (qI 1)),XD 20 16 true 19,XF 21 16 true .lss 18 20,og 22 10 false (.pick (.t 16) (.t 21) (.k (.bool false))),Xz 23 10 22,oM 4 23] (.ret)
def lj:SF:=⟨24,[.tm 4],sQ [X0 2 0,X0 3 1,XS 4 false] kK⟩
def jH:SC:=X7 (sQ [oM 5 0,oM 6 3,o 7 (.dyn (.t 5) [.t 6]),oM 8 7,XC 9 8 true 3,og 10 8 true (.bin .neq (.t 9) (.k (X_ 0))),XA 11 8 10] (X5 11 0)) (.blk 1 (.ops [oM 12 3,XU 13 .sub 12 .u64 1,oL 14 1,Xt 15 .and 13 14,oM 3 15]))
def cx:SF:=⟨16,[],sQ [oL 4 1,oM 3 4] (.blk 0 (.loop jH))⟩
def eW:SF:=⟨35,[.tm 2],sQ [oK 2 0] (sQ [oM 3 0,XU 4 .shr 3 .u64 1,XU 5 .and 4 .u64 6148914691236517205,oM 6 0,XU 7 .and 6 .u64 6148914691236517205,Xt 8 .add 5 7,oM 0 8] (sQ [oM 9 0,XU 10 .shr 9 .u64 2,XU 11 .and 10 .u64 3689348814741910323,oM 12 0,XU 13 .and 12 .u64 3689348814741910323,Xt 14 .add 11 13,oM 0 14] (sQ [oM 15 0,XU 16 .shr 15 .u64 4,oM 17 0,Xt 18 .add 16 17,XU 19 .and 18 .u64 1085102592571150095,oM 0 19] (sQ [oM 20 0,oM 21 0,XU 22 .shr 21 .u64 8,Xt 23 .add 20 22,oM 0 23] (sQ [oM 24 0,oM 25 0,XU 26 .shr 25 .u64 16,Xt 27 .add 24 26,oM 0 27] (sQ [oM 28 0,oM 29 0,XU 30 .shr 29 .u64 32,Xt 31 .add 28 30,oM 0 31] (sQ [oM 32 0,XW 33 .i64 32,Xu 34 .and 33 127,oM 2 34] (.ret))))))))⟩
def gH:SF:=⟨6,[],sQ [o 3 (.raw (.call ⟨.builtin .recover,#[],#[]⟩)),o 4 (.eq true (.iface true) (.t 3) (.k (.nili)))] (X6 4 (sQ [o 2 (.alloc [X8 0,X8 0])] (.ops [Xv 5 2 2,Xx 2 0 5,oz (.store 1 (.t 1) (qI 6))])) (.skip))⟩
def iG:SC:=.ops [oA 65 40,oM 40 65]
def ej:SC:=sQ [Xt 41 .lss 40 39] (X7 (X5 41 0) (X7 (.blk 1 (sQ [oM 42 40,oX 43 38 40,oL 44 43,oM 10 42,oM 11 44] (X7 (.feet [0,1,0,4,0,28,60,124,255,511,1023] [oF 45 1 8,oL 46 45,oF 47 2 2,oL 48 47,oM 49 11,oX 50 48 49,oL 51 50,XY 52 51,XR 53 1 8 46 52,oF 54 1 8,Xx 1 54 53]) (sQ [oM 55 10,oM 56 6,Xt 57 .gtr 55 56] (X6 57 (.feet [0,0,2,0,14,30,63,127] [oL 58 9,oF 59 2 2,oL 60 59,oM 61 11,oX 62 60 61,oL 63 62,Xt 64 .mul 58 63,Xx 1 9 64]) (.skip)))))) iG))
def eh:SC:=sQ [oM 12 76] (.ops [oM 13 77])
def eo:SC:=sQ [Xt 81 .lss 80 79] (X7 (X5 81 4) (X7 (.blk 5 (sQ [oM 82 80,oX 83 78 80,oL 84 83,oM 14 82,oM 15 84] (.feet [0,1,0,0,12,0,32,124,0,508,0,2044,0,0,12288,32764,0,131071,262143] [oF 85 2 8,oL 86 85,oM 87 12,oL 88 9,Xt 89 .quo 87 88,oF 90 0 5,oL 91 90,Xt 92 .mul 89 91,oM 93 14,Xt 94 .add 92 93,oL 95 9,Xt 96 .mul 94 95,oM 97 12,oL 98 9,Xt 99 .rem 97 98,Xt 100 .add 96 99,oM 101 15,oX 102 86 100,Xx 1 102 101]))) (.ops [oA 103 80,oM 80 103])))
def eA:SC:=.blk 3 (sQ [oM 78 13,oN 79 78,oK 80 0] (.blk 4 (.loop eo)))
def iH:SC:=sQ [Xv 104 3 8,Xx 3 4 104] (.ret)
def iI:SC:=sQ [oF 66 2 5,oL 67 66,oN 68 67,oF 69 0 5,oL 70 69,Xt 71 .mul 68 70,o 72 (.mks 1 8 [X8 0] (.t 71) (.t 71)),oF 73 2 8,Xx 1 73 72] (X7 (sQ [Xv 74 3 5,XN 75 156 74] (.blk 2 (.rng 105 (.t 75) [76,77] eh eA))) iH)
def jj:SC:=sQ [oF 16 0 2,oF 17 1 16,oL 18 17,oM 19 1,XB 20 3 18 19,Xv 21 3 20,o 5 (.alloc [X8 0,.nils,.nils]),Xx 3 5 21] (sQ [oF 23 1 5,oL 24 23,oM 25 1,XO 26 153 24 25,oM 22 26,Xw 27 22 0,Xw 28 22 1,oM 6 27,oM 7 28] (sQ [oF 29 1 5,oL 30 29,XN 31 155 30,oM 32 6,oM 33 1,XY 34 33,XP 35 154 31 32 34,o 36 (.build [.nils,.nils,.nils] [(0,1)] [.t 35]),o 8 (.alloc [.nils,.nils,.nils]),Xx 3 8 36] (sQ [o 9 (.alloc [X8 0]),oz (.store 1 (.t 9) (qI 1))] (X7 (sQ [oF 37 0 8,oL 38 37,oN 39 38,oK 40 0] (.blk 0 (.loop ej))) iI))))
def fW:SF:=⟨105,[.cell true 3 4],sQ [X0 2 0,o 4 (.alloc [.nils,.nils,.nils])] jj⟩
def iK:SC:=sQ [Xt 17 .lss 16 15] (X7 (X5 17 0) (X7 (.blk 1 (sQ [oX 18 14 16,oL 19 18,oM 7 19] (.ops [oM 20 5,oF 21 2 2,oL 22 21,oM 23 7,oX 24 22 23,oL 25 24,Xt 26 .mul 20 25,oM 5 26]))) (.ops [oA 27 16,oM 16 27])))
def iJ:SC:=.ops [oM 9 36]
def eB:SC:=sQ [Xt 43 .lss 42 41] (X7 (X5 43 4) (X7 (.blk 5 (sQ [oX 44 40 42,oL 45 44,oM 12 45] (X7 (sQ [oM 46 12,Xu 47 .lss 46 0,oM 48 47,XC 49 48 false 12,XC 50 48 false 10,XF 51 48 false .gtr 49 50,Xz 52 48 51] (X6 52 (sQ [oz (.store 1 (.t 4) (.k (.bool false)))] (.ret)) (.skip))) (.ops [oM 53 10,oM 54 12,Xt 55 .sub 53 54,oM 10 55])))) (.ops [oA 56 42,oM 42 56])))
def cL:SC:=sQ [oM 57 9,oN 58 57,oF 59 0 3,oL 60 59,Xt 61 .neq 58 60,oM 62 61,XC 63 62 false 10,XG 64 62 false .neq 63 0,Xz 65 62 64] (X6 65 (sQ [oz (.store 1 (.t 4) (.k (.bool false)))] (.ret)) (.skip))
def iL:SC:=.blk 3 (sQ [oF 37 0 2,oF 38 0 37,oL 39 38,oM 10 39] (X7 (sQ [oM 40 9,oN 41 40,oK 42 0] (.blk 4 (.loop eB))) cL))
def iM:SC:=sQ [oz (.store 1 (.t 4) (.k (.bool true)))] (.ret)
def iO:SC:=X7 (sQ [oF 28 2 3,oL 29 28,oN 30 29,oM 31 5,Xt 32 .neq 30 31] (X6 32 (sQ [oz (.store 1 (.t 4) (.k (.bool false)))] (.ret)) (.skip))) (X7 (sQ [Xv 33 3 3,XN 34 156 33] (.blk 2 (.rng 66 (.t 34) [35,36] iJ iL))) iM)
def jk:SC:=sQ [oK 5 1] (X7 (sQ [oF 13 1 3,oL 14 13,oN 15 14,oK 16 0] (.blk 0 (.loop iK))) iO)
def fX:SF:=⟨66,[.cell false 1 4],sQ [X0 2 0,X0 3 1,o 4 (.alloc [.bool false])] jk⟩
def rI:SC:=sQ [Xt 19 .lss 18 17] (X7 (X5 19 2) (X7 (.blk 3 (sQ [oM 20 18,oX 21 16 18,oL 22 21,oM 6 20,oM 7 22] (sQ [oM 23 5,oM 24 6,Xt 25 .shr 23 24,XU 26 .and 25 .u64 1,XU 27 .eql 26 .u64 0,oM 28 27,XC 29 28 true 7,XC 30 28 true 5,XF 31 28 true .andNot 29 30,og 32 28 true (.bin .eql (.t 31) (.k (X_ 0))),XA 33 28 32] (X6 33 (sQ [oM 34 4,oM 35 6,XY 36 35,XR 37 1 8 34 36,oM 4 37] (sQ [oM 38 5,oM 39 6,o 40 (.bin .shl (.k (X_ 1)) (.t 39)),Xt 41 .or 38 40,oM 5 41] (.exit 1))) (.skip))))) (.ops [oA 42 18,oM 18 42])))
def rK:SC:=sQ [XT 2,XS 3 false] (.ret)
def rJ:SC:=X7 (sQ [oM 11 4,oN 12 11,oM 13 0,oN 14 13,Xt 15 .lss 12 14] (X5 15 0)) (.blk 1 (X7 (sQ [oM 16 0,oN 17 16,oK 18 0] (.blk 2 (.loop rI))) rK))
def rL:SC:=sQ [oM 43 4,oM 2 43,XS 3 true] (.ret)
def qJ:SF:=⟨44,[.tm 2,.tm 3],sQ [XT 2,XS 3 false] (sQ [oM 8 0,oN 9 8,o 10 (.mks 1 8 [X8 0] (qI 0) (.t 9)),oM 4 10,o 5 (.mv (.k (X_ 0)))] (X7 (.skip) (X7 (.blk 0 (.loop rJ)) rL)))⟩
def bF:SC:=X7 (X7 (.quiet [oM 31 6,Xu 32 .geq 31 0,oM 33 32,XC 34 33 true 4,XC 35 33 true 6,XX 36 33 true 1 34 35,XD 37 33 true 36,XE 38 33 true 0 1,XE 39 33 true 1 38,XD 40 33 true 39,XC 41 33 true 6,XX 42 33 true 3 40 41,XE 43 33 true 0 42,XD 44 33 true 43,XG 45 33 true .sub 44 1,XF 46 33 true .eql 37 45,XA 47 33 46]) (X5 47 2)) (.blk 3 (sQ [oM 48 4,oM 49 6,oX 50 48 49,oz (.store 1 (.t 50) (qI 0))] (.ops [oM 51 6,Xu 52 .sub 51 1,oM 6 52])))
def bG:SC:=X7 (sQ [oM 53 6,Xu 54 .lss 53 0] (X6 54 (.ret) (.skip))) (.ops [oM 55 4,oM 56 6,oX 57 55 56,oL 58 57,oA 59 58,oX 60 55 56,Xx 1 60 59])
def co:SC:=X4 12 5 13 12 5 13
def d8:SC:=X7 (.blk 1 (X7 (sQ [oM 14 4,oL 15 2,XO 16 133 14 15,oM 17 16,XC 18 17 true 0,XC 19 17 true 5,og 20 17 true (.load true 4 (.t 1)),XC 21 17 true 4,og 22 17 true (.call 134 [.t 20,.t 21]),XC 23 17 true 4,og 24 17 true (.build [X8 0,X8 0,.nils] [(0,1),(1,1),(2,1)] [.t 19,.t 22,.t 23]),og 25 17 true (.dyn (.t 18) [.t 24]),og 26 17 true (.not (.t 25)),XA 27 17 26] (X6 27 (.ret) (.skip))) (sQ [oM 28 4,oN 29 28,Xu 30 .sub 29 1,oM 6 30] (X7 (.blk 2 (.loop bF)) bG)))) co
def aF:SF:=⟨61,[],sQ [oF 7 0 1,oF 8 1 7,oL 9 8,oN 10 9,o 11 (.mks 1 8 [X8 0] (.t 10) (.t 10)),oM 4 11] (sQ [oK 5 0] (.blk 0 (.loop d8)))⟩
def ni:SC:=sQ [Xt 11 .lss 10 9] (X7 (X5 11 0) (X7 (.blk 1 (sQ [oM 12 10,oX 13 8 10,oL 14 13,oM 6 12,oM 7 14] (sQ [oM 15 7] (.blk 2 (X7 (sQ [Xu 17 .eql 15 (-1),oM 16 17] (X6 16 (.skip) (.ops [oM 18 0,oM 19 6,oX 20 18 19,oL 21 20,Xt 22 .eql 15 21,oM 16 22]))) (X6 16 (.skip) (sQ [XS 5 false] (.exit 0)))))))) (.ops [oA 23 10,oM 10 23])))
def io:SC:=sQ [oM 24 5,oM 4 24] (.ret)
def lT:SF:=⟨25,[.tm 4],sQ [XS 4 false] (sQ [XS 5 true] (X7 (.skip) (X7 (sQ [oM 8 1,oN 9 8,oK 10 0] (.blk 0 (.loop ni))) io)))⟩
def dm:SC:=sQ [Xt 23 .lss 22 21] (X7 (X5 23 2) (X7 (.blk 3 (sQ [oX 24 20 22,oL 25 24,oM 10 25] (.quiet [oM 26 8,oM 27 1,oM 28 10,oX 29 27 28,oL 30 29,oF 31 3 2,oL 32 31,oM 33 6,oX 34 32 33,oL 35 34,oM 36 10,oX 37 35 36,oL 38 37,Xt 39 .mul 30 38,Xt 40 .add 26 39,oM 8 40]))) (.ops [oA 41 22,oM 22 41])))
def fS:SC:=.ops [oM 42 5,oF 43 2 7,oL 44 43,oM 45 8,oX 46 44 45,oL 47 46,Xt 48 .mul 42 47,oM 5 48]
def fT:SC:=.ops [oA 49 14,oM 14 49]
def fR:SC:=sQ [Xt 15 .lss 14 13] (X7 (X5 15 0) (X7 (.blk 1 (sQ [oM 16 14,XB 17 3 12 14,Xv 18 3 17,o 7 (.alloc [.nils,.nils,.nils]),oM 6 16,Xx 3 7 18] (sQ [oK 8 0] (X7 (sQ [oF 19 0 7,oL 20 19,oN 21 20,oK 22 0] (.blk 2 (.loop dm))) fS)))) fT))
def fU:SC:=sQ [oM 50 5,oM 4 50] (.ret)
def gB:SC:=sQ [oK 5 1] (X7 (sQ [oF 11 2 2,oL 12 11,oN 13 12,oK 14 0] (.blk 0 (.loop fR))) fU)
def ea:SF:=⟨51,[.tm 4],sQ [X0 2 0,oK 4 0] gB⟩
def dK:SC:=sQ [Xt 22 .lss 21 20] (X7 (X5 22 0) (X7 (.blk 1 (sQ [oM 23 21,oM 8 23] (X7 (.feet [0,0,0,6,15,0,63,127,255,255,0,1535,4095] [oL 25 2,oM 26 0,oM 27 8,o 28 (.build [X8 0,X8 0] [(0,1),(1,1)] [.t 26,.t 27]),o 29 (.raw (.lookup 200 (.tmp 25) (.tmp 28) false)),oL 30 3,XO 31 65 29 30,oM 24 31,Xw 32 24 0,Xw 33 24 1,o 9 (.alloc [X8 0,X8 0]),Xx 2 9 32,oM 10 33]) (X7 (sQ [oM 34 10,Xu 35 .neq 34 0] (X6 35 (sQ [oM 36 10,XT 5,oM 6 36] (.ret)) (.skip))) (.ops [oM 37 7,oM 38 8,Xv 39 2 9,XB 40 2 37 38,Xx 2 40 39]))))) (.ops [oA 41 21,oM 21 41])))
def dL:SC:=sQ [oM 42 7,oM 5 42,oK 6 0] (.ret)
def cD:SF:=⟨43,[.tm 5,.tm 6],sQ [XT 5,oK 6 0] (sQ [oF 11 0 1,oF 12 1 11,oL 13 12,oM 14 0,XB 15 3 13 14,oF 16 0 15,oL 17 16,o 18 (.mks 2 16 [X8 0,X8 0] (.t 17) (.t 17)),oM 7 18] (X7 (sQ [oM 19 7,oN 20 19,oK 21 0] (.blk 0 (.loop dK))) dL))⟩
def oh:SC:=sQ [o 4 (.mkf 157 [] [.t 2,.t 3]),oz (.raw (.defer ⟨.value (.tmp 4),#[],#[]⟩))] (sQ [oM 5 0,o 6 (.dyn (.t 5) []),Xx 1 2 6,oz (.store 1 (.t 3) (qI 0))] (.ret))
def lS:SF:=⟨7,[.cell false 1 2,.cell false 1 3],sQ [o 2 (.alloc [X8 0]),o 3 (.alloc [X8 0])] oh⟩
def j3:SF:=⟨8,[.tm 3],sQ [oK 3 0] (sQ [oL 4 0,Xv 5 2 1,Xv 6 2 2,o 7 (.dyn (.t 4) [.t 5,.t 6]),oM 3 7] (.ret))⟩
def eD:SC:=X7 (sQ [oM 13 7,oM 14 8,Xt 15 .lss 13 14] (X5 15 0)) (.blk 1 (sQ [oM 16 7,oM 17 8,Xt 18 .add 16 17,XW 19 .u64 18,XU 20 .shr 19 .u64 1,XW 21 .i64 20,oM 9 21] (sQ [oM 22 0,oM 23 9,oX 24 22 23,oL 25 24,oM 26 1,XO 27 165 25 26] (X6 27 (X4 28 9 29 28 7 29) (.ops [oM 30 9,oM 8 30])))))
def eE:SC:=sQ [oM 31 7,oM 32 7,oM 33 6,Xt 34 .lss 32 33,oM 35 34,XC 36 35 true 0,XC 37 35 true 7,XX 38 35 true 1 36 37,XD 39 35 true 38,XC 40 35 true 1,XF 41 35 true .eql 39 40,XC 42 35 true 41,XC 43 42 false 0,XC 44 42 false 7,XX 45 42 false 1 43 44,XD 46 42 false 45,og 47 42 false (.call 166 [.t 46]),XC 48 42 false 47,XC 49 48 true 1,og 50 48 true (.call 166 [.t 49]),og 51 42 false (.pick (.t 48) (.t 50) (.k (.bool false))),og 52 35 true (.pick (.t 42) (.k (.bool true)) (.t 51)),XA 53 35 52,oM 4 31,oM 5 53] (.ret)
def cY:SF:=⟨54,[.tm 4,.tm 5],sQ [oK 4 0,XS 5 false] (sQ [oM 10 0,oN 11 10,oM 6 11] (sQ [oM 12 6,oK 7 0,oM 8 12] (X7 (.blk 0 (.loop eD)) eE)))⟩
def dM:SF:=⟨8,[.tm 2],sQ [XT 2] (X7 (sQ [oM 3 0,o 4 (.eq false .slice (.t 3) (.k (.nils)))] (X6 4 (sQ [XT 2] (.ret)) (.skip))) (sQ [o 5 (.bsl 1 0 [X8 0] [] []),oM 6 0,XR 7 1 8 5 6,oM 2 7] (.ret)))⟩
def wN:SC:=sQ [o 3 (.mkf 169 [] [.t 1]),oM 2 3] (.ret)
def vO:SF:=⟨4,[.tm 2],sQ [X0 1 0,o 2 (.mv (.k (.nilf)))] wN⟩
def jd:SF:=⟨6,[],sQ [o 3 (.raw (.call ⟨.builtin .recover,#[],#[]⟩)),o 4 (.eq true (.iface true) (.t 3) (.k (.nili)))] (X6 4 (sQ [oK 2 0] (.ops [oM 5 2,Xx 1 0 5,oz (.store 1 (.t 1) (qI 6))])) (.skip))⟩
def oQ:SF:=⟨17,[.tm 4],sQ [XS 4 false] (sQ [oM 5 0,XN 6 172 5,oM 7 6,XC 8 7 true 1,og 9 7 true (.call 172 [.t 8]),og 10 7 true (.not (.t 9)),XA 11 7 10,oM 12 11,XC 13 12 false 0,XC 14 12 false 1,XF 15 12 false .lss 13 14,Xz 16 12 15,oM 4 16] (.ret))⟩
def jr:SF:=⟨6,[.tm 2],sQ [XS 2 false] (sQ [oM 3 0,oM 4 0,Xt 5 .neq 3 4,oM 2 5] (.ret))⟩
def rH:SC:=sQ [Xt 9 .lss 8 7] (X7 (X5 9 0) (X7 (.blk 1 (sQ [oM 10 8,oX 11 6 8,oL 12 11,oM 3 10,oM 4 12] (sQ [oM 13 0,oM 14 3,oM 15 4,o 16 (.dyn (.t 13) [.t 14,.t 15]),XV 17 16] (X6 17 (.ret) (.skip))))) (.ops [oA 18 8,oM 8 18])))
def gu:SF:=⟨19,[],sQ [oF 5 2 1,oL 6 5,oN 7 6,oK 8 0] (.blk 0 (.loop rH))⟩
def na:SF:=⟨6,[.tm 2],sQ [XS 2 false] (sQ [oM 3 0,oM 4 0,Xt 5 .neq 3 4,oM 2 5] (.ret))⟩
theorem sJ[XOc]:nFn C0 6=some gI:=by kernel_rfl
theorem vK[XOc]:nFn C0 7=some jq:=by kernel_rfl
@[reducible] def XL[XOc](f:Nat):Prop:=∀(d:Nat)(xs:List AV)(g:G),ae C0 d f xs g=ac (I C0) d g f xs
@[reducible] def XM[XOc](f:Nat):Prop:=∀(t:T)(g:G)(xs:List Od),SO.foot C0 t g (.call f xs)=am ((eH t xs).flatMap (aw g.h an))
theorem sB[XOc]:XL 7:=λ_ _ _=>by kernel_rfl
theorem At[XOc]:nFn C0 8=some pc:=by kernel_rfl
theorem ko[XOc]:XM 8:=λ_ _ _=>by kernel_rfl
theorem xI[XOc]:XL 8:=λ_ _ _=>by kernel_rfl
theorem wI[XOc]:nFn C0 9=some kg:=by kernel_rfl
theorem gP[XOc]:XM 9:=λ_ _ _=>by kernel_rfl
theorem uA[XOc]:XL 9:=λ_ _ _=>by kernel_rfl
theorem yU[XOc]:nFn C0 11=some nk:=by kernel_rfl
theorem xP[XOc]:nFn C0 13=some lX:=by kernel_rfl
theorem Ar[XOc]:nFn C0 15=some o9:=by kernel_rfl
theorem wJ[XOc]:nFn C0 17=some kh:=by kernel_rfl
theorem uB[XOc]:XL 17:=λ_ _ _=>by kernel_rfl
theorem An[XOc]:nFn C0 23=some oT:=by kernel_rfl
theorem xD[XOc]:XL 23:=λ_ _ _=>by kernel_rfl
theorem BV[XOc]:nFn C0 24=some qF:=by kernel_rfl
theorem yL[XOc]:XL 24:=λ_ _ _=>by kernel_rfl
theorem Ap[XOc]:nFn C0 25=some oV:=by kernel_rfl
theorem xF[XOc]:XL 25:=λ_ _ _=>by kernel_rfl
theorem Ao[XOc]:nFn C0 26=some oU:=by kernel_rfl
theorem xE[XOc]:XL 26:=λ_ _ _=>by kernel_rfl
theorem BX[XOc]:nFn C0 27=some qG:=by kernel_rfl
theorem yM[XOc]:XL 27:=λ_ _ _=>by kernel_rfl
theorem BY[XOc]:nFn C0 28=some qH:=by kernel_rfl
theorem yN[XOc]:XL 28:=λ_ _ _=>by kernel_rfl
theorem m_[XOc]:nFn C0 29=some dD:=by kernel_rfl
theorem l6[XOc]:XM 29:=λ_ _ _=>by kernel_rfl
theorem lO[XOc]:XL 29:=λ_ _ _=>by kernel_rfl
theorem B1[XOc]:nFn C0 30=some qL:=by kernel_rfl
theorem yP[XOc]:XL 30:=λ_ _ _=>by kernel_rfl
theorem sN[XOc]:nFn C0 31=some gO:=by kernel_rfl
theorem qw[XOc]:XL 31:=λ_ _ _=>by kernel_rfl
theorem DW[XOc]:nFn C0 32=some td:=by kernel_rfl
theorem Ay[XOc]:XM 32:=λ_ _ _=>by kernel_rfl
theorem zV[XOc]:XL 32:=λ_ _ _=>by kernel_rfl
theorem B2[XOc]:nFn C0 33=some qM:=by kernel_rfl
theorem yQ[XOc]:XL 33:=λ_ _ _=>by kernel_rfl
theorem uD[XOc]:nFn C0 34=some ip:=by kernel_rfl
theorem wF[XOc]:nFn C0 35=some j5:=by kernel_rfl
theorem wG[XOc]:nFn C0 36=some j9:=by kernel_rfl
theorem nW[XOc]:nFn C0 37=some dT:=by kernel_rfl
theorem m9[XOc]:nFn C0 38=some dC:=by kernel_rfl
theorem fQ[XOc]:nFn C0 39=some bp:=by kernel_rfl
theorem l0[XOc](t:T)(g:G)(xs:List Od):SO.foot C0 t g (.call 39 xs)=cK:=by kernel_rfl
theorem lN[XOc](d:Nat)(xs:List AV)(g:G):ae C0 d 39 xs g=orF ((I C0).call d 39 xs g):=by kernel_rfl
theorem m8[XOc]:nFn C0 40=some dA:=by kernel_rfl
theorem lM[XOc]:XL 40:=λ_ _ _=>by kernel_rfl
theorem uE[XOc]:nFn C0 44=some iq:=by kernel_rfl
theorem vJ[XOc]:nFn C0 45=some jn:=by kernel_rfl
theorem eO[XOc]:nFn C0 46=some aT:=by kernel_rfl
theorem iC[XOc]:nFn C0 47=some bH:=by kernel_rfl
theorem sL[XOc]:nFn C0 48=some gK:=by kernel_rfl
theorem xO[XOc]:nFn C0 51=some lV:=by kernel_rfl
theorem vI[XOc]:nFn C0 52=some jl:=by kernel_rfl
theorem DO[XOc]:nFn C0 65=some sP:=by kernel_rfl
theorem js[XOc]:XM 65:=λ_ _ _=>by kernel_rfl
theorem zQ[XOc]:XL 65:=λ_ _ _=>by kernel_rfl
theorem DT[XOc]:nFn C0 66=some sU:=by kernel_rfl
theorem zS[XOc]:XL 66:=λ_ _ _=>by kernel_rfl
theorem DV[XOc]:nFn C0 67=some s8:=by kernel_rfl
theorem zU[XOc]:XL 67:=λ_ _ _=>by kernel_rfl
theorem qB[XOc]:nFn C0 68=some fE:=by kernel_rfl
theorem oH[XOc]:XL 68:=λ_ _ _=>by kernel_rfl
theorem vH[XOc]:nFn C0 69=some je:=by kernel_rfl
theorem tC[XOc]:XM 69:=λ_ _ _=>by kernel_rfl
theorem sA[XOc]:XL 69:=λ_ _ _=>by kernel_rfl
theorem Fk[XOc]:nFn C0 70=some vM:=by kernel_rfl
theorem BG[XOc]:XL 70:=λ_ _ _=>by kernel_rfl
theorem sM[XOc]:nFn C0 71=some gM:=by kernel_rfl
theorem qv[XOc]:XL 71:=λ_ _ _=>by kernel_rfl
theorem Fo[XOc]:nFn C0 72=some vP:=by kernel_rfl
theorem BK[XOc]:XL 72:=λ_ _ _=>by kernel_rfl
theorem As[XOc]:nFn C0 73=some o_:=by kernel_rfl
theorem xH[XOc]:XL 73:=λ_ _ _=>by kernel_rfl
theorem jD[XOc]:nFn C0 74=some cE:=by kernel_rfl
theorem DU[XOc]:nFn C0 75=some s7:=by kernel_rfl
theorem zT[XOc]:XL 75:=λ_ _ _=>by kernel_rfl
theorem sK[XOc]:nFn C0 76=some gJ:=by kernel_rfl
theorem qu[XOc]:XL 76:=λ_ _ _=>by kernel_rfl
theorem uO[XOc]:nFn C0 77=some cy:=by kernel_rfl
theorem rA[XOc]:XL 77:=λ_ _ _=>by kernel_rfl
theorem BU[XOc]:nFn C0 78=some qE:=by kernel_rfl
theorem yK[XOc]:XL 78:=λ_ _ _=>by kernel_rfl
theorem qC[XOc]:nFn C0 79=some fF:=by kernel_rfl
theorem pd[XOc](t:T)(g:G)(xs:List Od):SO.foot C0 t g (.call 79 xs)=cK:=by kernel_rfl
theorem oI[XOc](d:Nat)(xs:List AV)(g:G):ae C0 d 79 xs g=orF ((I C0).call d 79 xs g):=by kernel_rfl
theorem jE[XOc]:nFn C0 83=some cG:=by kernel_rfl
theorem wH[XOc]:nFn C0 84=some j_:=by kernel_rfl
theorem uz[XOc]:XL 84:=λ_ _ _=>by kernel_rfl
theorem nX[XOc]:nFn C0 86=some bM:=by kernel_rfl
theorem rT[XOc]:nFn C0 87=some fV:=by kernel_rfl
theorem pI[XOc]:XL 87:=λ_ _ _=>by kernel_rfl
theorem wE[XOc]:nFn C0 90=some j4:=by kernel_rfl
theorem uy[XOc]:XL 90:=λ_ _ _=>by kernel_rfl
theorem vF[XOc]:nFn C0 99=some jc:=by kernel_rfl
theorem sn[XOc]:XL 99:=λ_ _ _=>by kernel_rfl
theorem Al[XOc]:nFn C0 100=some oR:=by kernel_rfl
theorem Am[XOc]:nFn C0 101=some oS:=by kernel_rfl
theorem xC[XOc]:XL 101:=λ_ _ _=>by kernel_rfl
theorem wD[XOc]:nFn C0 102=some lp:=by kernel_rfl
theorem tB[XOc]:XM 102:=λ_ _ _=>by kernel_rfl
theorem su[XOc]:XL 102:=λ_ _ _=>by kernel_rfl
theorem Fl[XOc]:nFn C0 103=some vN:=by kernel_rfl
theorem B6[XOc]:XM 103:=λ_ _ _=>by kernel_rfl
theorem BH[XOc]:XL 103:=λ_ _ _=>by kernel_rfl
theorem Aq[XOc]:nFn C0 104=some oY:=by kernel_rfl
theorem xG[XOc]:XL 104:=λ_ _ _=>by kernel_rfl
theorem Fm[XOc]:nFn C0 105=some nj:=by kernel_rfl
theorem BI[XOc]:XL 105:=λ_ _ _=>by kernel_rfl
theorem m7[XOc]:nFn C0 106=some dz:=by kernel_rfl
theorem lL[XOc]:XL 106:=λ_ _ _=>by kernel_rfl
theorem lQ[XOc]:nFn C0 107=some cV:=by kernel_rfl
theorem jV[XOc](d:Nat)(xs:List AV)(g:G):ae C0 d 107 xs g=orF ((I C0).call d 107 xs g):=by kernel_rfl
theorem yT[XOc]:nFn C0 108=some nc:=by kernel_rfl
theorem wz[XOc]:XL 108:=λ_ _ _=>by kernel_rfl
theorem BP[XOc]:nFn C0 109=some mD:=by kernel_rfl
theorem BQ[XOc]:nFn C0 110=some qD:=by kernel_rfl
theorem yW[XOc]:XM 110:=λ_ _ _=>by kernel_rfl
theorem yJ[XOc]:XL 110:=λ_ _ _=>by kernel_rfl
theorem DS[XOc]:nFn C0 111=some lj:=by kernel_rfl
theorem zR[XOc]:XL 111:=λ_ _ _=>by kernel_rfl
theorem uF[XOc]:nFn C0 118=some cx:=by kernel_rfl
theorem pQ[XOc]:nFn C0 122=some eW:=by kernel_rfl
theorem nU[XOc]:XL 122:=λ_ _ _=>by kernel_rfl
theorem sI[XOc]:nFn C0 128=some gH:=by kernel_rfl
theorem rU[XOc]:nFn C0 129=some fW:=by kernel_rfl
theorem pJ[XOc]:XL 129:=λ_ _ _=>by kernel_rfl
theorem rV[XOc]:nFn C0 130=some fX:=by kernel_rfl
theorem pK[XOc]:XL 130:=λ_ _ _=>by kernel_rfl
theorem B0[XOc]:nFn C0 131=some qJ:=by kernel_rfl
theorem yO[XOc]:XL 131:=λ_ _ _=>by kernel_rfl
theorem lP[XOc]:nFn C0 132=some aF:=by kernel_rfl
theorem xN[XOc]:nFn C0 133=some lT:=by kernel_rfl
theorem vA[XOc]:XL 133:=λ_ _ _=>by kernel_rfl
theorem oP[XOc]:nFn C0 134=some ea:=by kernel_rfl
theorem mY[XOc]:XL 134:=λ_ _ _=>by kernel_rfl
theorem jY[XOc]:nFn C0 135=some cD:=by kernel_rfl
theorem xM[XOc]:nFn C0 136=some lS:=by kernel_rfl
theorem vz[XOc]:XL 136:=λ_ _ _=>by kernel_rfl
theorem wC[XOc]:nFn C0 137=some j3:=by kernel_rfl
theorem lR[XOc]:nFn C0 153=some cY:=by kernel_rfl
theorem jW[XOc]:XL 153:=λ_ _ _=>by kernel_rfl
theorem rW[XOc]:nFn C0 155=some dM:=by kernel_rfl
theorem pL[XOc](d:Nat)(xs:List AV)(g:G):ae C0 d 155 xs g=orF ((I C0).call d 155 xs g):=by kernel_rfl
theorem Fn[XOc]:nFn C0 156=some vO:=by kernel_rfl
theorem BJ[XOc]:XL 156:=λ_ _ _=>by kernel_rfl
theorem vG[XOc]:nFn C0 157=some jd:=by kernel_rfl
theorem Ak[XOc]:nFn C0 165=some oQ:=by kernel_rfl
theorem xB[XOc]:XL 165:=λ_ _ _=>by kernel_rfl
theorem vL[XOc]:nFn C0 166=some jr:=by kernel_rfl
theorem sC[XOc]:XL 166:=λ_ _ _=>by kernel_rfl
theorem BZ[XOc]:nFn C0 169=some gu:=by kernel_rfl
theorem yS[XOc]:nFn C0 172=some na:=by kernel_rfl
theorem wx[XOc]:XL 172:=λ_ _ _=>by kernel_rfl
@[reducible] def XK(l:List Bool):List Bool:=false::false::l
@[reducible] def XJ(l:List Bool):List Bool:=false::false::false::false::l
@[reducible] def XI(l:List Bool):List Bool:=false::false::false::false::false::false::false::false::l
theorem rx{α:Type}{f:Nat->α->Nat->α->Bool}{i:Nat}{x:α}:∀{l:List α} {j:Nat},(∀b y,l[b]?=some y->f i x (j+b) y=true)->gq f i x j l=true
 |[],_,_=>rfl
 | y::r,j,h=>by simp only[gq,Uk];refine⟨by simpa using h 0 y rfl,rx λb z hb=>?_⟩;have:=h (b+1) z (by simpa using hb);rwa [show j+(b+1)=j+1+b by omega]at this
theorem n_{α:Type}{f:Nat->α->Nat->α->Bool}:∀{l:List α} {i:Nat},(∀a b x y,a<b->l[a]?=some x->l[b]?=some y->f (i+a) x (i+b) y=true)->li f i l=true
 |[],_,_=>rfl
 | x::r,i,h=>by
  simp only[li,Uk];refine⟨rx λb y hb=>?_,n_ λa b x' y hab ha hb=>?_⟩
  ·have:=h 0 (b+1) x y (by omega) rfl (by simpa using hb);rwa [VH,show i+(b+1)=i+1+b by omega]at this
  ·have:=h (a+1) (b+1) x' y (by omega) (by simpa using ha) (by simpa using hb);rwa [show i+(a+1)=i+1+a by omega,show i+(b+1)=i+1+b by omega]at this
theorem yG{pm:List Nat}:∀{l:List Foot} {i:Nat},(∀f∈l,f.lk.sr=[])->gg pm i l=true
 |[],_,_=>rfl
 | x::r,i,h=>by simp only[gg,h x (by simp)];exact yG λf hf=>h f (by simp[hf])
def Eq(pm:List Nat)(ws:List Bool)(L:List (Nat×Nat))(i j:Nat):Bool:=(pm.getD j 0).testBit i || (!(ws.getD i false)&&!(ws.getD j false)) || L.contains (i,j)
def Er(pm:List Nat)(ws:List Bool)(L:List (Nat×Nat)):Bool:=(List.range ws.length).all λj=>(List.range j).all λi=>Eq pm ws L i j
theorem bf{pm:List Nat}{fs:List Foot}(ws:List Bool)(L:List (Nat×Nat))(hw:All2 (λ(f:Foot) (w:Bool)=>f.lk.sr=[]/\(w=false->f.wr=[])) fs ws)(hd:Er pm ws L=true)
  (hL:∀p∈L,∀x y,fs[p.1]?=some x->fs[p.2]?=some y->be x y=true):jt pm fs=true:=by
 unfold jt;rw[aa,Un]
 ·exact yG λf hf=>by obtain⟨i,hi,rfl⟩:=VD.1 hf;obtain⟨w,-,h⟩:=hw.get (Uj hi);exact h.1
 ·refine n_ λa b x y hab ha hb=>?_;simp only[UU];obtain⟨wa,d,ka⟩:=hw.get ha;obtain⟨wb,k,kb⟩:=hw.get hb;have c:=(Uh.1 k).1;have:=Uz.1 (Uz.1 hd b (Uw.2 c)) a (Uw.2 hab);simp only[Eq,UZ]at this;rcases this with (h|h)|h
  ·rw[h,WH]
  ·simp only[U8,d,k,Us,Uk,Vb]at h;have ex:=ka.2 h.1;have ey:=kb.2 h.2;simp only[be,eG,dg,ex,ey,Wn,Xl]
  ·rw[hL (a,b) (VP.1 h) x y ha hb,Xl]
section
variable {v:AV}
structure Mech where
 card:Int
 frm:List Int
 noise:List Int
 out:List Int
structure Causal where
 grain:Int
 roots:List (List Int)
 nodes:List Mech
structure Node where
 card:Int
 parents:List Int
 rows:List (List Int)
structure Net where
 grain:Int
 nodes:List Node
structure Factor where
 vars:List Int
 cards:List Int
 w:List Int
instance : Rp Mech:=Rp.via λm:Mech=>(m.card,m.frm,m.noise,m.out)
instance : Rp Causal:=Rp.via λm:Causal=>(m.grain,m.roots,m.nodes)
instance : Rp Node:=Rp.via λm:Node=>(m.card,m.parents,m.rows)
instance : Rp Net:=Rp.via λm:Net=>(m.grain,m.nodes)
instance : Rp Factor:=Rp.via λm:Factor=>(m.vars,m.cards,m.w)
section
variable {P:Nat->Prop}{k:Nat}{h:H}{cs:List AV}
theorem fd{m:Node}:Rp.rp P k h m cs↔∃a b,cs=[X8 m.card,a,b]/\SlR P k h m.parents a/\SlR P k h m.rows b:=by
 constructor
 ·rintro⟨c1,d,rfl,h1,d1,d2,rfl,⟨a,rfl,h2⟩,⟨b,rfl,c⟩⟩;rw[ax.1 h1];exact⟨a,b,rfl,h2,c⟩
 ·rintro⟨a,b,rfl,h2,c⟩;exact⟨[X8 m.card],[a,b],rfl,ax.2 rfl,[a],[b],rfl,⟨a,rfl,h2⟩,⟨b,rfl,c⟩⟩
theorem l_{m:Net}:Rp.rp P k h m cs↔∃a,cs=[X8 m.grain,a]/\SlR P k h m.nodes a:=by
 constructor
 ·rintro⟨c1,b,rfl,h1,⟨a,rfl,h2⟩⟩;rw[ax.1 h1];exact⟨a,rfl,h2⟩
 ·rintro⟨a,rfl,h2⟩;exact⟨[X8 m.grain],[a],rfl,ax.2 rfl,⟨a,rfl,h2⟩⟩
theorem qm{m:Factor}:Rp.rp P k h m cs↔∃a b c,cs=[a,b,c]/\SlR P k h m.vars a/\SlR P k h m.cards b/\SlR P k h m.w c:=by
 constructor
 ·rintro⟨c1,e,rfl,⟨a,rfl,h2⟩,e1,f,rfl,⟨b,rfl,d⟩,⟨c,rfl,h4⟩⟩;exact⟨a,b,c,rfl,h2,d,h4⟩
 ·rintro⟨a,b,c,rfl,h2,d,h4⟩;exact⟨[a],[b,c],rfl,⟨a,rfl,h2⟩,[b],[c],rfl,⟨b,rfl,d⟩,⟨c,rfl,h4⟩⟩
end
theorem SlR.len{α:Type} [Rp α]{P:Nat->Prop}{k:Nat}{h:H}{l:List α}{v:AV}(r:SlR P k h l v)(g:G):jC .slice v g=.val (X8 (l.length:Int)):=by obtain⟨rows,h1,h2⟩:=r.rows;rw[mS h1,h2.len]
theorem SlR.tree{α:Type} [Rp α]{k k':Nat}{h h':H}{l:List α}{v:AV}(r:SlR NoP k h l v)(hk:k<=k'):SlR NoP k' h' l v:=by obtain⟨w,hw,q⟩:=Rp.tree (P:=NoP) (k':=k') (h':=h') (show Rp.rp NoP k h l [v] from ⟨v,rfl,r⟩) hk;injection hw with hw;subst hw;exact q
theorem dy{α:Type} [Rp α]{P:Nat->Prop}{k:Nat}{h:H}{l:List α}(r:SlR P k h l v)(d:Nat)(hd:Rp.dp (List α)<=20:=by decide) :
  ∃v',Hx.snap h d an v=some v'/\∀h',SlR NoP (max k d) h' l v':=by
 obtain⟨v',e,w,hw,q⟩:=sj (aG l hd) (by decide) d (show One l P k h v from ⟨v,rfl,r⟩);injection hw with hw;subst hw;exact⟨v',e,λh'=>q.tree (Ui _)⟩
theorem SlR.all{α:Type} [Rp α]{k:Nat}{h:H}{l:List α}(r:SlR NoP k h l v) :
  ∃rows:List (List AV),(∀h',ah h' (Rp.sz α) v=some rows)/\rows.length=l.length/\(∀(i:Nat) (x:α),l[i]?=some x->∃row,rows[i]?=some row/\Rp.rp NoP k .nil x row)/\(0<l.length->xX v=true):=by
 have r0:=(r.tree (h':=.nil) (Ui _));obtain⟨rows,h1,h2⟩:=r0.rows;refine⟨rows,λh'=>?_,h2.len.symm,λi x hi=>h2.get hi,λhl=>Eu h1 (i:=0) (by rw[<-h2.len];exact hl)⟩;rw[<-h1];exact tX λid ep off len lim e=>by subst e;exact r.2.1.elim
theorem Do{P:Nat->Prop}{k:Nat}{h:H}{l:List Nat}(r:SlR P k h l v):∀x∈l,x<18446744073709551616:=by obtain⟨rows,h1,h2⟩:=r.rows;intro x hx;obtain⟨i,hi,e⟩:=VD.1 hx;obtain⟨row,b,h4⟩:=h2.get (i:=i) (a:=x) (by rw[Uj hi,e]);exact (l9.1 h4).2
theorem r_(p:Nat->Bool)(j:Nat):(List.range (j+1)).all p=((List.range j).all p&&p j):=by rw[WG,List.all_append];simp
theorem yI{p:Nat->Bool}{j n:Nat}(h:j<n)(hp:p j=false):(List.range n).all p=false:=by rw[List.all_eq_false];exact⟨j,Uw.2 h,by rw[hp];decide⟩
end
theorem mM{C:Cfg}{nt d:Nat}{rd:Option Nat}{c:Code}{t:T}{df:List ADf}{g:G}{Q:QT}(h:wp C d rd (bQ C nt c) Q t df g):((I C).code nt d rd c t df g).sat Q:=by rw[Dm];exact OB _ _ _ _ _ h
end
end Hx
section
section
namespace Hx
open Go
noncomputable section
theorem ay{α:Type}{l:List α}{j:Nat}(h:j<l.length):∃x,l[j]?=some x/\l.take (j+1)=l.take j++[x]/\x∈l :=
 ⟨l[j],Uj h,by rw[Ws,Uj h];rfl,VL h⟩
def S.Tu(l:List Int):Int:=l.foldl (λs x=>IntKind.wrap .i64 (s*x)) 1
theorem PS[XOc]{d:Nat}{g:G}{v:AV}(hd:0<d)(hv:AJ g.h v)(hl:(pf g.h v).length<9223372036854775808) :
  ae C0 d 30 [v] g=.val (X8 (S.Tu (pf g.h v))):=by
 obtain⟨v',e,hr,k⟩:=LF hv hl d;generalize pf g.h v=l at hr k hl ⊢;rw[yP];refine eX B1 (xs:=[v']) (by simp only[aD,e]) (by simp[qL]) hd ?_;simp only[sz,simprocAttr,qL];refine JU hl k (λj t df g=>df=[]/\tat t 3=X8 (S.Tu (l.take j))) ⟨rfl,by simp[sx,S.Tu]⟩ (by simp[sx]) (by simp[sx]) (by decide)
  (by rintro j t df g v s (rfl|rfl|rfl|rfl|rfl|rfl|rfl)<;>simp[sx]) ?_ ?_
 ·rintro j t df g c ⟨rfl,a⟩ h4 h0;obtain⟨x,hx,b,hm⟩:=ay c;simp only[sz,simprocAttr,hr,h0,a,h4,hx,c,UK,Uo,VK,ci,b,S.Tu,List.foldl_append,WD,List.foldl_nil]
 ·rintro t df g ⟨rfl,a⟩ -;rw[U3]at a;simp only[sz,simprocAttr,rN,a]
end
end Hx
end
section
namespace Hx
open Go
noncomputable section
def S.TO(l:List Int)(n:Int)(i:Nat):Bool:=decide (0<=l[i]?.getD 0)&&decide (l[i]?.getD 0<n)&&(i == 0 || decide (l[i - 1]?.getD 0<l[i]?.getD 0))
def S.Tn(l:List Int)(n:Int):Bool:=(List.range l.length).all (S.TO l n)
end
end Hx
end
section
namespace Hx
open Go
noncomputable section
def S.S3(n:Nat):Nat:=1*2 ^ n % 18446744073709551616
def S.SQ(l:List Int):Nat:=l.foldl (λs x=>s ||| S.S3 x.toNat) 0
theorem vp(n:Nat):S.S3 n<18446744073709551616:=VT _ (by decide)
theorem yv{α:Type}(f:α->Nat)(hf:∀a,f a<18446744073709551616):∀(l:List α) (s:Nat),s<18446744073709551616->l.foldl (λs x=>s ||| f x) s<18446744073709551616
 |[],_,h=>h
 |a::l,s,h=>yv f hf l _ (Nx h (hf a))
theorem zi(l:List Int):S.SQ l<18446744073709551616:=yv _ (λa=>vp _) l 0 (by decide)
theorem KM(l:List Int)(x:Int):S.SQ (l++[x])=S.SQ l ||| S.S3 x.toNat:=by simp[S.SQ]
theorem oa(k':IntKind)(n:Nat):bB .shl (X_ 1) (.int k' (n:Int))=.val (X_ (S.S3 n:Int)):=OK k' 1 n
end
end Hx
end
section
namespace Hx
open Go
noncomputable section
def S.Te(s v:Nat):Bool:=s / 2 ^ v &&& 1 == 1
def S.Td(p:List Nat)(s:Nat)(j:Nat):Nat:=(List.range j).foldl (λs v=>if S.Te s v then s ||| p[v]?.getD 0 else s) s
def S.up(p:List Nat)(s:Nat)(j:Nat):Nat:=(List.range j).foldl (λs _=>S.Td p s p.length) s
theorem nQ(p:List Nat)(s j:Nat):S.Td p s (j+1)=if S.Te (S.Td p s j) j then S.Td p s j ||| p[j]?.getD 0 else S.Td p s j:=by unfold S.Td;rw[WG,List.foldl_append];rfl
theorem ro(p:List Nat)(s j:Nat):S.up p s (j+1)=S.Td p (S.up p s j) p.length:=by unfold S.up;rw[WG,List.foldl_append];rfl
def S.Tv(p:List Nat):Bool:=(List.range p.length).all λv=>!S.Te (S.up p (p[v]?.getD 0) p.length) v
end
end Hx
end
section
namespace Hx
open Go
noncomputable section
def S.Sz(l:List Int):Int:=l.foldl (·*·) 1
theorem um(l:List Int)(x:Int):S.Sz (l++[x])=S.Sz l*x:=by simp[S.Sz]
theorem gx{a b:Nat}(h:a<=b):(4:Int) ^ a<=4 ^ b:=by
 obtain⟨c,rfl⟩:∃c,b=a+c:=⟨b - a,by omega⟩
 induction c with
 |zero=>exact Int.le_refl _
 | succ c ih =>
  have:=ih (by omega);rw[show a+(c+1)=(a+c)+1 from rfl,Int.pow_succ];have h0:(0:Int)<=4 ^ (a+c):=Int.le_of_lt (Int.pow_pos (by decide));omega
theorem eM(a:Int)(l:List Int):S.Sz (a::l)=a*S.Sz l:=by
 have:∀(l:List Int) (s:Int),l.foldl (·*·) s=s*l.foldl (·*·) 1:=by
  intro l
  induction l with
  |nil=>intro s;simp
  |cons x l ih=>intro s;rw[WD,ih,WD,ih (1*x),Int.one_mul,Xc]
 unfold S.Sz;rw[WD,this,Int.one_mul]
theorem du:∀{l:List Int},(∀x∈l,1<=x/\x<=4)->1<=S.Sz l/\S.Sz l<=4 ^ l.length
 |[],_=>⟨by decide,by decide⟩
 | a::l,h=>by
  obtain⟨h1,h2⟩:=du (l:=l) λx hx=>h x (by simp[hx]);obtain⟨k,h4⟩:=h a (by simp);rw[eM,UX,Int.pow_succ,Int.mul_comm (4 ^ l.length)];constructor
  ·have:=Int.mul_le_mul k h1 (by decide) (by omega);simpa using this
  ·exact Int.mul_le_mul h4 h2 (by omega) (by decide)
theorem Br(l:List Int)(x:Int):(l++[x]).sum=l.sum+x:=by simp
end
end Hx
end
section
namespace Hx
open Go
noncomputable section
def S.T7(m:Causal)(p:Int):Int:=(m.nodes[p.toNat]?.map (·.card)).getD 0
def S.Ua(m:Causal)(r:Int):Int:=(m.roots[r.toNat]?.map λr=>(r.length:Int)).getD 0
end
end Hx
end
section
namespace Hx
open Go
noncomputable section
def S.SB(a b:Nat):Nat:=a ^^^ (a &&& b)
theorem LI{n:Nat}(h:n<64):S.S3 n=2 ^ n:=by unfold S.S3;rw[Vk,Ww];exact Nat.pow_lt_pow_right (a:=2) (by decide) h
end
end Hx
end
section
namespace Hx
open Go
noncomputable section
def S.Ub(m:Causal)(x:Mech):List Int:=x.frm.map (S.T7 m)++x.noise.map (S.Ua m)
end
end Hx
end
section
namespace Hx
open Go
noncomputable section
def S.T9(m:Causal):Int:=S.Sz (m.roots.map λr=>(r.length:Int))
end
end Hx
end
section
namespace Hx
open Go
def Sub(a s:Nat):Prop:=∀v,a.testBit v=true->s.testBit v=true
theorem qO(s v:Nat):S.Te s v=s.testBit v:=by rw[Nat.testBit_eq_decide_div_mod_eq,S.Te,Nat.and_one_is_mod];rw[U7,beq_iff_eq,decide_eq_true_iff]
theorem Cy{a s:Nat}:S.SB a s=0↔Sub a s:=by
 constructor
 ·intro h v k;have:=congrArg (·.testBit v) h;simp[S.SB,k]at this;exact this
 ·intro h;refine Wp λv=>?_;have:=h v;simp only[S.SB,Nat.testBit_xor,Xg,Nat.zero_testBit];cases ha:a.testBit v
  ·rfl
  ·rw[this ha];rfl
theorem tP(a b v:Nat):(a ||| b).testBit v=(a.testBit v || b.testBit v):=Nat.testBit_or a b v
theorem zJ{n:Nat}(h:n<64)(v:Nat):(S.S3 n).testBit v=decide (n=v):=by rw[LI h,Nat.testBit_two_pow]
section
variable {p:List Nat}
def Par(p:List Nat)(v:Nat):Nat:=p[v]?.getD 0
def Cl(p:List Nat)(s:Nat):Prop:=∀v,v<p.length->s.testBit v=true->Sub (Par p v) s
theorem Dk{s t:Nat}(hc:Cl p t)(h:Sub s t):∀j,j<=p.length->Sub (S.Td p s j) t
 |0,_=>h
 | j+1,hj=>by
  have ih:=Dk hc h j (by omega);rw[nQ]
  split
  ·rename_i hb;rw[qO]at hb;intro v hv;rw[tP,UZ]at hv;rcases hv with hv|hv
   ·exact ih v hv
   ·exact hc j (by omega) (ih j hb) v hv
  ·exact ih
theorem Ij{s t:Nat}(hc:Cl p t)(h:Sub s t):∀j,Sub (S.up p s j) t
 |0=>h
 |j+1=>by rw[ro];exact Dk hc (Ij hc h j) _ (Ui _)
def J2(p:List Nat)(s:Nat):Prop:=Cl p s/\∀v,v<p.length->s.testBit v=true->(S.up p (Par p v) p.length).testBit v=false
theorem wh:S.Tv p=true↔∀v,v<p.length->(S.up p (Par p v) p.length).testBit v=false:=by
 unfold S.Tv;rw[Uz];constructor
 ·intro h v k;have:=h v (Uw.2 k);rw[qO]at this;simpa [Par] using this
 ·intro h v k;have:=h v (Uw.1 k);rw[qO];simpa [Par] using this
def bct(s:Nat):Nat->Nat
 |0=>0
 |n+1=>bct s n+(if s.testBit n then 1 else 0)
theorem GX(s:Nat):∀n,bct s n<=n
 |0=>Ui _
 |n+1=>by have:=GX s n;unfold bct;split<;>omega
theorem EW{a s:Nat}(h:Sub a s):∀n,bct a n<=bct s n
 |0=>Ui _
 | n+1=>by
  have:=EW h n;unfold bct
  split
  ·rename_i hb;rw[Un (h n hb)];omega
  ·split<;>omega
theorem LG{a s:Nat}(h:Sub a s){v:Nat}(hv:s.testBit v=true)(ha:a.testBit v=false):∀n,v<n->bct a n<bct s n
 |0,h0=>by omega
 | n+1,hn=>by
  unfold bct
  by_cases hvn:v=n
  ·subst hvn;have:=EW h v;rw[Un hv,ha];simp;omega
  ·have:=LG h hv ha n (by omega)
   split
   ·rename_i hb;rw[Un (h n hb)];omega
   ·split<;>omega
theorem EV{s:Nat}:∀n,bct s n=n->∀v,v<n->s.testBit v=true
 |0,_,v,h=>by omega
 | n+1,h,v,hv=>by
  unfold bct at h;have:=GX s n
  split at h
  ·rename_i hb
   by_cases e:v=n
   ·subst e;exact hb
   ·exact EV n (by omega) v (by omega)
  ·omega
theorem xi{a s:Nat}(h:Sub a s)(h':Sub s a):a=s:=Wp λv=>by
 cases ha:a.testBit v
 ·cases hs:s.testBit v
  ·rfl
  ·rw[h' v hs]at ha;cases ha
 ·rw[h v ha]
theorem RJ{a s:Nat}(h:Sub a s):a<=s:=by
 have:a ||| s=s:=Wp λv=>by
  rw[tP];cases ha:a.testBit v
  ·simp
  ·rw[h v ha];rfl
 rw[<-this];exact Nat.left_le_or
theorem rn(s:Nat):∀j,Sub s (S.Td p s j)
 |0=>λ_ h=>h
 | j+1=>by
  have ih:=rn s j;rw[nQ]
  split
  ·intro v k;rw[tP,ih v k];rfl
  ·exact ih
theorem Ii{s:Nat}{j k:Nat}(h:j<=k):Sub (S.Td p s j) (S.Td p s k):=by
 induction h with
 |refl=>exact λ_ h=>h
 | step _ ih =>
  rw[nQ]
  split
  ·intro v a;rw[tP,ih v a];rfl
  ·exact ih
theorem Kb{s:Nat}(h:S.Td p s p.length=s):Cl p s:=by
 intro v k hb u hu;have h1:(S.Td p s v).testBit v=true:=rn s v v hb;have h2:(S.Td p s (v+1)).testBit u=true:=by rw[nQ,qO,h1,Un rfl,tP];have:(p[v]?.getD 0).testBit u=true:=hu;rw[this];simp
 have:=Ii (p:=p) (s:=s) (show v+1<=p.length by omega) u h2;rwa [h]at this
theorem Oh{s n v:Nat}(h:s<2 ^ n)(hv:s.testBit v=true):v<n:=by
 rcases VI v n with h1|h1
 ·exact h1
 ·rw[Nat.testBit_lt_two_pow (UI h (Wr (by decide) h1))]at hv;cases hv
theorem Sb{f:Nat->Nat}{n:Nat}(hm:∀j,Sub (f j) (f (j+1)))(hb:∀j,f j<2 ^ n)(hs:∀j,f (j+1)=f j->f (j+2)=f (j+1)):f (n+1)=f n:=by
 have key:∀j,j<=bct (f j) n\/f (j+1)=f j:=by
  intro j
  induction j with
  |zero=>exact .inl (US _)
  | succ j ih =>
   rcases ih with ih|ih
   ·by_cases e:f (j+1)=f j
    ·exact .inr (hs j e)
    ·left;have:∃v,(f (j+1)).testBit v=true/\(f j).testBit v=false:=by
      apply Vt;intro k;apply e;refine xi (λv hv=>?_) (hm j);cases hc:(f j).testBit v
      ·exact absurd ⟨v,hv,hc⟩ k
      ·rfl
     obtain⟨v,h1,h2⟩:=this;have:=LG (hm j) h1 h2 n (Oh (hb _) h1);omega
   ·exact .inr (hs j ih)
 rcases key n with h|h
 ·have hc:bct (f n) n=n:=by have:=GX (f n) n;omega
  refine xi (λv hv=>?_) (hm n);exact EV n hc v (Oh (hb _) hv)
 ·exact h
theorem Ro{a b n:Nat}(h:a<2 ^ n)(h':b<2 ^ n):a ||| b<2 ^ n:=WZ h h'
theorem HP{v:Nat}(hp:∀x∈p,x<2 ^ p.length):Par p v<2 ^ p.length:=by
 unfold Par;cases h:p[v]? with
 |none=>exact Nat.pow_pos (by decide)
 |some x=>exact hp x (Ul h)
theorem Dj(hp:∀x∈p,x<2 ^ p.length){s:Nat}(hs:s<2 ^ p.length):∀j,S.Td p s j<2 ^ p.length
 |0=>hs
 | j+1=>by
  have ih:=Dj hp hs j;rw[nQ]
  split
  ·exact Ro ih (HP hp)
  ·exact ih
theorem Oj(hp:∀x∈p,x<2 ^ p.length){s:Nat}(hs:s<2 ^ p.length):∀j,S.up p s j<2 ^ p.length
 |0=>hs
 |j+1=>by rw[ro];exact Dj hp (Oj hp hs j) _
theorem Lv(hp:∀x∈p,x<2 ^ p.length){s:Nat}(hs:s<2 ^ p.length):Cl p (S.up p s p.length):=by
 apply Kb;rw[<-ro];exact Sb (f:=λj=>S.up p s j) (λj=>by rw[ro];exact rn _ _) (λj=>Oj hp hs j) (λj e=>by
  have e:S.up p s (j+1)=S.up p s j:=e;show S.up p s (j+1+1)=S.up p s (j+1);rw[ro,e,<-ro,e])
theorem zA{s:Nat}:∀j,Sub s (S.up p s j)
 |0=>λ_ h=>h
 |j+1=>λv hv=>by rw[ro];exact rn _ _ v (zA j v hv)
end
end Hx
end
section
namespace Hx
open Go
noncomputable section
theorem qS{a b:List Nat}(h:∀i∈a,∀j∈b,i≠j):meets a b=false:=by simp only[meets,List.any_eq_false];intro i hi hc;exact h i hi i (VP.1 hc) rfl
theorem fP{x y:Foot}(hb:x.lk.big=false)(hb2:y.lk.big=false)(hs:x.lk.sr=[])(hs2:y.lk.sr=[])(h1:∀i∈x.wr,∀j∈y.wr,i≠j)(h2:∀i∈x.wr,∀j∈y.lk.rd,i≠j)(h3:∀i∈y.wr,∀j∈x.lk.rd,i≠j) :
  be x y=true:=by
 have h:=qS h1;have k:=qS h2;have a:=qS h3;have b:meets y.wr x.wr=false:=qS λi hi j hj e=>h1 j hj i hi e.symm;have c:∀l:List Nat,meets l []=false:=λl=>by simp[meets]
 simp only[be,eG,dg,hb,hb2,hs,hs2,h,k,a,b,c,fst1,Vz,Wy,Wn,WH]
 split<;>split<;>rfl
end
end Hx
end
section
namespace Hx
open Go
noncomputable section
theorem qi{g:G}{b sz bytes:Nat}{zero:List AV}{k1 k2:IntKind}{n:Nat}{K:AV->G->Prop}{D:ADf->Prop}(hn:n<=bz)(hb:n*bytes<=bz)(hg:b<=g.nx)
  (k:∀v' g',Own g' b v' sz (List.replicate n zero)->g'.nx=g.nx+1->(∀i,i<g.nx->g'.h.get i=g.h.get i)->vid v'=some g.nx->g'.lg=g.nx::g.lg->K v' g') :
  (HF sz bytes zero (.int k1 (n:Int)) (.int k2 (n:Int)) g).sat K g D:=by
 show (match dN bz (.int k2 (.ofNat n)) with
  | some cn=>match dN cn (.int k1 (.ofNat n)) with
   |some ln=>ak (Nat.ble (cn*bytes) bz) (OR.upd (.hsl g.nx 0 0 ln none) (g.new (Xs sz (ib cn zero)))) .fail
   |none=>.fail
  |none=>.fail).sat K g D
 simp only[dN,aa,UR,Un hn,Ui,Un hb,if_true];refine k _ _ (.inr ⟨g.nx,0,false,hg,by simp,by simp,by simp[bg,ib]⟩) (by simp) (λi hi=>?_) rfl (by simp);rw[G.new_h,aL _ _ _ (by omega)]
end
end Hx
end
section
namespace Hx
open Go
noncomputable section
theorem MX(n sz id ep i off:Nat)(k:IntKind){j:Nat}(h:j<n):AO n sz (.hptr id ep i off) (.int k (j:Int))=.val (.hptr id ep i (off+j*sz)):=by show ak (Nat.blt j n) (OR.val (.hptr id ep i (off+j*sz))) .fail=_;rw[aa,Un (by simpa using h)]
def u8v(x:UInt8):AV:=.int .u8 (x.toNat:Int)
theorem Bm(l:List UInt8)(h:H)(d:Nat):snap h d an (.agg (l.map u8v))=some (.agg (l.map u8v)):=by
 have:∀l:List UInt8,aD (Hx.snap h d 23) (l.map u8v)=some (l.map u8v):=λl=>by
  induction l with
  |nil=>rfl
  | cons x l ih =>
   simp only[VM,aD,ih,show Hx.snap h d 23 (u8v x)=some (u8v x) from rfl]
 show (match aD (Hx.snap h d 23) (l.map u8v) with|some ys=>some (AV.agg ys)|none=>none)=_;rw[this]
end
end Hx
end
section
namespace Hx
open Go
noncomputable section
end
end Hx
end
section
namespace Hx
open Go
noncomputable section
end
end Hx
end
section
namespace Hx
open Go
noncomputable section
abbrev GT:Type:=List UInt8×UInt16×List UInt8
def S.Tz(us:List UInt8):List Int:=(us.take 5).map λu=>1+(u.toNat:Int) % 4
theorem NW{P:Nat->Prop}{k:Nat}{h:H}{x:UInt16}{cs:List AV}:Rp.rp P k h x cs↔cs=[.int .u16 (x.toNat:Int)]:=by simp[Rp.rp]
theorem ut{P:Nat->Prop}{k:Nat}{h:H}{x:GT}{cs:List AV}:Rp.rp P k h x cs↔∃a b,cs=[a,.int .u16 (x.2.1.toNat:Int),b]/\SlR P k h x.1 a/\SlR P k h x.2.2 b:=by
 constructor
 ·rintro⟨c1,d,rfl,⟨a,rfl,h1⟩,e,f,rfl,h2,⟨b,rfl,c⟩⟩;rw[NW.1 h2];exact⟨a,b,rfl,h1,c⟩
 ·rintro⟨a,b,rfl,h1,h2⟩;exact⟨[a],[_,b],rfl,⟨a,rfl,h1⟩,[_],[b],rfl,NW.2 rfl,⟨b,rfl,h2⟩⟩
theorem Kf[XOc]{d k:Nat}{g:G}{P:Nat->Prop}{v:AV}{x:GT}(hd:0<d)(hm:Agg x P k g.h v) :
  ∃r,ae C0 d 71 [v] g=.val r/\IT 0 (S.Tz x.1) r:=by
 obtain⟨v',e,cs,rfl,hc⟩:=sj (dw x) (by decide) d hm;obtain⟨a,b,rfl,i,B⟩:=ut.1 hc;obtain⟨rows,o,F,A,H⟩:=i.all;have o:∀h',ah h' 1 a=some rows:=o;rw[qv];refine a_ sM (xs:=[.agg [a,.int .u16 (x.2.1.toNat:Int),b]]) (by simp only[aD,e]) (by simp[gM]) (aG _) (by decide) hd ?_;have C:(S.Tz x.1).length=min x.1.length 5:=by simp[S.Tz];omega
 simp only[sz,simprocAttr,gM,jI];refine im (min x.1.length 5) (by omega) (λj t df g=>df=[]/\tat t 1=X9 0/\g.h.get 0=Xs 3 [[a,.int .u16 (x.2.1.toNat:Int),b]]/\1<=g.nx/\∃u,tat t 3=u/\Own g 1 u 1 (((S.Tz x.1).take j).map ci))
  ⟨rfl,by simp[sx],by simp[sx],by simp[sx],_,rfl,.inl ⟨by simp[sx],rfl⟩⟩ (by simp[sx]) (by decide)
  (by rintro j t df g v s (rfl|rfl|rfl)<;>simp[sx]) ?_ ?_ ?_
 ·rintro j t df g q ⟨rfl,h1,hg,c,u,f,hu⟩ h4
  by_cases hlt:(j:Int)<(x.1.length:Int)
  ·have:decide ((j:Int)<((min x.1.length 5:Nat):Int))=decide ((j:Int)<5):=by congr 1;apply propext;omega
   simp only[sz,simprocAttr,h1,h4,hg,i.len,hlt,this];exact⟨c,u,f,hu⟩
  ·have:decide ((j:Int)<((min x.1.length 5:Nat):Int))=false:=Va (by omega);simp only[sz,simprocAttr,h1,h4,hg,i.len,hlt,this];exact⟨c,u,f,hu⟩
 ·rintro j t df g q ⟨rfl,h1,hg,c,u,f,hu⟩ h4;obtain⟨y,p,-,-⟩:=ay (l:=x.1) (j:=j) (by omega);obtain⟨z,hz,m,-⟩:=ay (l:=S.Tz x.1) (j:=j) (by omega);have n:z=1+(y.toNat:Int) % 4:=by
   have:(S.Tz x.1)[j]?=some (1+(y.toNat:Int) % 4):=by simp[S.Tz,show j<5 by omega,p]
   rw[this]at hz;injection hz with hz;exact hz.symm
  obtain⟨row,z1,z2⟩:=A j y p;rw[fM.1 z2]at z1;have hlt:j<rows.length:=by omega
  have w:y.toNat<256:=y.toNat_lt;have D:0<=(y.toNat:Int) % 4:=by omega
  have E:(y.toNat:Int) % 4<4:=by omega
  simp only[sz,simprocAttr,h1,f,h4,hg,o,hlt,z1,iX .u8 (show (0:Int)<=(y.toNat:Int) by omega) (show (0:Int)<4 by decide),aE (show -9223372036854775808<=(y.toNat:Int) % 4 by omega) (show (y.toNat:Int) % 4<9223372036854775808 by omega),aE (show -9223372036854775808<=1+(y.toNat:Int) % 4 by omega) (show 1+(y.toNat:Int) % 4<9223372036854775808 by omega)];refine dS (new:=[ci (1+(y.toNat:Int) % 4)]) (hu.step (Fr.new _ _)) (by simp[sx,sy,ci]) (by simp) (by simp[bz];omega) λv2 g2 hv2 n2 f2 _ l2=>?_;simp only[sz,simprocAttr,h1,h4];refine⟨?_,?_,_,rfl,?_⟩
  ·rw[f2 0 (by simp) (λe=>by have:=(hu.lt e).1;omega),G.new_h,aL _ _ _ (by omega),hg]
  ·simp at n2;omega
  ·rw[m,n];simpa [ci] using hv2
 ·rintro t df g ⟨rfl,h1,hg,c,u,f,hu⟩;rw[Vm (by omega)]at hu;simp only[sz,simprocAttr,jp,f];exact⟨_,hu.ints (by omega)⟩
end
end Hx
end
section
namespace Hx
open Go
noncomputable section
theorem H7{g:G}{b sz:Nat}{u:AV}{rows:List (List AV)}(hu:Own g b u sz rows){n:Nat}(hn:n<=rows.length) :
  ∃y,H6 sz u none (some (X8 (n:Int))) g=.val y/\ah g.h sz y=some (rows.take n):=by
 rcases hu with⟨rfl,rfl⟩|⟨id,ep,lo,h1,h2,rfl,k⟩
 ·have:n=0:=by simpa using hn
  subst this;exact⟨.nils,rfl,rfl⟩
 ·simp only[H6,rh,k,UT,UT,Vd,aq,UU,aa,UR,Ui,if_true,br,WS,WJ];simp only[dN];rw[show ak (n.ble rows.length) (some n) none=some n from by rw[aa,Un (by simpa using hn)]];dsimp only
  by_cases h0:rows=[]
  ·subst h0;have:n=0:=by simpa using hn
   subst this;cases lo
   ·exact⟨_,rfl,rfl⟩
   ·exact⟨_,rfl,q_ _ _ _ _⟩
  ·have hb:rows.length.beq 0=false:=by cases rows with|nil=>exact absurd rfl h0|cons a l=>rfl
   rw[hb];refine⟨_,rfl,?_⟩;rw[kC,k,fB,Un (by omega),WA]
theorem H8{g:G}{b sz:Nat}{u:AV}{rows:List (List AV)}(hu:Own g b u sz rows){n:Nat}(hn:n<=rows.length) :
  ∃y,H6 sz u (some (X8 (n:Int))) none g=.val y/\ah g.h sz y=some (rows.drop n):=by
 rcases hu with⟨rfl,rfl⟩|⟨id,ep,lo,h1,h2,rfl,k⟩
 ·have:n=0:=by simpa using hn
  subst this;exact⟨.nils,rfl,rfl⟩
 ·simp only[H6,rh,k,UT,UT,Vd,aq,UU,aa,UR,Ui,if_true,br,WS,WJ];simp only[dN];rw[show ak (n.ble rows.length) (some n) none=some n from by rw[aa,Un (by simpa using hn)]];dsimp only
  by_cases h0:rows.length=n
  ·subst h0;rw[Un (UT _),List.drop_length];cases lo
   ·exact⟨_,rfl,rfl⟩
   ·exact⟨_,rfl,q_ _ _ _ _⟩
  ·rw[Um (λe=>h0 (Vj e))];refine⟨_,rfl,?_⟩;rw[kC,k,fB,Un (by omega),Vm (by simp)]
def S.Tt(os:List UInt8)(k:Nat):Nat:=if k<os.length then ((os[k]?.map UInt8.toNat).getD 0) % (k+1) else 0
def S.S1(os:List UInt8):Nat->List Int
 |0=>[]
 |k+1=>(S.S1 os k).take (S.Tt os k)++(k:Int)::(S.S1 os k).drop (S.Tt os k)
theorem qk(os:List UInt8):∀k,(S.S1 os k).length=k
 |0=>rfl
 |k+1=>by simp only[S.S1,VG,UX,U0,WQ,qk os k];omega
theorem Bb[XOc]{d k:Nat}{g:G}{P:Nat->Prop}{v:AV}{x:GT}(hd:0<d)(hm:Agg x P k g.h v) :
  ∃r,ae C0 d 29 [v] g=.val r/\IT 0 (S.S1 x.2.2 (min x.1.length 5)) r:=by
 obtain⟨v',e,cs,rfl,hc⟩:=sj (dw x) (by decide) d hm;obtain⟨a,b,rfl,C,p⟩:=ut.1 hc;have q:∀g:G,Agg x NoP (max k d) g.h (.agg [a,.int .u16 (x.2.1.toNat:Int),b]):=λg=>⟨_,rfl,ut.2 ⟨a,b,rfl,C.tree (Ui _),p.tree (Ui _)⟩⟩;obtain⟨rows,A,O,K,R⟩:=p.all;have A:∀h',ah h' 1 b=some rows:=A;rw[lO];refine a_ m_ (xs:=[.agg [a,.int .u16 (x.2.1.toNat:Int),b]]) (by simp only[aD,e]) (by simp[dD]) (aG _) (by decide) hd ?_;have D:(S.Tz x.1).length=min x.1.length 5:=by simp[S.Tz];omega
 simp only[sz,simprocAttr,dD,fL];refine im (min x.1.length 5) (by omega) (λj t df g=>df=[]/\tat t 1=X9 0/\g.h.get 0=Xs 3 [[a,.int .u16 (x.2.1.toNat:Int),b]]/\1<=g.nx/\∃u,tat t 3=u/\Own g 1 u 1 ((S.S1 x.2.2 j).map ci))
  ⟨rfl,by simp[sx],by simp[sx],by simp[sx],_,rfl,.inl ⟨by simp[sx],rfl⟩⟩ (by simp[sx]) (by decide)
  (by rintro j t df g v s (rfl|rfl|rfl)<;>simp[sx]) ?_ ?_ ?_
 ·rintro j t df g F ⟨rfl,h1,hg,f,u,c,hu⟩ h4;simp only[sz,simprocAttr,h1,h4,hg];refine dE (Kf (UC d) (q _)) λr hr=>?_;simp only[sz,simprocAttr,h1,h4,hg,(hr.sl .nil).len,D];exact⟨f,u,c,hu⟩
 ·rintro j t df g F ⟨rfl,h1,hg,f,u,c,hu⟩ h4;have I:((S.S1 x.2.2 j).map ci).length=j:=by rw[UK,qk]
  have H:S.Tt x.2.2 j<=j:=by
   unfold S.Tt;split
   ·have:=VT (((x.2.2)[j]?.map UInt8.toNat).getD 0) (show 0<j+1 by omega);omega
   ·omega
  have key:∀(t:T) (Q:QT),tat t 1=X9 0->tat t 3=u->tat t 4=X8 (j:Int)->tat t 5=X8 (S.Tt x.2.2 j:Int) ->
    (∀(t':T) (g':G),tat t' 1=X9 0->tat t' 4=X8 (j:Int)->g'.h.get 0=Xs 3 [[a,.int .u16 (x.2.1.toNat:Int),b]]->1<=g'.nx->(∃u,tat t' 3=u/\Own g' 1 u 1 ((S.S1 x.2.2 (j+1)).map ci))->Q .norm t' [] g') ->
    wp C0 (d+1) none cQ Q t [] g:=by
   intro t Q h1 c h4 h5 kk;obtain⟨U,L,w1⟩:=H7 hu (n:=S.Tt x.2.2 j) (by omega);simp only[sz,simprocAttr,cQ,c,h5,Xm,Xd,L];refine dS (rows:=[]) (b:=1) (.inl ⟨rfl,rfl⟩) w1 f (by simp[bz];omega) λv1 g1 hv1 n1 f1 vid1 _=>?_;simp only[sz,simprocAttr,h4];refine dS (new:=[ci (j:Int)]) (hv1.step (Fr.new _ _)) (by simp[sx,sy,ci]) (by simp) (by simp[bz,qk];omega) λv2 g2 hv2 n2 f2 vid2 _=>?_;have w:Own g1 1 u 1 ((S.S1 x.2.2 j).map ci):=hu.fr n1 λi hi=>f1 i (hu.lt hi).2 (by simp[vid]);have o:∀i,i<g.nx->vid v1≠some i:=λi hi e=>by
    rcases vid1 with h|⟨i',h,E⟩
    ·rw[h]at e;cases e
    ·rw[h]at e;injection e with e;omega
   have z:Own g2 1 u 1 ((S.S1 x.2.2 j).map ci):=w.fr (by simp at n2;omega) λi hi=>by have hlt:=(hu.lt hi).2;rw[f2 i (by simp;omega) (o i hlt),G.new_h,aL _ _ _ (by omega)]
   obtain⟨V,M,N⟩:=H8 z (n:=S.Tt x.2.2 j) (by omega);simp only[sz,simprocAttr,c,h5,Xm,Xd,M];refine dS hv2 N (by simp at n2;omega) (by simp[bz,qk];omega) λv3 g3 hv3 n3 f3 _ _=>?_;simp only[sz,simprocAttr];refine kk _ _ (by simp[sx,h1]) (by simp[sx,h4]) ?_ (by simp at n2;omega) ⟨_,rfl,?_⟩
   ·rw[f3 0 (by simp at n2;omega) (λe=>by have:=(hv2.lt e).1;omega),f2 0 (by simp) (o 0 (by omega)),G.new_h,aL _ _ _ (by omega),f1 0 (by omega) (by simp[vid]),hg]
   ·simp only[sx,↓reduceIte];simpa [S.S1,List.map_take,List.map_drop] using hv3
  simp only[sz,simprocAttr,h1,h4,hg,p.len];refine ij (λhb=>?_) (λhb=>?_)
  ·have m:j<x.2.2.length:=by simp at hb;omega
   obtain⟨y,B⟩:∃y,x.2.2[j]?=some y:=⟨_,Uj m⟩;obtain⟨row,z1,z2⟩:=K j y B;rw[fM.1 z2]at z1;have J:y.toNat<256:=y.toNat_lt;have hlt:j<rows.length:=by omega
   have l:((S.Tt x.2.2 j:Nat):Int)=(y.toNat:Int) % ((j:Int)+1):=by unfold S.Tt;rw[Un m,B];simp
   simp only[sz,simprocAttr,h1,h4,hg,A,hlt,z1,aE (show -9223372036854775808<=(y.toNat:Int) by omega) (show (y.toNat:Int)<9223372036854775808 by omega),aE (show -9223372036854775808<=(j:Int)+1 by omega) (show (j:Int)+1<9223372036854775808 by omega),iX .i64 (show (0:Int)<=(y.toNat:Int) by omega) (show 0<(j:Int)+1 by omega)];refine key _ _ (by simp[sx,h1]) (by simp[sx,c]) (by simp[sx,h4]) (by simp[sx,l]) λt' g' e1 e4 e0 en eu=>?_;simp only[sy,e1,e4,e0];exact⟨en,eu⟩
  ·have l:S.Tt x.2.2 j=0:=by unfold S.Tt;rw[Um];simp at hb;omega
   simp only[sx];refine key _ _ (by simp[sx,h1]) (by simp[sx,c]) (by simp[sx,h4]) (by simp[sx,l]) λt' g' e1 e4 e0 en eu=>?_;simp only[sy,e1,e4,e0];exact⟨en,eu⟩
 ·rintro t df g ⟨rfl,h1,hg,f,u,c,hu⟩;simp only[sz,simprocAttr,fm,c];exact⟨_,hu.ints (by rw[qk];omega)⟩
end
end Hx
end
section
namespace Hx
open Go
noncomputable section
def S.T6(cards:List Int):List Int->Nat->List Int×Bool
 |vals,0=>(vals,false)
 |vals,k+1=>if (vals[k]?.getD 0)+1<(cards[k]?.getD 0) then (vals.set k ((vals[k]?.getD 0)+1),true) else S.T6 cards (vals.set k 0) k
def S.T5(cards vals:List Int):List Int×Bool:=S.T6 cards vals vals.length
end
end Hx
end
section
namespace Hx
open Go
noncomputable section
def S.T4(cards:List Int):Nat->List Int->List (List Int)
 |0,_=>[]
 |f+1,v=>v::(if (S.T5 cards v).2 then S.T4 cards f (S.T5 cards v).1 else [])
def S.Uc(cards:List Int):List (List Int):=S.T4 cards (S.Sz cards).toNat (List.replicate cards.length 0)
end
end Hx
end
section
namespace Hx
open Go
noncomputable section
def S.TT(l:List Int)(h:Int):Int:=l.foldr (λc q=>q / c) h
def S.TV(l:List Int)(h:Int)(i:Nat):Int:=S.TT (l.drop (i+1)) h % l[i]?.getD 1
def S.ST(l:List Int)(h:Int):List Int:=(List.range l.length).map (S.TV l h)
end
end Hx
end
section
namespace Hx
open Go
noncomputable section
def S.SA:List Int->List Int->Int
 |_::cs,v::vs=>v*S.Sz cs+S.SA cs vs
 |_,_=>0
def InC(cards vals:List Int):Prop:=All2 (λc v=>(0:Int)<=v/\v<c) cards vals
theorem iS:∀{cards vals:List Int},(∀c∈cards,1<=c/\c<=4)->InC cards vals->0<=S.SA cards vals/\S.SA cards vals<S.Sz cards
 |[],[],_,_=>⟨Int.le_refl _,by decide⟩
 | c::cs,v::vs,hc,h=>by obtain⟨a,b⟩:=iS (cards:=cs) (vals:=vs) (λx hx=>hc x (by simp[hx])) h.2;obtain⟨p1,-⟩:=du (l:=cs) λx hx=>hc x (by simp[hx]);have k:=h.1;rw[eM];show 0<=v*S.Sz cs+S.SA cs vs/\v*S.Sz cs+S.SA cs vs<c*S.Sz cs;have h1:0<=v*S.Sz cs:=WO k.1 (by omega);have h2:(v+1)*S.Sz cs<=c*S.Sz cs:=Int.mul_le_mul_of_nonneg_right (by omega) (by omega);rw[Xr,Int.one_mul]at h2;omega
 |[],_::_,_,h=>h.elim
 |_::_,[],_,h=>h.elim
theorem InC.drop:∀{cards vals:List Int} (j:Nat),InC cards vals->InC (cards.drop j) (vals.drop j)
 |_,_,0,h=>h
 |[],[],j+1,_=>trivial
 |_::_,_::_,j+1,h=>InC.drop j h.2
 |[],_::_,_,h=>h.elim
 |_::_,[],_,h=>h.elim
theorem InC.len{cards vals:List Int}(h:InC cards vals):vals.length=cards.length:=(All2.len h).symm
end
end Hx
end
section
namespace Hx
open Go
noncomputable section
theorem Lg{l:List Int}(hc:∀c∈l,1<=c/\c<=4)(hl:l.length<=13):S.Tu l=S.Sz l:=by
 have pw:∀n,n<=13->(4:Int) ^ n<=67108864:=λn hn=>by
  have:=gx hn;have e:(4:Int) ^ 13=67108864:=by decide
  omega
 have key:∀j,j<=l.length->S.Tu (l.take j)=S.Sz (l.take j):=by
  intro j
  induction j with
  |zero=>intro _;rfl
  | succ j ih =>
   intro k;obtain⟨x,hx,h,hm⟩:=ay (l:=l) (j:=j) (by omega);have ih:=ih (by omega);have hb:=du (l:=l.take (j+1)) λy hy=>hc y (Vh hy);have:=pw (l.take (j+1)).length (by simp;omega);rw[h]at hb this ⊢;rw[um]at hb ⊢;show S.Tu (l.take j++[x])=_;unfold S.Tu at ih ⊢;rw[List.foldl_append,ih];show IntKind.wrap .i64 (S.Sz (l.take j)*x)=_;rw[aE (by omega) (by omega)]
 have:=key l.length (Ui _);rwa [U3]at this
end
end Hx
end
section
namespace Hx
open Go
def S.T_(x:Mech)(roots:List Int)(V:Nat->Int):List Int:=(x.frm.map λq=>V q.toNat)++(x.noise.map λr=>roots[r.toNat]?.getD 0)
def S.T8(m:Causal)(roots act:List Int)(V:Nat->Int)(i:Nat)(x:Mech):Int:=if 0<=act[i]?.getD 0 then act[i]?.getD 0 else x.out[(S.SA (S.Ub m x) (S.T_ x roots V)).toNat]?.getD 0
def Sol(m:Causal)(roots act:List Int)(V:Nat->Int):Prop:=∀(i:Nat) (x:Mech),m.nodes[i]?=some x->V i=S.T8 m roots act V i x
noncomputable def S.V(m:Causal)(roots act:List Int):Nat->Int:=Classical.epsilon (Sol m roots act)
noncomputable def S.Ud(m:Causal)(roots act:List Int):List Int:=(List.range m.nodes.length).map (S.V m roots act)
theorem D7{cards vals:List Int}(hl:cards.length=vals.length)(h:∀(i:Nat) c v,cards[i]?=some c->vals[i]?=some v->0<=v/\v<c):InC cards vals:=by
 induction cards generalizing vals with
 | nil=>cases vals with
  |nil=>trivial
  |cons v vals=>simp at hl
 | cons c cards ih=>cases vals with
  |nil=>simp at hl
  |cons v vals=>exact⟨h 0 c v rfl rfl,ih (by simpa using hl) λi c' v' h1 h2=>h (i+1) c' v' (by simpa using h1) (by simpa using h2)⟩
theorem InC.get{cards vals:List Int}(h:InC cards vals){i:Nat}{c:Int}(hc:cards[i]?=some c):∃v,vals[i]?=some v/\0<=v/\v<c:=All2.get h hc
end Hx
end
section
namespace Hx
open Go
noncomputable section
def hz(cs vs:List Int)(j:Nat):Int:=((cs.zip vs).take j).foldl (λa p=>a*p.1+p.2) 0
section
variable {d k:Nat}{m:Causal}{roots act:List Int}{V:Nat->Int}{a b w u:AV}{p1 p2 p3 p4 iu:Nat}{hid:Int}{r:Nat->Nat}
end
end
end Hx
end
section
namespace Hx
open Go
noncomputable section
theorem iT(ag:Bool)(n l sz off:Nat)(row:List AV)(g:G):qh ag n (.tptr l sz [row] 0 off) g=orV (ch ag n row off):=rfl
section
variable {d:Nat}{m:Causal}{a b:AV}
end
end
end Hx
end
section
namespace Hx
open Go
noncomputable section
theorem iB{C:Cfg}{d:Nat}{r:List SR}{t:T}{g:G}{K:AV->G->Prop}{id:Nat}(hg:g.h.get id=.dfr true)(h:v8 r t (g.put id (.dfr false)) λvs=>K (jv vs) (g.put id (.dfr false))):uC C d r t [.mark id] g K:=by
 unfold uC;have:fN (I C) d [.mark id] g=some (g.put id (.dfr false)):=by simp only[fN,G.get_eq,hg]
 rw[this];exact h
end
end Hx
end
section
namespace Hx
open Go
noncomputable section
def Fam(g:G)(b K:Nat)(V:Nat->AV)(W:Nat->List (List AV)):Prop :=
 (∀k,k<K->Own g b (V k) 1 (W k))/\∀k l,k<K->l<K->k≠l->∀id,vid (V k)=some id->vid (V l)≠some id
def Sv(c:Nat->Int)(V:Nat->AV)(i:Nat):List AV:=[X8 (c i),V (3*i+1),V (3*i+2),V (3*i+3)]
def NT(n:Nat)(c:Nat->Int)(V:Nat->AV):List (List AV):=(List.range n).map (Sv c V)
structure ME where
 (n p4 q i5 p7 i9 b:Nat)
 (nv w5 w9 e7:AV)
 (gr:Int)
 (row0:List AV)
 (prow:List (List AV))
 (us:List UInt8)
structure ME.Ok (e:ME):Prop where
 ord:1<e.q/\e.q<e.p4/\e.p4<e.i5/\e.i5<e.p7/\e.p7<e.i9/\e.i9<e.b
 n1:1<=e.n/\e.n<=4
 g1:2<=e.gr/\e.gr<=12
 vn:vid e.nv=some e.q
 v5:vid e.w5=some e.i5
 v9:vid e.w9=some e.i9
 l7:SlR NoP 0 .nil e.us e.e7
structure MI (e:ME) (g:G) (V:Nat->AV) (W:Nat->List (List AV)) (c:Nat->Int) (ow:List Bool) (cap:Nat):Prop where
 h0:g.h.get 0=Xs 5 [e.row0]
 h1:g.h.get 1=Xs 3 [[X8 0,.nils,.nils]]
 hN:Own g 0 e.nv 4 (NT e.n c V)
 h4:g.h.get e.p4=Xs 3 [[X8 e.gr,V 0,e.nv]]
 h5:Own g 0 e.w5 4 e.prow
 h7:∃cc:Int,0<=cc/\cc<=(cap:Int)/\g.h.get e.p7=Xs 2 [[e.e7,X8 cc]]
 h9:Own g 0 e.w9 1 (ow.map λx=>[.bool x])
 fam:Fam g e.b (3*e.n+1) V W
 nx:e.b<=g.nx
section
variable {e:ME}{g g':G}{V:Nat->AV}{W:Nat->List (List AV)}{c:Nat->Int}{ow:List Bool}{cap:Nat}
theorem gA{v:AV}{i j:Nat}(h:vid v=some i)(h':vid v=some j):i=j:=by rw[h]at h';injection h'
structure MP (e:ME) (g:G) (V V':Nat->AV) (W:Nat->List (List AV)) (c:Nat->Int) (ow:List Bool) (cap:Nat):Prop where
 h0:g.h.get 0=Xs 5 [e.row0]
 h1:g.h.get 1=Xs 3 [[X8 0,.nils,.nils]]
 hN:Own g 0 e.nv 4 (NT e.n c V)
 h4:g.h.get e.p4=Xs 3 [[X8 e.gr,V 0,e.nv]]
 h5:Own g 0 e.w5 4 e.prow
 h7:∃cc:Int,0<=cc/\cc<=(cap:Int)/\g.h.get e.p7=Xs 2 [[e.e7,X8 cc]]
 h9:Own g 0 e.w9 1 (ow.map λx=>[.bool x])
 fam:Fam g e.b (3*e.n+1) V' W
 nx:e.b<=g.nx
end
end
end Hx
end
section
namespace Hx
open Go
noncomputable section
structure MD (e:ME) (W:Nat->List (List AV)) (R:List (List Int)) (F N O:Nat->List Int):Prop where
 r:All2 (Rp.rp NoP 0 .nil) R (W 0)
 f:∀i,i<e.n->W (3*i+1)=(F i).map ci
 n:∀i,i<e.n->W (3*i+2)=(N i).map ci
 o:∀i,i<e.n->W (3*i+3)=(O i).map ci
end
end Hx
end
section
namespace Hx
open Go
noncomputable section
end
end Hx
end
section
namespace Hx
open Go
noncomputable section
theorem xw{α β γ:Type}{R:β->γ->Prop}{f:α->β}{h:α->γ}:∀{l:List α},(∀x∈l,R (f x) (h x))->All2 R (l.map f) (l.map h)
 |[],_=>trivial
 |a::l,hl=>⟨hl a (by simp),xw λx hx=>hl x (by simp[hx])⟩
end
end Hx
end
section
namespace Hx
open Go
noncomputable section
theorem SlR.wide{α:Type} [Rp α]{P:Nat->Prop}{k k':Nat}{h h':H}{l:List α}{v:AV}(r:SlR NoP k h l v)(hk:k<=k'):SlR P k' h' l v:=by obtain⟨w,hw,q⟩:=Rp.tree (P:=P) (k':=k') (h':=h') (show Rp.rp NoP k h l [v] from ⟨v,rfl,r⟩) hk;injection hw with hw;subst hw;exact q
structure M0 (n p4 q i5 p7:Nat) (nv w5 cl:AV) (row0:List AV) (prow:List (List AV)) (gr:Int) (g:G) (cf:Nat->Int):Prop where
 h0:g.h.get 0=Xs 5 [row0]
 h1:g.h.get 1=Xs 3 [[X8 0,.nils,.nils]]
 hN:Own g 2 nv 4 (NT n cf λ_=>.nils)
 h4:g.h.get p4=Xs 3 [[X8 gr,.nils,nv]]
 h5:Own g 2 w5 4 prow
 h7:g.h.get p7=Xs 2 [[cl,X8 0]]
 nx:p7<g.nx
section
variable {n p4 q i5 p7:Nat}{nv w5 cl:AV}{row0:List AV}{prow:List (List AV)}{gr:Int}{g g':G}{cf cf':Nat->Int}
end
end
end Hx
end
section
namespace Hx
open Go
noncomputable section
def eid:AV->Option Nat
 |.hsl id _ _ _ _=>some id
 |.hptr id _ _ _=>some id
 |_=>none
def Bx(g:G)(b:Nat)(v:AV)(row:List AV):Prop:=∃id,b<=id/\id<g.nx/\v=X9 id/\g.h.get id=Xs row.length [row]
inductive En where
 |sl (sz:Nat) (rows:List (List AV))
 |bx (row:List AV)
def En.ok(g:G)(b:Nat)(v:AV):En->Prop
 |.sl sz rows=>Own g b v sz rows
 |.bx row=>Bx g b v row
theorem jb{g:G}{b:Nat}{v:AV}{sz:Nat}{rows:List (List AV)}(h:Own g b v sz rows):eid v=vid v:=by rcases h with⟨rfl,-⟩|⟨id,ep,lo,h1,h2,rfl,k⟩<;>rfl
theorem En.lt{g:G}{b:Nat}{v:AV}{e:En}(h:e.ok g b v){i:Nat}(hi:eid v=some i):b<=i/\i<g.nx:=by
 cases e with
 | sl sz rows =>
  have h:Own g b v sz rows:=h;rw[jb h]at hi;exact h.lt hi
 | bx row =>
  obtain⟨id,h1,h2,rfl,k⟩:=h;injection hi with hi;subst hi;exact⟨h1,h2⟩
theorem En.fr{g g':G}{b:Nat}{v:AV}{e:En}(h:e.ok g b v)(hn:g.nx<=g'.nx)(hf:∀i,eid v=some i->g'.h.get i=g.h.get i):e.ok g' b v:=by
 cases e with
 | sl sz rows =>
  have h:Own g b v sz rows:=h;exact h.fr hn λi hi=>hf i (by rw[jb h];exact hi)
 | bx row =>
  obtain⟨id,h1,h2,rfl,k⟩:=h;exact⟨id,h1,by omega,rfl,by rw[hf id rfl,k]⟩
section
variable {κ:Type}
structure Hp (g:G) (b:Nat) (L:κ->Prop) (V:κ->AV) (E:κ->En):Prop where
 ok:∀k,L k->(E k).ok g b (V k)
 sep:∀k l,L k->L l->k≠l->∀id,eid (V k)=some id->eid (V l)≠some id
 nx:b<=g.nx
variable {g g':G}{b:Nat}{L L':κ->Prop}{V:κ->AV}{E:κ->En}{k:κ}
theorem Hp.sub(h:Hp g b L V E)(hl:∀k,L' k->L k):Hp g b L' V E:=⟨λk hk=>h.ok k (hl k hk),λk l hk hl2=>h.sep k l (hl k hk) (hl l hl2),h.nx⟩
theorem Hp.step(h:Hp g b L V E)(hn:g.nx<=g'.nx)(hf:∀i,b<=i->i<g.nx->g'.h.get i=g.h.get i):Hp g' b L V E :=
 ⟨λk hk=>En.fr (h.ok k hk) hn λi hi=>hf i (En.lt (h.ok k hk) hi).1 (En.lt (h.ok k hk) hi).2,h.sep,Uy h.nx hn⟩
theorem Hp.same(h:Hp g b L V E)(hf:g'.h=g.h)(hn:g.nx<=g'.nx):Hp g' b L V E:=h.step hn λi _ _=>by rw[hf]
theorem Hp.own(h:Hp g b L V E)(hk:L k){sz:Nat}{rows:List (List AV)}(he:E k=.sl sz rows):Own g b (V k) sz rows:=by have:=h.ok k hk;rw[he]at this;exact this
theorem Hp.box(h:Hp g b L V E)(hk:L k){row:List AV}(he:E k=.bx row):Bx g b (V k) row:=by have:=h.ok k hk;rw[he]at this;exact this
end
section
variable {κ:Type} [DecidableEq κ]
def ups{α:Type}(f:κ->α)(k:κ)(x:α):κ->α:=λj=>if j=k then x else f j
theorem aJ{α:Type}(f:κ->α)(k:κ)(x:α):ups f k x k=x:=Un rfl
theorem ap{α:Type}(f:κ->α){k j:κ}(x:α)(h:j≠k):ups f k x j=f j:=Um h
theorem RK{α:Type}{f:κ->α}{k:κ}{x:α}(h:f k=x):ups f k x=f:=by
 funext j;by_cases e:j=k
 ·subst e;rw[aJ,h]
 ·exact ap _ _ e
variable {g g':G}{b:Nat}{L L':κ->Prop}{V:κ->AV}{E:κ->En}{k:κ}
theorem Hp.set(h:Hp g b L V E){v':AV}{e':En}(hk:L k)(ho:e'.ok g' b v')(hn:g.nx<=g'.nx)(hf:∀i,b<=i->i<g.nx->eid (V k)≠some i->g'.h.get i=g.h.get i)
  (hv:eid v'=eid (V k)\/∃i,eid v'=some i/\g.nx<=i):Hp g' b L (ups V k v') (ups E k e'):=by
 refine⟨λj hj=>?_,λj l hj hl hne id e1 d=>?_,Uy h.nx hn⟩
 ·by_cases e:j=k
  ·subst e;rw[aJ,aJ];exact ho
  ·rw[ap _ _ e,ap _ _ e];exact En.fr (h.ok j hj) hn λi hi=>hf i (En.lt (h.ok j hj) hi).1 (En.lt (h.ok j hj) hi).2 λd=>h.sep j k hj hk e i hi d
 ·have key:∀j,L j->j≠k->∀id,eid (V j)=some id->eid v'≠some id:=λj hj hne id e1 d=>by
   rcases hv with hv|⟨i,hv,hi⟩
   ·exact h.sep j k hj hk hne id e1 (hv ▸ d)
   ·rw[hv]at d;injection d with d;have:=(En.lt (h.ok j hj) e1).2;omega
  by_cases a:j=k
  ·subst a;rw[aJ]at e1;rw[ap _ _ (VC hne)]at d;exact key l hl (VC hne) id d e1
  ·rw[ap _ _ a]at e1
   by_cases c:l=k
   ·subst c;rw[aJ]at d;exact key j hj a id e1 d
   ·rw[ap _ _ c]at d;exact h.sep j l hj hl hne id e1 d
theorem Hp.add(h:Hp g b L V E){v':AV}{e':En}(hk:¬L k)(ho:e'.ok g' b v')(hn:g.nx<=g'.nx)(hf:∀i,b<=i->i<g.nx->g'.h.get i=g.h.get i)
  (hv:∀i,eid v'=some i->g.nx<=i) (hl:∀j,L' j->L j\/j=k):Hp g' b L' (ups V k v') (ups E k e'):=by
 refine⟨λj a=>?_,λj l a hl2 hne id e1 e2=>?_,Uy h.nx hn⟩
 ·rcases hl j a with a|rfl
  ·have e:j≠k:=λe=>hk (e ▸ a);rw[ap _ _ e,ap _ _ e];exact En.fr (h.ok j a) hn λi hi=>hf i (En.lt (h.ok j a) hi).1 (En.lt (h.ok j a) hi).2
  ·rw[aJ,aJ];exact ho
 ·have key:∀j,L j->∀id,eid (V j)=some id->eid v'≠some id:=λj a id e1 e2=>by have:=hv id e2;have:=(En.lt (h.ok j a) e1).2;omega
  rcases hl j a with a|rfl
  ·have e:j≠k:=λe=>hk (e ▸ a);rw[ap _ _ e]at e1;rcases hl l hl2 with hl2|rfl
   ·have e':l≠k:=λe=>hk (e ▸ hl2);rw[ap _ _ e']at e2;exact h.sep j l a hl2 hne id e1 e2
   ·rw[aJ]at e2;exact key j a id e1 e2
  ·rw[aJ]at e1;rcases hl l hl2 with hl2|rfl
   ·have e':l≠j:=λe=>hne e.symm;rw[ap _ _ e']at e2;exact key l hl2 id e2 e1
   ·exact hne rfl
theorem Hp.put(h:Hp g b L V E)(hk:L k){sz n i off:Nat}{rows:List (List AV)}{row row':List AV}(he:E k=.sl sz rows){x:AV}{K:AV->G->Prop}{D:ADf->Prop}(hr:rows[i]?=some row)
  (hl:x.cells.length=n) (ht:x.isTup=false) (hp:cH row off x.cells=some row')
  (kk:∀g',Hp g' b L V (ups E k (.sl sz (rows.set i row')))->g'.nx=g.nx->(∀i,i<b->g'.h.get i=g.h.get i)->(∀i,eid (V k)≠some i->g'.h.get i=g.h.get i)->K .undef g'):(nO n (nZ sz (V k) i off) x g).sat K g D:=by
 have ho:=h.own hk he;refine cP ho hr hl ht hp λg' hv' hn hf=>?_;have:=h.set hk (e':=.sl sz (rows.set i row')) hv' (by omega) (λi _ hi hne=>hf i (by rw[<-jb ho];exact hne)) (.inl rfl);rw[RK (f:=V) rfl]at this;exact kk g' this hn (λi hi=>hf i λe=>by have:=(ho.lt e).1;omega) λi hne=>hf i (by rw[<-jb ho];exact hne)
end
end
end Hx
end
section
namespace Hx
open Go
noncomputable section
theorem jy{C:Cfg}{d:Nat}{rd:Option Nat}{l:List SI}{b:SC}{Q:QT}{t:T}{df:List ADf}{g:G}{P:PT}(h1:wpO C d rd l P t df g)(h2:∀t df g,P t df g->wp C d rd b Q t df g):wp C d rd (X7 (.ops l) b) Q t df g:=by
 rw[dU];have:wp C d rd (.ops l) (λe t df g=>e=.norm/\P t df g) t df g:=by rw[BB];simpa using h1
 refine bO _ this ?_;rintro e t df g ⟨rfl,h⟩;exact h2 t df g h
structure Bnd (K:Nat) (m:Causal):Prop where
 r:m.roots.length<=K
 rr:∀x∈m.roots,x.length<=K
 n:m.nodes.length<=K
 f:∀x∈m.nodes,x.frm.length<=K/\x.noise.length<=K/\x.out.length<=K
abbrev Ky:Type:=Nat×Nat
structure BD (K R n:Nat) (V:Ky->AV) (E:Ky->En) (Rt:Nat->List Int) (c:Nat->Int) (F:Nat->Nat->List Int):Prop where
 r:∀i,i<R->E (0,i)=.sl 1 ((Rt i).map ci)/\(Rt i).length<=K
 f:∀q i,1<=q->q<=3->i<n->E (q,i)=.sl 1 ((F q i).map ci)/\(F q i).length<=K
 rs:E (4,0)=.sl 1 ((List.range R).map λi=>[V (0,i)])
 ns:E (4,1)=.sl 4 ((List.range n).map λi=>[X8 (c i),V (1,i),V (2,i),V (3,i)])
end
end Hx
end
section
namespace Hx
open Go
noncomputable section
structure TI (g:G) (q:Nat) (m:Causal) (k1 k2 act u1 u2 u3:AV) (A B W:List Int):Prop where
 a1:g.h.get 1=Xs 1 [[act]]
 a2:g.h.get 2=Xs 3 [[.nils,.nils,.nils]]
 a4:g.h.get 4=Xs 4 [[X8 m.grain,k1,k2,X8 (S.T9 m)]]
 bq:g.h.get q=Xs 3 [[u1,u2,u3]]
 o1:Own g 5 u1 1 (A.map ci)
 o2:Own g 5 u2 1 (B.map ci)
 o3:Own g 5 u3 1 (W.map ci)
 q5:5<=q/\q<g.nx
 n1:∀i,vid u1=some i->i≠q/\vid u2≠some i/\vid u3≠some i
 n2:∀i,vid u2=some i->i≠q/\vid u3≠some i
 n3:∀i,vid u3=some i->i≠q
section
variable {g g':G}{q:Nat}{m:Causal}{k1 k2 act u1 u2 u3:AV}{A B W:List Int}
end
end
end Hx
end
section
namespace Hx
open Go
noncomputable section
theorem i8{C:Cfg}{d:Nat}{rd:Option Nat}{a b:SC}{Q:QT}{t:T}{df:List ADf}{g:G}{P:PT}(h1:wp C d rd a (λe t df g=>e=.norm/\P t df g) t df g)(h2:∀t df g,P t df g->wp C d rd b Q t df g):wp C d rd (.seq a b) Q t df g:=by rw[dU];refine bO _ h1 ?_;rintro e t df g ⟨rfl,h⟩;exact h2 t df g h
end
end Hx
end
section
namespace Hx
open Go
noncomputable section
abbrev QI:=Int×Int
theorem rZ{x:QI}{P:Nat->Prop}{k:Nat}{h:H}{v:AV}:Agg x P k h v↔v=.agg [X8 x.1,X8 x.2]:=by
 constructor
 ·rintro⟨cs,rfl,hc⟩;obtain⟨a,b,rfl,h1,h2⟩:=rf.1 hc;rw[ax.1 h1,ax.1 h2];rfl
 ·rintro rfl;exact⟨_,rfl,rf.2 ⟨[X8 x.1],[X8 x.2],rfl,ax.2 rfl,ax.2 rfl⟩⟩
def S.Tg(n d:Nat):QI:=(((n / Nat.gcd n d:Nat):Int),((d / Nat.gcd n d:Nat):Int))
end
end Hx
end
section
namespace Hx
open Go
noncomputable section
theorem zq(a:ADf)(K:AV->G->Prop)(g:G)(D:ADf->Prop):(OR.dfr a).sat K g D=D a:=rfl
theorem zh(W:PT)(t:T)(df:List ADf)(g:G)(a:ADf):kD W none t df g a=W t (a::df) g:=rfl
theorem Lc{C:Cfg}{d n:Nat}{t:T}{g:G}{f:Nat}{first cap:List AV}(h:tat t n=.clo f first cap):SO.run C d none t g (.raw (.defer ⟨.value (.tmp n),#[],#[]⟩))=.dfr (.call (.clo f [] cap) (first++[])):=by
 have:(gp AV.undef n).run t=.clo f first cap:=by rw[gp_run];exact h
 simp only[SO.run,bC,cOp,aP,bV,this]
theorem rg{C:Cfg}{d n:Nat}{t:T}{g:G}{f:Nat}{first cap:List AV}(h:tat t n=.clo f first cap):(bC C (.defer ⟨.value (.tmp n),#[],#[]⟩)).run (I C) d none t g=.dfr (.call (.clo f [] cap) (first++[])):=Lc h
theorem ud{C:Cfg}{d:Nat}{r:List SR}{t:T}{g g':G}{K:AV->G->Prop}{f:Nat}{cap:List AV}{v:AV}(hc:(I C).call d f cap g=.ok v g')(h:v8 r t g' λvs=>K (jv vs) g'):uC C d r t [.call (.clo f [] cap) []] g K:=by
 unfold uC;have:fN (I C) d [.call (.clo f [] cap) []] g=some g':=by simp only[fN,UM,hc]
 rw[this];exact h
theorem oC{C:Cfg}{d:Nat}{rd:Option Nat}{t:T}{g:G}:SO.run C d rd t g (.raw (.call ⟨.builtin .recover,#[],#[]⟩))=.val .nili:=rfl
end
end Hx
end
section
namespace Hx
open Go
noncomputable section
theorem Hb[XOc](d:Nat)(a b:AV)(g:G):dj C0 (I C0) d (.clo 100 [] [a,b]) [] g=orF ((I C0).call d 100 [a,b] g):=by kernel_rfl
theorem GF{h:H}{id:Nat}{n:Int}(d k:Nat)(hg:h.get id=Xs 1 [[X8 n]]):Hx.snap h d (k+3) (X9 id)=some (.tptr (Nat.max d 0) 1 [[X8 n]] 0 0):=by
 simp only[Hx.snap,hg,show Nat.beq 0 0=true from rfl,aD]
 rfl
theorem Li{h:H}{d f:Nat}{a b a' b':AV}(ha:Hx.snap h d 23 a=some a')(hb:Hx.snap h d 23 b=some b'):Hx.snap h d an (.clo f [] [a,b])=some (.clo f [] [a',b']):=by show (match aD (Hx.snap h d 23) [],aD (Hx.snap h d 23) [a,b] with|some as',some cs=>some (AV.clo f as' cs)|_,_=>none)=_;simp only[aD,ha,hb]
theorem RW:jZ true .bool (.bool false) (.bool false)=.val (.bool false):=rfl
end
end Hx
end
section
namespace Hx
open Go
noncomputable section
end
end Hx
end
section
namespace Hx
open Go
noncomputable section
end
end Hx
end
section
namespace Hx
open Go
noncomputable section
def S.TW(vals e:List Int)(i:Nat):Bool:=decide (e[i]?.getD 0<0) || decide (e[i]?.getD 0=vals[i]?.getD 0)
def S.TL(vals e:List Int):Bool:=(List.range e.length).all (S.TW vals e)
end
end Hx
end
section
namespace Hx
open Go
noncomputable section
end
end Hx
end
section
namespace Hx
open Go
noncomputable section
end
end Hx
end
section
namespace Hx
open Go
noncomputable section
def S.Ue(s a:List Int):List Int:=(List.range s.length).map λi=>if a[i]?.getD 0<0 then -1 else s[i]?.getD 0
end
end Hx
end
section
namespace Hx
open Go
noncomputable section
theorem mK{α:Type}{C:α->Prop}{S:α->VS}{j:Nat}(h:∀a,Snb (S a) j):Snb (λP k h v=>∃a,C a/\S a P k h v) j :=
 ⟨λ{P k hh v n} d r hn=>by
  obtain⟨a,c,r⟩:=r;obtain⟨v',e,r'⟩:=(h a).snap d r hn;exact⟨v',e,a,c,r'⟩,λ{k hh v n} r hn=>by
  obtain⟨a,c,r⟩:=r;exact (h a).tag r hn⟩
theorem uj:∀{A L:List Nat},A.Nodup->(∀v∈A,v∈L)->A.length<=L.length
 |[],_,_,_=>US _
 | a::A,L,hA,h=>by rw[List.nodup_cons]at hA;have ha:=h a (by simp);have:=uj (A:=A) (L:=L.erase a) hA.2 λv hv=>(List.mem_erase_of_ne (λe=>hA.1 (by rw[<-e];exact hv))).2 (h v (by simp[hv]));rw[List.length_erase_of_mem ha]at this;have:=List.length_pos_of_mem ha;simp only[UX];omega
def Ord(p:List Nat)(L:List Nat):Prop:=(∀v,v<p.length->v∈L)/\∀(i v:Nat),L[i]?=some v->v<p.length/\∀q,(Par p v).testBit q=true->q∈L.take i
def J3(p:List Nat)(L:List Nat):Prop:=L.Nodup/\∀(i v:Nat),L[i]?=some v->v<p.length/\∀q,(Par p v).testBit q=true->q∈L.take i
theorem Ny{p L:List Nat}(h:J3 p L):L.length<=p.length:=by
 have:=uj (L:=List.range p.length) h.1 λv hv=>by obtain⟨i,hi,rfl⟩:=VD.1 hv;exact Uw.2 (h.2 i _ (Uj hi)).1
 simpa using this
theorem KV{p L:List Nat}(h:J3 p L){v:Nat}(hv:v ∉ L)(hl:v<p.length)(hp:∀q,(Par p v).testBit q=true->q∈L):J3 p (L++[v]):=by
 refine⟨?_,λi u hu=>?_⟩
 ·rw[List.nodup_append];exact⟨h.1,by simp,λa ha b hb=>by simp at hb;subst hb;exact λe=>hv (e ▸ ha)⟩
 ·rcases VI i L.length with hi|hi
  ·rw[UF hi]at hu;obtain⟨h1,h2⟩:=h.2 i u hu;exact⟨h1,λq hq=>by rw[List.take_append_of_le_length (by omega)];exact h2 q hq⟩
  ·rw[UA hi]at hu;have:i=L.length:=by have:=(Uh.1 hu).1;simp at this;omega
   subst this;simp at hu;subst hu;exact⟨hl,λq hq=>by rw[List.take_left];exact hp q hq⟩
theorem KU{p L:List Nat}(h:J3 p L)(hl:p.length<=L.length):Ord p L:=by
 refine⟨λv hv=>?_,h.2⟩
 by_cases hm:v∈L
 ·exact hm
 ·have:=uj (A:=v::L) (L:=List.range p.length) (List.nodup_cons.2 ⟨hm,h.1⟩) λu hu=>by
   rcases UW.1 hu with rfl|hu
   ·exact Uw.2 hv
   ·obtain⟨i,hi,rfl⟩:=VD.1 hu;exact Uw.2 (h.2 i _ (Uj hi)).1
  simp at this;omega
theorem Po{p L:List Nat}(h:J3 p L)(hl:L.length<p.length):∃v,v<p.length/\v ∉ L:=by
 by_cases hh:∃v,v<p.length/\v ∉ L
 ·exact hh
 ·exfalso;have:=uj (A:=List.range p.length) (L:=L) List.nodup_range λv hv=>by
   by_cases h':v∈L
   ·exact h'
   ·exact absurd ⟨v,Uw.1 hv,h'⟩ hh
  simp at this;omega
def QV(D:Nat)(L:List Nat):Prop:=D<18446744073709551616/\∀v,D.testBit v=true↔v∈L
theorem Lf{D:Nat}{L:List Nat}(h:QV D L){v:Nat}(hv:v<64):QV (D ||| S.S3 v) (L++[v]):=by
 refine⟨Nx h.1 (vp v),λu=>?_⟩;rw[tP,zJ hv,UZ,h.2,UD,UL,Vc];constructor
 ·rintro (h|h)
  ·exact .inl h
  ·exact .inr h.symm
 ·rintro (h|h)
  ·exact .inl h
  ·exact .inr h.symm
end
end Hx
end
section
namespace Hx
open Go
noncomputable section
end
end Hx
end
section
namespace Hx
open Go
noncomputable section
theorem Qj{g g':G}(hn:g.nx<=g'.nx)(h:∀i,i<g.nx->g'.h.get i=g.h.get i):Fr g g':=⟨hn,h⟩
theorem GP{C:Cfg}{d:Nat}{rd:Option Nat}{body:SC}{c ti k B b:Nat}{Q:QT}{m:Nat}{lim:Int}(hlim:lim=(m:Int))(hm:m<9223372036854775808)(J:Nat->PT){t:T}{df:List ADf}{g:G}
  (h0:J 0 t df g) (hi:tat t ti=X8 0) (hc:c≠ti/\b≠B)
  (hJ:∀j t df g v s,s=c\/s=ti\/s=k->J j t df g->J j (fe t s v) df g)
  (step:∀j t df g,j<m->J j t df g->tat t ti=X8 (j:Int)->wp C d rd body (kR (λt df g=>J (j+1) t df g/\tat t ti=X8 (j:Int)) b Q) t df g)
  (fin:∀t df g,J m t df g->Q (.exit B) t df g) :
  wpL (wp C d rd (X7 (.ops [o c (.bin .lss (.t ti) (.k (X8 lim)))]) (X7 (.cond (.t c) .skip (.exit B)) (X7 (.blk b body) (.ops [o k (.bin .add (.t ti) (.k (X8 1))),o ti (.mv (.t k))]))))) Q t df g:=by
 subst hlim;obtain⟨c1,f⟩:=hc;refine pC (λn t df g=>∃j:Nat,n=m - j/\j<=m/\J j t df g/\tat t ti=X8 (j:Int)) m ⟨0,by omega,by omega,h0,hi⟩ ?_;rintro n t df g ⟨j,rfl,i,a,h1⟩;simp only[sz,simprocAttr,h1];refine⟨λhq=>?_,λhq=>?_⟩
 ·have hlt:j<m:=by simpa using hq
  simp only[sx];refine bO _ (step j _ df g hlt (hJ _ _ _ _ _ _ (.inl rfl) a) (by simp only[fy];rw[Um (VC c1),h1])) λe t df g h=>?_;have key:J (j+1) t df g/\tat t ti=X8 (j:Int)->wp C d rd (.ops [o k (.bin .add (.t ti) (.k (X8 1))),o ti (.mv (.t k))])
    (kL (λn t df g=>∃j:Nat,n=m - j/\j<=m/\J j t df g/\tat t ti=X8 (j:Int)) (m - j) Q) t df g:=by
   rintro⟨a1,a2⟩;simp only[sz,simprocAttr,a2];refine⟨_,?_,j+1,rfl,by omega,hJ _ _ _ _ _ _ (.inr (.inl rfl)) (hJ _ _ _ _ _ _ (.inr (.inr rfl)) a1),?_⟩
   ·omega
   ·rw[aE (by omega) (by omega)];rfl
  cases e with
  |norm=>exact key h
  |ret=>exact h
  | exit x =>
   rw[oo]at h;rw[kX]
   split at h
   ·rename_i e;rw[Un e];exact key h
   ·rename_i e;rw[Um e];exact h
 ·have:j=m:=by simp at hq;omega
  subst this;simp only[sx];exact fin _ _ _ (hJ _ _ _ _ _ _ (.inl rfl) a)
section
variable {m:Causal}{c1 c2 l w c9 v35 ls v48:AV}{al:List Int}{hid kk:Int}{p:Nat}
end
end
end Hx
end
section
namespace Hx
open Go
noncomputable section
theorem HD(l:List Int)(j:Nat)(x:Int):(l.map ci).set j (ci x)=(l.set j x).map ci:=by rw[Vy]
end
end Hx
end
section
namespace Hx
open Go
noncomputable section
theorem Jy{x y:Nat}(hy:0<y):bB .rem (X8 (x:Int)) (X8 (y:Int))=.val (X8 ((x % y:Nat):Int)):=by rw[iX .i64 (Wz x) (by omega),<-Int.natCast_emod]
end
end Hx
end
section
namespace Hx
open Go
noncomputable section
theorem Jw{x y:Nat}(hx:x<9223372036854775808)(hy:0<y):bB .quo (X8 (x:Int)) (X8 (y:Int))=.val (X8 ((x / y:Nat):Int)):=by have h:x / y<=x:=V9 _ _;rw[Iy .i64 (Wz x) (by omega),<-Int.natCast_ediv];generalize x / y=z at h;rw[aE (by omega) (by omega)]
end
end Hx
end
section
namespace Hx
open Go
noncomputable section
def S.Tw:List Int->Int
 |[]=>0
 |x::l=>x+10000*S.Tw l
end
end Hx
end
section
namespace Hx
open Go
noncomputable section
end
end Hx
end
section
namespace Hx
open Go
noncomputable section
end
end Hx
end
section
namespace Hx
open Go
noncomputable section
end
end Hx
end
section
namespace Hx
open Go
noncomputable section
structure S.tI (bl:List Int) (n i:Nat) (V ai:Int) (k:Nat) (c:Int) (L:List Int):Prop where
 len:L.length=n
 rng:∀x∈L,0<=x/\x<10000
 zer:∀j,i+bl.length<=j->i+k<=j->L[j]?.getD 0=0
 kle:k<=bl.length+1
 c0:0<=c
 c1:c<10000
 ce:k=bl.length+1->c=0
 cs:k=0->c=0
 eq:S.Tw L+c*10000 ^ (i+k)=V+ai*10000 ^ i*S.Tw (bl.take k)
structure S.tO (al bl:List Int) (i:Nat) (L:List Int):Prop where
 len:L.length=al.length+bl.length
 rng:∀x∈L,0<=x/\x<10000
 zer:∀j,i+bl.length<=j->L[j]?.getD 0=0
 eq:S.Tw L=S.Tw (al.take i)*S.Tw bl
structure S.mI (al bl:List Int) (i:Nat) (r:Int) (L:List Int):Prop where
 len:L.length=i
 rng:∀x∈L,0<=x/\x<10000
 r01:r=0\/r=1
 eq:S.Tw L=S.Tw (al.take i) - S.Tw (bl.take i)+r*10000 ^ i
end
end Hx
end
section
namespace Hx
open Go
noncomputable section
theorem LH{x y:Int}(h0:0<=x)(h1:x<9223372036854775808)(hy:0<y):bB .quo (X8 x) (X8 y)=.val (X8 (x / y)):=by obtain⟨n,rfl⟩:=Ur h0;obtain⟨m,rfl⟩:=Ur (by omega:0<=y);have:=Jw (x:=n) (y:=m) (by omega) (by omega);rw[this,Int.natCast_ediv]
end
end Hx
end
section
namespace Hx
open Go
noncomputable section
structure S.qI (x b n:Nat) (i:Nat) (L:List Int):Prop where
 len:L.length=n
 rng:∀z∈L,0<=z/\z<10000
 eq:S.Tw (L.drop i)=((x / 10000 ^ i / b:Nat):Int)
end
end Hx
end
section
namespace Hx
open Go
noncomputable section
end
end Hx
end
section
namespace Hx
open Go
noncomputable section
theorem SlR.wd{α:Type} [Rp α]{P P':Nat->Prop}{k:Nat}{h h':H}{l:List α}{v:AV}(r:SlR P k h l v)(hf:∀i,P i->P' i/\h'.get i=h.get i):SlR P' k h' l v:=by obtain⟨w,hw,q⟩:=Rp.mono (k':=k) (P':=P') (h':=h') (show Rp.rp P k h l [v] from ⟨v,rfl,r⟩) hf (Ui _);injection hw with hw;subst hw;exact q
end
end Hx
end
section
namespace Hx
open Go
noncomputable section
end
end Hx
end
section
namespace Hx
open Go
noncomputable section
end
end Hx
end
section
namespace Hx
open Go
noncomputable section
end
end Hx
end
section
namespace Hx
open Go
noncomputable section
structure HS (m:Causal) (c1 c2 la lb lc:AV) (p q:Nat) (gb g:G):Prop where
 fr:Fr gb g
 mp:g.h.get p=Xs 3 [[X8 m.grain,c1,c2]]
 ml:g.h.get q=Xs 3 [[la,lb,lc]]
 pn:p<gb.nx
 q0:gb.nx<=q
 qn:q<g.nx
section
variable {m:Causal}{c1 c2 la lb lc w c28 vi c90 vj:AV}{A B Z:List Int}{p q:Nat}
end
end
end Hx
end
end
namespace Hx
open Go
noncomputable section
section
variable {p:List Nat}
theorem CQ:J2 p 0:=⟨λv _ hb=>by simp at hb,λv _ hb=>by simp at hb⟩
theorem FI{q:Nat}(ih:J2 p q){j:Nat}(hj:j<64)(hd:Sub (Par p j) q):J2 p (q ||| S.S3 j):=by
 refine⟨λv hv hb=>?_,λv hv hb=>?_⟩
 ·intro u hu;rw[tP,zJ hj,UZ,UD]at hb;rw[tP,UZ];rcases hb with hb|hb
  ·exact .inl (ih.1 v hv hb u hu)
  ·subst hb;exact .inl (hd u hu)
 ·rw[tP,zJ hj,UZ,UD]at hb;cases hq:q.testBit v
  ·rw[hq]at hb;simp at hb;subst hb;rw[<-U5];intro hu;have:=Ij ih.1 hd p.length j hu;rw[hq]at this;cases this
  ·exact ih.2 v hv hq
theorem wi{q:Nat}(h:J2 p q)(hf:∀v,v<p.length->q.testBit v=true):S.Tv p=true :=
 wh.2 λv hv=>h.2 v hv (hf v hv)
theorem Dp(hp:∀x∈p,x<2 ^ p.length)(h:S.Tv p=true){T:Nat}(hst:∀v,v<p.length->T.testBit v=false->¬Sub (Par p v) T):∀v,v<p.length->T.testBit v=true:=by
 rw[wh]at h;have none:∀r v,v<p.length->T.testBit v=false->S.up p (Par p v) p.length=r->False:=by
  intro r
  induction r using Nat.strongRecOn with
  | _ r ih =>
   intro v i hb hr;have d:=hst v i hb;have:∃u,(Par p v).testBit u=true/\T.testBit u=false:=by
    apply Vt;intro c;apply d;intro u hu;cases hc:T.testBit u
    ·exact absurd ⟨u,hu,hc⟩ c
    ·rfl
   obtain⟨u,hu,f⟩:=this;have k:u<p.length:=Oh (HP hp) hu;have hcl:=Lv hp (s:=Par p v) (HP hp);have a:(S.up p (Par p v) p.length).testBit u=true:=zA _ u hu;have b:Sub (S.up p (Par p u) p.length) (S.up p (Par p v) p.length):=Ij hcl (hcl u k a) _;have hlt:S.up p (Par p u) p.length<S.up p (Par p v) p.length:=by refine Nat.lt_of_le_of_ne (RJ b) λe=>?_;have:=h u k;rw[e,a]at this;cases this
   exact ih _ (by omega) u k f rfl
 intro v i;cases hc:T.testBit v
 ·exact (none _ v i hc rfl).elim
 ·rfl
end
end
end Hx
