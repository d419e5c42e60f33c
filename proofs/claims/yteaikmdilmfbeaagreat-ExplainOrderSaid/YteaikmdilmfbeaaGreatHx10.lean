/- A part of the proof: what the functions of the chapter compute. -/
import Derived.KernelRfl
import Derived.Test.YteaikmdilmfbeaaGreatHx9
set_option linter.all false
set_option maxRecDepth 20000
set_option maxHeartbeats 8000000
namespace Hx
open Go
noncomputable section
@[match_pattern,reducible] def XL(x:Int):AV:=.int .i64 x
@[match_pattern,reducible] def XM(i:Nat):AV:=.hptr i 0 0 0
@[match_pattern,reducible] def XN(x:Int):AV:=.int .u64 x
@[reducible] def W9 (d:Nat)(p:BinOp)(a b:Nat):SI:=o d (.bin p (.t a) (.t b))
@[reducible] def W_ (d:Nat)(p:BinOp)(a:Nat)(z:Int):SI:=o d (.bin p (.t a) (qI z))
@[reducible] def Xa (d n a:Nat):SI:=o d (.load true n (.t a))
@[reducible] def Xb (d a i:Nat):SI:=o d (.ext (.t a) i)
@[reducible] def Xc (n a b:Nat):SI:=oz (.store n (.t a) (.t b))
@[reducible] def Xd (d a:Nat):SI:=o d (.nilc (.t a))
@[reducible] def Xe (d a b:Nat):SI:=o d (.pick (.t a) (.k (.bool true)) (.t b))
@[reducible] def Xf (d a b:Nat):SI:=o d (.pick (.t a) (.t b) (.k (.bool false)))
@[reducible] def Xg (d n a b:Nat):SI:=o d (.ixs n (.t a) (.t b))
@[reducible] def Xh (d s:Nat)(w:Bool)(a:Nat):SI:=og d s w (.mv (.t a))
@[reducible] def Xi (d s:Nat)(w:Bool)(a:Nat):SI:=og d s w (.load false 1 (.t a))
@[reducible] def Xj (d s:Nat)(w:Bool)(n a:Nat):SI:=og d s w (.fad n (.t a))
@[reducible] def Xk (d s:Nat)(w:Bool)(p:BinOp)(a b:Nat):SI:=og d s w (.bin p (.t a) (.t b))
@[reducible] def Xl (d s:Nat)(w:Bool)(p:BinOp)(a:Nat)(z:Int):SI:=og d s w (.bin p (.t a) (qI z))
@[reducible] def Xm (d s:Nat)(w:Bool)(a:Nat):SI:=og d s w (.len .slice (.t a))
@[reducible] def Xs(d f a:Nat):SI:=o d (.call f [.t a])
@[reducible] def Xt(d f a b:Nat):SI:=o d (.call f [.t a,.t b])
@[reducible] def Xu(d f a b c:Nat):SI:=o d (.call f [.t a,.t b,.t c])
@[reducible] def Xv(d f a b c e:Nat):SI:=o d (.call f [.t a,.t b,.t c,.t e])
@[reducible] def Xw(d m n a b:Nat):SI:=o d (.app m n (.t a) (.t b))
@[reducible] def Xx(d:Nat)(b:Bool):SI:=o d (.mv (.k (.bool b)))
@[reducible] def Xy(d:Nat):SI:=o d (.mv (.k .nils))
@[reducible] def Xz(d:Nat)(p:BinOp)(a:Nat)(k:IntKind)(z:Int):SI:=o d (.bin p (.t a) (.k (.int k z)))
@[reducible] def XA(d a:Nat):SI:=o d (.not (.t a))
@[reducible] def XB(d:Nat)(k:IntKind)(a:Nat):SI:=o d (.conv k (.t a))
@[reducible] def XC(d s:Nat)(w:Bool)(n a b:Nat):SI:=og d s w (.ixs n (.t a) (.t b))
@[reducible] def XD(d a:Nat):SI:=o d (.bsl 1 1 [XL 0] [0] [.t a])
@[reducible] def XE(d a:Nat):SI:=o d (.bsl 1 1 [.nils] [0] [.t a])
@[reducible] def XF(d a:Nat):SI:=o d (.box (.t a))
@[reducible] def XG(d m n a b:Nat):SI:=o d (.ixa m n (.t a) (.t b))
@[reducible] def XH(a b c d e f:Nat):SC:=.ops [oM a b,oA c d,oM e f]
@[reducible] def XI(a b:Nat):SC:=.cond (.t a) .skip (.exit b)
@[reducible] def XJ(a:Nat)(x y:SC):SC:=.cond (.t a) x y
@[reducible] def XK(x y:SC):SC:=.seq x y
def C0:Cfg:=Go.Proofs.YteaikmdilmfbeaaGreat.Gen.cfg1
def CS:Cfg:=Go.Proofs.YteaikmdilmfbeaaGreat.Gen.cfg
def dK:SC:=sQ [W9 175 .lss 174 173] (XK (XI 175 2) (XK (.blk 3 (sQ [oM 176 174,oX 177 172 174,oL 178 177,oM 26 176,oM 27 178] (sQ [oM 179 27,W_ 180 .geq 179 0,oM 181 180,Xh 182 181 true 24,Xh 183 181 true 26,XC 184 181 true 1 182 183,Xi 185 181 true 184,Xh 186 181 true 27,Xk 187 181 true .neq 185 186,Xf 188 181 187] (XJ 188 (sQ [Xx 6 false] (.ret)) (.skip))))) (.ops [oA 189 174,oM 174 189])))
def cg:SC:=XK (sQ [oM 190 18,W_ 191 .geq 190 0,oM 192 191,Xh 193 192 true 22,Xh 194 192 true 18,Xk 195 192 true .gtr 193 194,Xh 196 192 true 195,Xh 197 196 false 22,Xh 198 196 false 18,Xk 199 196 false .eql 197 198,Xh 200 196 false 199,Xh 201 200 true 21,Xh 202 200 true 10,Xh 203 200 true 20,Xl 204 200 true .sub 203 1,XC 205 200 true 1 202 204,Xi 206 200 true 205,Xk 207 200 true .leq 201 206,og 208 196 false (.pick (.t 200) (.t 207) (.k (.bool false))),og 209 192 true (.pick (.t 196) (.k (.bool true)) (.t 208)),Xf 210 192 209] (XJ 210 (sQ [Xx 6 false] (.ret)) (.skip))) (sQ [oM 211 22,oM 18 211] (.ops [oM 212 19,oM 213 22,W9 214 .add 212 213,oM 19 214]))
def iz:SC:=.ops [oA 215 128,oM 128 215]
def dL:SC:=sQ [W9 129 .lss 128 127] (XK (XI 129 0) (XK (.blk 1 (sQ [oM 130 128,oX 131 126 128,oL 132 131,oM 20 130,oM 21 132] (sQ [Xa 134 2 7,oM 135 21,Xt 136 42 134 135,oM 133 136,Xb 137 133 0,Xb 138 133 1,oM 22 137,oM 23 138] (sQ [Xa 140 2 7,oM 141 21,Xt 142 43 140 141,oM 139 142,Xb 143 139 0,Xb 144 139 1,oM 24 143,oM 25 144] (XK (XK (.quiet [oM 145 23,W_ 146 .neq 145 0,oM 147 146,Xh 148 147 false 25,Xl 149 147 false .neq 148 0,Xe 150 147 149,oM 151 150,Xh 152 151 false 24,Xm 153 151 false 152,Xh 154 151 false 8,Xm 155 151 false 154,Xk 156 151 false .neq 153 155,Xe 157 151 156,oM 158 157,Xh 159 158 false 22,Xl 160 158 false .lss 159 1,Xe 161 158 160,oM 162 161,Xh 163 162 false 11,Xh 164 162 false 20,XC 165 162 false 2 163 164,og 166 162 false (.load true 2 (.t 165)),Xh 167 162 false 22,Xh 168 162 false 16,og 169 162 false (.call 40 [.t 167,.t 168]),og 170 162 false (.eq true (.flat [.int .i64,.int .i64]) (.t 166) (.t 169)),Xe 171 162 170]) (XJ 171 (sQ [Xx 6 false] (.ret)) (.skip))) (XK (sQ [oM 172 8,oN 173 172,oK 174 0] (.blk 2 (.loop dK))) cg)))))) iz))
def iy:SC:=sQ [W9 220 .lss 219 218] (XK (XI 220 4) (XK (.blk 5 (sQ [oM 221 219,oM 29 221] (.ops [oM 222 28,oM 223 29,XD 224 223,Xw 225 1 8 222 224,oM 28 225]))) (.ops [oA 226 219,oM 219 226])))
def iA:SC:=sQ [Xa 228 2 7,oM 229 8,oM 230 28,Xu 231 16 228 229 230,oM 227 231,Xb 232 227 0,Xb 233 227 1,Xb 234 227 2,o 31 (.alloc [XL 0,XL 0]),oM 30 232,Xc 2 31 233,oM 32 234] (XK (.quiet [Xa 236 2 7,oM 237 10,o 238 (.ixs 1 (.t 237) (qI 0)),oL 239 238,Xt 240 43 236 239,oM 235 240,Xb 241 235 0,Xb 242 235 1,oM 33 241,oM 34 242]) (sQ [oM 243 10,oN 244 243,oM 245 9,W9 246 .eql 244 245,oM 247 246,Xh 248 247 false 19,Xh 249 247 false 16,Xk 250 247 false .eql 248 249,Xe 251 247 250,oM 252 251,Xh 253 252 true 32,Xl 254 252 true .eql 253 0,Xf 255 252 254,oM 256 255,Xh 257 256 true 34,Xl 258 256 true .eql 257 0,Xf 259 256 258,oM 260 259,og 261 260 true (.load true 2 (.t 31)),og 262 260 true (.load true 2 (.t 14)),og 263 260 true (.eq false (.flat [.int .i64,.int .i64]) (.t 261) (.t 262)),Xf 264 260 263,oM 265 264,Xh 266 265 true 30,Xh 267 265 true 33,og 268 265 true (.call 18 [.t 266,.t 267]),Xf 269 265 268,oM 6 269] (.ret)))
def dM:SC:=sQ [Xy 28] (XK (sQ [oF 216 1 7,oL 217 216,oN 218 217,oK 219 0] (.blk 4 (.loop iy))) iA)
def jg:SC:=XK (sQ [o 35 (.call 12 []),XA 36 35] (XJ 36 (sQ [Xx 6 false] (.ret)) (.skip))) (sQ [Xa 37 3 3,Xs 38 15 37,o 7 (.alloc [XL 0,.nils]),Xc 2 7 38] (sQ [oF 39 0 4,Xa 40 9 39,Xa 41 2 7,Xt 42 31 40 41,oM 8 42] (sQ [oM 43 2,Xz 44 .rem 43 .u8 50,XB 45 .i64 44,o 46 (.bin .add (qI 1) (.t 45)),oM 9 46] (sQ [Xa 48 2 7,oM 49 8,oM 50 9,Xu 51 28 48 49 50,oM 47 51,Xb 52 47 0,Xb 53 47 1,Xb 54 47 2,oM 10 52,oM 11 53,oM 12 54] (sQ [Xa 56 2 7,oM 57 8,Xt 58 41 56 57,oM 55 58,Xb 59 55 0,Xb 60 55 1,Xb 61 55 2,o 14 (.alloc [XL 0,XL 0]),oM 13 59,Xc 2 14 60,oM 15 61] (XK (sQ [oM 62 12,W_ 63 .neq 62 0] (XJ 63 (sQ [oM 64 12,W_ 65 .eql 64 7,oM 66 65,Xh 67 66 true 15,Xl 68 66 true .eql 67 7,Xf 69 66 68,oM 70 69,Xh 71 70 true 10,Xm 72 70 true 71,Xh 73 70 true 11,Xm 74 70 true 73,Xk 75 70 true .add 72 74,Xl 76 70 true .eql 75 0,Xf 77 70 76,oM 6 77] (.ret)) (.skip))) (sQ [Xa 79 2 7,oM 80 8,Xt 81 38 79 80,oM 78 81,Xb 82 78 0,Xb 83 78 1,oM 16 82,oM 17 83] (XK (XK (.quiet [oM 84 15,W_ 85 .neq 84 0,oM 86 85,Xh 87 86 false 17,Xl 88 86 false .neq 87 0,Xe 89 86 88,oM 90 89,Xh 91 90 false 16,Xl 92 90 false .lss 91 1,Xe 93 90 92,oM 94 93,Xh 95 94 false 10,Xm 96 94 false 95,Xl 97 94 false .lss 96 1,Xe 98 94 97,oM 99 98,Xh 100 99 false 10,Xm 101 99 false 100,Xh 102 99 false 9,Xk 103 99 false .gtr 101 102,Xe 104 99 103,oM 105 104,Xh 106 105 false 11,Xm 107 105 false 106,Xh 108 105 false 10,Xm 109 105 false 108,Xk 110 105 false .neq 107 109,Xe 111 105 110,oM 112 111,Xh 113 112 false 10,og 114 112 false (.ixs 1 (.t 113) (qI 0)),Xi 115 112 false 114,Xh 116 112 false 13,Xk 117 112 false .neq 115 116,Xe 118 112 117,oM 119 118,Xh 120 119 false 11,og 121 119 false (.ixs 2 (.t 120) (qI 0)),og 122 119 false (.load true 2 (.t 121)),og 123 119 false (.load true 2 (.t 14)),og 124 119 false (.eq true (.flat [.int .i64,.int .i64]) (.t 122) (.t 123)),Xe 125 119 124]) (XJ 125 (sQ [Xx 6 false] (.ret)) (.skip))) (sQ [oK 18 (-1),oK 19 0] (XK (sQ [oM 126 10,oN 127 126,oK 128 0] (.blk 0 (.loop dL))) dM))))))))))
def fD:SF:=⟨270,[.tm 6],sQ [XF 3 0,XF 4 1,Xx 6 false] jg⟩
def tc:SC:=sQ [oM 65 6,oM 66 9,W9 67 .mul 65 66,oM 6 67] (.feet [0,1,0,0,12,28,0,127,255,511] [oF 68 1 4,oL 69 68,oM 70 5,oM 71 7,oX 72 70 71,oL 73 72,oM 74 9,Xg 75 3 69 73,oF 76 0 75,Xc 1 76 74])
def td:SC:=sQ [oF 50 0 8,oL 51 50,Xz 52 .rem 51 .u8 2,XB 53 .i64 52,o 54 (.bin .add (qI 2) (.t 53)),oM 9 54] (XK (sQ [oM 55 6,oM 56 9,W9 57 .mul 55 56,oM 58 3,W_ 59 .sub 58 1,oM 60 7,W9 61 .sub 59 60,XB 62 .u64 61,W9 63 .shl 57 62,W_ 64 .gtr 63 100] (XJ 64 (.ops [oK 9 2]) (.skip))) tc)
def kJ:SC:=XH 38 7 39 38 7 39
def fG:SC:=XK (sQ [oM 35 7,oM 36 3,W9 37 .lss 35 36] (XI 37 0)) (XK (.blk 1 (sQ [o 8 (.alloc [.int .u8 0,.int .u8 0,.nils])] (XK (sQ [oM 40 7,oF 41 1 1,oL 42 41,oN 43 42,W9 44 .lss 40 43] (XJ 44 (.ops [oF 45 1 1,oL 46 45,oM 47 7,Xg 48 3 46 47,Xa 49 3 48,Xc 3 8 49]) (.skip))) td))) kJ)
def kK:SC:=XH 104 14 105 104 14 105
def fH:SC:=XK (sQ [oM 101 14,oM 102 10,W9 103 .lss 101 102] (XI 103 6)) (XK (.blk 7 (sQ [oM 106 5,oM 107 14,oX 108 106 107,oL 109 108,oM 110 13,W9 111 .eql 109 110,oM 112 111,Xj 113 112 true 1 11,Xi 114 112 true 113,Xh 115 112 true 14,og 116 112 true (.conv .u64 (.t 115)),Xk 117 112 true .shr 114 116,og 118 112 true (.bin .and (.t 117) (.k (.int .u8 1))),og 119 112 true (.bin .eql (.t 118) (.k (.int .u8 1))),Xf 120 112 119,oM 121 120,Xj 122 121 true 1 4,Xi 123 121 true 122,Xh 124 121 true 12,XC 125 121 true 3 123 124,Xj 126 121 true 1 125,Xi 127 121 true 126,Xm 128 121 true 127,Xl 129 121 true .lss 128 3,Xf 130 121 129] (XJ 130 (.feet [0,1,0,0,8,0,56,120,248,0,512,2040,4095,8191,16383] [oF 131 1 4,oL 132 131,oM 133 12,oF 134 1 4,oL 135 134,oM 136 12,Xg 137 3 135 136,oF 138 1 137,oL 139 138,oM 140 13,XD 141 140,Xw 142 1 8 139 141,Xg 143 3 132 133,oF 144 1 143,Xc 1 144 142]) (.skip)))) kK)
def kN:SC:=XH 99 13 100 99 13 100
def fI:SC:=XK (sQ [oM 96 13,oM 97 3,W9 98 .lss 96 97] (XI 98 4)) (XK (.blk 5 (sQ [oK 14 0] (.blk 6 (.loop fH)))) kN)
def fJ:SC:=XK (sQ [oM 145 15,Xa 146 2 4,oM 147 12,Xt 148 49 146 147,Xs 149 48 148,W9 150 .lss 145 149] (XI 150 8)) (XK (.blk 9 (.feet [0,1,0,0,8,0,56,120,248,0,512,0,2048,0,14336,30720,63488,0,131072,0,0,1048576,0,7340032,15728640,32505856,66060288,133693440,268434944,536870400,1073741816,2147483647,4294967295,8589934591] [oF 153 1 4,oL 154 153,oM 155 12,oF 156 1 4,oL 157 156,oM 158 12,Xg 159 3 157 158,oF 160 2 159,oL 161 160,oF 162 0 4,oL 163 162,oF 164 1 4,oL 165 164,oM 166 12,Xg 167 3 165 166,oF 168 0 167,oL 169 168,oF 170 2 11,oL 171 170,oM 172 15,oF 173 1 4,oL 174 173,oM 175 12,Xg 176 3 174 175,oF 177 0 176,oL 178 177,oA 179 178,W9 180 .mul 172 179,Xv 181 50 163 169 171 180,XE 182 181,Xw 183 1 24 161 182,Xg 184 3 154 155,oF 185 2 184,Xc 1 185 183])) (XH 151 15 152 151 15 152))
def kP:SC:=sQ [oK 15 0] (.blk 8 (.loop fJ))
def jN:SC:=sQ [oM 92 5,oM 93 10,oX 94 92 93,oL 95 94,oM 12 95] (XK (sQ [oK 13 0] (.blk 4 (.loop fI))) kP)
def jO:SC:=XH 80 10 81 80 10 81
def eU:SC:=XK (sQ [oM 77 10,oM 78 3,W9 79 .lss 77 78] (XI 79 2)) (XK (.blk 3 (sQ [o 11 (.alloc [.int .u8 0,.int .u8 0,.nils])] (XK (sQ [oM 82 10,oF 83 1 1,oL 84 83,oN 85 84,W9 86 .lss 82 85] (XJ 86 (.ops [oF 87 1 1,oL 88 87,oM 89 10,Xg 90 3 88 89,Xa 91 3 90,Xc 3 11 91]) (.skip))) jN))) jO)
def jP:SC:=sQ [Xa 186 2 4,Xc 2 2 186] (.ret)
def jQ:SC:=XK (sQ [oK 10 0] (.blk 2 (.loop eU))) jP
def lV:SC:=sQ [oF 16 1 1,oL 17 16,oN 18 17,o 19 (.mx (.t 18) (qI 1)),o 20 (.mn (.t 19) (qI 5)),oM 3 20] (XK (.feet [0,1,3,7,15,0,32,127,0,511] [oF 21 0 1,oL 22 21,Xz 23 .rem 22 .u8 60,XB 24 .i64 23,o 25 (.bin .add (qI 1) (.t 24)),oM 26 3,o 27 (.mks 3 56 [XL 0,.nils,.nils] (.t 26) (.t 26)),o 28 (.build [XL 0,.nils] [(0,1),(1,1)] [.t 25,.t 27]),o 4 (.alloc [XL 0,.nils]),Xc 2 4 28]) (XK (.feet [0,1,0,4,15,31,63] [oM 29 3,o 30 (.mks 1 1 [.int .u8 0] (.t 29) (.t 29)),oF 31 2 1,oL 32 31,o 33 (.build [.nils,.int .u16 0,.nils] [(0,1),(2,1)] [.t 30,.t 32]),Xs 34 47 33,oM 5 34]) (sQ [oK 6 1] (XK (sQ [oK 7 0] (.blk 0 (.loop fG))) jQ))))
def js:SF:=⟨187,[.cell true 2 2],sQ [XF 1 0,o 2 (.alloc [XL 0,.nils])] lV⟩
def rh:SC:=sQ [Xa 14 2 3,oM 15 1,oM 16 2,Xu 17 51 14 15 16,oM 13 17,Xb 18 13 0,Xb 19 13 1,oM 9 18,oM 10 19] (XK (sQ [oM 20 10,W_ 21 .neq 20 0] (XJ 21 (sQ [o 22 (.build [XL 0,XL 0] [] []),oM 23 10,Xy 6,Xc 2 7 22,oM 8 23] (.ret)) (.skip))) (XK (sQ [oM 24 9,Xd 25 24,oF 26 5 25,oL 27 26,W_ 28 .eql 27 0] (XJ 28 (sQ [o 29 (.build [XL 0,XL 0] [] []),Xy 6,Xc 2 7 29,oK 8 7] (.ret)) (.skip))) (sQ [oM 31 9,Xs 32 52 31,oM 30 32,Xb 33 30 0,Xb 34 30 1,oM 11 33,oM 12 34] (sQ [oM 35 11,oM 36 12,oM 37 9,Xd 38 37,oF 39 5 38,oL 40 39,Xt 41 53 36 40,oM 6 35,Xc 2 7 41,oK 8 0] (.ret)))))
def oq:SF:=⟨42,[.tm 6,.cell true 2 7,.tm 8],sQ [XF 3 0,Xy 6,o 7 (.alloc [XL 0,XL 0]),oK 8 0] rh⟩
def iJ:SC:=sQ [W9 14 .lss 13 12] (XK (XI 14 0) (XK (.blk 1 (sQ [oM 15 13,oM 5 15] (XK (.quiet [oM 16 0,oM 17 5,oX 18 16 17,oL 19 18,oM 20 1,oM 21 5,oX 22 20 21,oL 23 22,W9 24 .neq 19 23]) (XJ 24 (sQ [Xx 4 false] (.ret)) (.skip))))) (.ops [oA 25 13,oM 13 25])))
def iK:SC:=sQ [Xx 4 true] (.ret)
def dq:SF:=⟨26,[.tm 4],sQ [Xx 4 false] (XK (sQ [oM 6 0,oN 7 6,oM 8 1,oN 9 8,W9 10 .neq 7 9] (XJ 10 (sQ [Xx 4 false] (.ret)) (.skip))) (XK (sQ [oM 11 0,oN 12 11,oK 13 0] (.blk 0 (.loop iJ))) iK))⟩
def lQ:SC:=.ops [oA 53 42,oM 42 53]
def lO:SC:=sQ [W9 43 .lss 42 41] (XK (XI 43 0) (XK (.blk 1 (sQ [oM 44 42,oX 45 40 42,oL 46 45,oM 12 44,oM 13 46] (sQ [oM 47 13,W_ 48 .gtr 47 0] (XJ 48 (.ops [oM 49 11,oM 50 12,XD 51 50,Xw 52 1 8 49 51,oM 11 52]) (.skip))))) lQ))
def lP:SC:=sQ [W9 67 .lss 66 65] (XK (XI 67 2) (XK (.blk 3 (sQ [oX 68 64 66,oL 69 68,oM 16 69] (.feet [0,0,2,6,14,0,62,126,0,256,768,1792,4094,8190,16383,32767] [oM 70 14,oL 71 9,Xd 72 71,oF 73 4 72,oL 74 73,oM 75 16,oX 76 74 75,oL 77 76,oL 78 9,Xd 79 78,oF 80 5 79,oL 81 80,Xt 82 53 77 81,o 83 (.bsl 2 1 [XL 0,XL 0] [0] [.t 82]),Xw 84 2 16 70 83,oM 14 84]))) (.ops [oA 85 66,oM 66 85])))
def lR:SC:=sQ [oM 86 11,oM 87 14,oM 6 86,oM 7 87,oK 8 0] (.ret)
def lS:SC:=sQ [oM 54 11,o 55 (.mkf 78 [] [.t 9]),Xt 56 77 54 55] (sQ [oM 57 11,oM 58 2,oM 59 11,oN 60 59,o 61 (.mn (.t 58) (.t 60)),o 62 (.slc 1 (.t 57) [] [.t 61]),Xs 63 37 62,oM 11 63] (sQ [Xy 14] (XK (sQ [oM 64 11,oN 65 64,oK 66 0] (.blk 2 (.loop lP))) lR)))
def mJ:SC:=sQ [Xa 18 2 3,oM 19 1,o 20 (.call 51 [.t 18,.t 19,.k (.nils)]),oM 17 20,Xb 21 17 0,Xb 22 17 1,o 9 (.alloc [.nilp]),Xc 1 9 21,oM 10 22] (XK (sQ [oM 23 10,W_ 24 .neq 23 0] (XJ 24 (sQ [oM 25 10,Xy 6,Xy 7,oM 8 25] (.ret)) (.skip))) (XK (sQ [oM 26 2,W_ 27 .lss 26 1,oM 28 27,Xh 29 28 false 2,Xl 30 28 false .gtr 29 50,Xe 31 28 30] (XJ 31 (sQ [Xy 6,Xy 7,oK 8 2] (.ret)) (.skip))) (XK (sQ [oL 32 9,Xd 33 32,oF 34 5 33,oL 35 34,W_ 36 .eql 35 0] (XJ 36 (sQ [Xy 6,Xy 7,oK 8 7] (.ret)) (.skip))) (sQ [Xy 11] (XK (sQ [oL 37 9,Xd 38 37,oF 39 4 38,oL 40 39,oN 41 40,oK 42 0] (.blk 0 (.loop lO))) lS)))))
def jX:SF:=⟨88,[.tm 6,.tm 7,.tm 8],sQ [XF 3 0,Xy 6,Xy 7,oK 8 0] mJ⟩
def gx:SC:=.ops [oM 34 5,oM 35 7,XD 36 35,Xw 37 1 8 34 36,oM 5 37]
def uA:SC:=XH 13 6 14 13 6 14
def uz:SC:=XK (sQ [oM 8 6,oF 9 1 3,oL 10 9,oN 11 10,W9 12 .lss 8 11] (XI 12 0)) (XK (.blk 1 (sQ [oK 7 (-1)] (XK (sQ [oF 15 0 2,oL 16 15,oM 17 6,XB 18 .u64 17,W9 19 .shr 16 18,Xz 20 .and 19 .u8 1,Xz 21 .eql 20 .u8 1] (XJ 21 (.quiet [oM 22 6,oF 23 1 2,XG 24 8 1 23 22,oL 25 24,XB 26 .i64 25,oF 27 1 3,oL 28 27,oM 29 6,Xg 30 3 28 29,oF 31 0 30,oL 32 31,W9 33 .rem 26 32,oM 7 33]) (.skip))) gx))) uA)
def lX:SC:=sQ [oM 38 5,oM 4 38] (.ret)
def mV:SC:=sQ [Xy 5] (XK (sQ [oK 6 0] (.blk 0 (.loop uz))) lX)
def j4:SF:=⟨39,[.tm 4],sQ [XF 2 0,XF 3 1,Xy 4] mV⟩
def br:SF:=⟨8,[.tm 2],sQ [Xy 2] (XK (sQ [oM 3 0,o 4 (.eq false .slice (.t 3) (.k (.nils)))] (XJ 4 (sQ [Xy 2] (.ret)) (.skip))) (sQ [o 5 (.bsl 1 0 [XL 0] [] []),oM 6 0,Xw 7 1 8 5 6,oM 2 7] (.ret)))⟩
def sS:SC:=sQ [Xa 9 2 2,oM 10 1,XE 11 10,Xt 12 81 9 11,oM 8 12,Xb 13 8 0,Xb 14 8 1,o 6 (.alloc [XL 0,.nils,.nils,.nils]),Xc 4 6 13,oM 7 14] (XK (sQ [oM 15 7,W_ 16 .neq 15 0] (XJ 16 (sQ [oM 17 7,oK 4 0,oM 5 17] (.ret)) (.skip))) (sQ [Xa 18 4 6,oM 19 1,Xt 20 82 18 19,oM 4 20,oK 5 0] (.ret)))
def qy:SF:=⟨21,[.tm 4,.tm 5],sQ [XF 2 0,oK 4 0,oK 5 0] sS⟩
def wJ:SC:=sQ [oM 8 0,oM 9 1,Xt 10 85 8 9,oM 7 10,Xb 11 7 0,Xb 12 7 1,o 5 (.alloc [XL 0,XL 0]),Xc 2 5 11,oM 6 12] (sQ [Xa 13 2 5,Xc 2 4 13] (.ret))
def vz:SF:=⟨14,[.cell true 2 4],sQ [o 4 (.alloc [XL 0,XL 0])] wJ⟩
def rm:SC:=.ops [o 11 (.alloc [XL 0,XL 0,.nils]),Xc 3 11 26]
def rn:SC:=.blk 1 (sQ [oL 27 9,oF 28 1 11,oL 29 28,W9 30 .add 27 29,Xc 1 9 30] (sQ [oF 31 1 11,oL 32 31,oL 33 10,W9 34 .gtr 32 33] (XJ 34 (.feet [0,1,0,4,3,31] [oF 35 0 11,oL 36 35,oF 37 1 11,oL 38 37,Xc 1 4 36,Xc 1 10 38]) (.skip))))
def lC:SC:=XK (sQ [oL 39 9,W_ 40 .eql 39 0] (XJ 40 (sQ [o 41 (.build [XL 0,XL 0] [] []),oz (.store 1 (.t 4) (qI 0)),Xc 2 5 41,oK 6 7] (.ret)) (.skip))) (sQ [oL 43 10,oL 44 9,Xt 45 86 43 44,oM 42 45,Xb 46 42 0,Xb 47 42 1,Xc 2 5 46,oM 6 47] (XK (.feet [0,0,0,1,11,31] [oL 48 4,Xa 49 2 5,oM 50 6,Xc 1 4 48,Xc 2 5 49,oM 6 50]) (.ret)))
def sR:SC:=sQ [Xa 13 2 2,oM 14 1,XE 15 14,Xt 16 81 13 15,oM 12 16,Xb 17 12 0,Xb 18 12 1,o 7 (.alloc [XL 0,.nils,.nils,.nils]),Xc 4 7 17,oM 8 18] (XK (sQ [oM 19 8,W_ 20 .neq 19 0] (XJ 20 (sQ [o 21 (.build [XL 0,XL 0] [] []),oM 22 8,oz (.store 1 (.t 4) (qI 0)),Xc 2 5 21,oM 6 22] (.ret)) (.skip))) (sQ [o 9 (.alloc [XL 0]),o 10 (.alloc [XL 0]),oz (.store 1 (.t 9) (qI 0)),oz (.store 1 (.t 10) (qI 0))] (XK (sQ [Xa 23 4 7,oM 24 1,Xt 25 83 23 24] (.blk 0 (.rng 51 (.t 25) [26] rm rn))) lC)))
def qw:SF:=⟨51,[.cell false 1 4,.cell true 2 5,.tm 6],sQ [XF 2 0,o 4 (.alloc [XL 0]),o 5 (.alloc [XL 0,XL 0]),oK 6 0] sR⟩
def lE:SC:=sQ [W9 46 .lss 45 44] (XK (XI 46 2) (XK (.blk 3 (sQ [oX 47 43 45,oL 48 47,oM 14 48] (.quiet [oM 49 12,oF 50 2 6,oL 51 50,oM 52 14,oX 53 51 52,oL 54 53,W9 55 .mul 49 54,oM 56 8,oM 57 14,oX 58 56 57,oL 59 58,W9 60 .add 55 59,oM 12 60]))) (.ops [oA 61 45,oM 45 61])))
def rB:SC:=.quiet [oM 62 9,oF 63 2 11,oL 64 63,oM 65 12,oX 66 64 65,oL 67 66,oM 68 8,oM 69 10,oX 70 68 69,oL 71 70,oX 72 67 71,oL 73 72,W9 74 .mul 62 73,oM 9 74]
def rC:SC:=.ops [oA 75 37,oM 37 75]
def rA:SC:=sQ [W9 38 .lss 37 36] (XK (XI 38 0) (XK (.blk 1 (sQ [oM 39 37,Xg 40 3 35 37,Xa 41 3 40,o 11 (.alloc [XL 0,.nils,.nils]),oM 10 39,Xc 3 11 41] (sQ [oK 12 0] (XK (sQ [oF 42 1 11,oL 43 42,oN 44 43,oK 45 0] (.blk 2 (.loop lE))) rB)))) rC))
def rD:SC:=sQ [oM 76 9,oM 4 76,oK 5 0] (.ret)
def sZ:SC:=sQ [Xa 16 2 2,Xs 17 87 16,oM 15 17,Xb 18 15 0,Xb 19 15 1,o 6 (.alloc [XL 0,.nils,.nils,.nils,.nils]),Xc 5 6 18,oM 7 19] (XK (sQ [oM 20 7,W_ 21 .neq 20 0] (XJ 21 (sQ [oM 22 7,oK 4 0,oM 5 22] (.ret)) (.skip))) (sQ [oF 24 2 6,oL 25 24,oM 26 1,Xt 27 88 25 26,oM 23 27,Xb 28 23 0,Xb 29 23 1,oM 8 28,oM 7 29] (XK (sQ [oM 30 7,W_ 31 .neq 30 0] (XJ 31 (sQ [oM 32 7,oK 4 0,oM 5 32] (.ret)) (.skip))) (sQ [oK 9 1] (XK (sQ [oF 33 0 6,oF 34 1 33,oL 35 34,oN 36 35,oK 37 0] (.blk 0 (.loop rA))) rD)))))
def qA:SF:=⟨77,[.tm 4,.tm 5],sQ [XF 2 0,oK 4 0,oK 5 0] sZ⟩
def sY:SC:=sQ [Xa 9 2 2,Xs 10 87 9,oM 8 10,Xb 11 8 0,Xb 12 8 1,o 6 (.alloc [XL 0,.nils,.nils,.nils,.nils]),Xc 5 6 11,oM 7 12] (XK (sQ [oM 13 7,W_ 14 .neq 13 0] (XJ 14 (sQ [oM 15 7,Xy 4,oM 5 15] (.ret)) (.skip))) (sQ [oF 16 2 6,oL 17 16,oM 18 1,Xt 19 88 17 18,Xb 20 19 0,Xb 21 19 1,oM 4 20,oM 5 21] (.ret)))
def qz:SF:=⟨22,[.tm 4,.tm 5],sQ [XF 2 0,Xy 4,oK 5 0] sY⟩
def cz:SC:=sQ [Xy 6] (sQ [oM 28 6,oM 29 3,oM 30 5,o 31 (.slc 1 (.t 29) [] [.t 30]),Xw 32 1 8 28 31,oM 33 4,XD 34 33,Xw 35 1 8 32 34,oM 6 35] (.ops [oM 36 6,oM 37 3,oM 38 5,o 39 (.slc 1 (.t 37) [.t 38] []),Xw 40 1 8 36 39,oM 3 40]))
def lH:SC:=XH 12 4 13 12 4 13
def lG:SC:=XK (sQ [oM 7 4,Xa 8 3 1,Xs 9 91 8,oN 10 9,W9 11 .lss 7 10] (XI 11 0)) (XK (.blk 1 (sQ [oK 5 0] (XK (sQ [oM 14 4,oF 15 2 1,oL 16 15,oN 17 16,W9 18 .lss 14 17] (XJ 18 (.ops [oF 19 2 1,oL 20 19,oM 21 4,oX 22 20 21,oL 23 22,XB 24 .i64 23,oM 25 4,oA 26 25,W9 27 .rem 24 26,oM 5 27]) (.skip))) cz))) lH)
def eJ:SC:=sQ [oM 41 3,oM 2 41] (.ret)
def fe:SC:=sQ [Xy 3] (XK (sQ [oK 4 0] (.blk 0 (.loop lG))) eJ)
def cX:SF:=⟨42,[.tm 2],sQ [XF 1 0,Xy 2] fe⟩
def y7:SC:=XK (sQ [oM 5 4,oM 6 0,oN 7 6,W9 8 .lss 5 7] (XI 8 0)) (XK (.blk 1 (.ops [oM 11 3,oM 12 0,oM 13 4,oX 14 12 13,oL 15 14,W9 16 .mul 11 15,oM 3 16])) (XH 9 4 10 9 4 10))
def rK:SC:=sQ [oM 17 3,oM 2 17] (.ret)
def qF:SF:=⟨18,[.tm 2],sQ [oK 2 0] (sQ [oK 3 1] (XK (sQ [oK 4 0] (.blk 0 (.loop y7))) rK))⟩
def jR:SC:=XK (.quiet [Xa 5 2 2,Xs 6 92 5,oF 7 1 2,oL 8 7,oM 9 1,Xg 10 3 8 9,oF 11 1 10,oL 12 11,Xt 13 68 6 12,oM 4 13]) (.ret)
def gy:SF:=⟨14,[.tm 4],sQ [XF 2 0,Xy 4] jR⟩
def tf:SC:=.ops [oM 39 10,oM 40 9,oM 41 11,oX 42 40 41,oL 43 42,W9 44 .add 39 43,oM 10 44]
def th:SC:=XH 20 11 21 20 11 21
def mW:SC:=XK (sQ [oM 17 11,oM 18 1,W9 19 .lss 17 18] (XI 19 0)) (XK (.blk 1 (XK (sQ [oM 22 2,oN 23 22,W_ 24 .gtr 23 0] (XJ 24 (.ops [oM 25 9,oM 26 11,oM 27 2,oM 28 3,oM 29 11,W9 30 .add 28 29,oM 31 2,oN 32 31,W9 33 .rem 30 32,oX 34 27 33,oL 35 34,Xz 36 .rem 35 .u8 8,XB 37 .i64 36,oX 38 25 26,Xc 1 38 37]) (.skip))) tf)) th)
def tj:SC:=.ops [oM 68 12,oM 69 9,oM 70 14,oX 71 69 70,oL 72 71,W9 73 .sub 68 72,oM 12 73]
def tk:SC:=XH 49 14 50 49 14 50
def mX:SC:=XK (sQ [oM 46 14,oM 47 1,W9 48 .lss 46 47] (XI 48 2)) (XK (.blk 3 (XK (sQ [oM 51 9,oM 52 14,oX 53 51 52,oL 54 53,W_ 55 .gtr 54 0] (XJ 55 (sQ [oM 56 9,oM 57 14,oM 58 0,oM 59 9,oM 60 14,oX 61 59 60,oL 62 61,W9 63 .mul 58 62,oM 64 10,W9 65 .quo 63 64,oX 66 56 57,Xc 1 66 65] (.ops [oM 67 14,oM 13 67])) (.skip))) tj)) tk)
def tu:SC:=sQ [oM 74 9,oM 75 13,oM 76 9,oM 77 13,oX 78 76 77,oL 79 78,oM 80 12,W9 81 .add 79 80,oX 82 74 75,Xc 1 82 81] (sQ [oM 83 9,oM 8 83] (.ret))
def tv:SC:=sQ [oM 45 0,oM 12 45,oK 13 0] (XK (sQ [oK 14 0] (.blk 2 (.loop mX))) tu)
def te:SF:=⟨84,[.tm 8],sQ [Xy 8] (sQ [oM 15 1,o 16 (.mks 1 8 [XL 0] (.t 15) (.t 15)),oM 9 16] (sQ [oK 10 0] (XK (sQ [oK 11 0] (.blk 0 (.loop mW))) tv)))⟩
def cF:SC:=sQ [W9 31 .lss 30 29] (XK (XI 31 0) (XK (.blk 1 (sQ [oX 32 28 30,oL 33 32,oM 12 33] (XK (sQ [oM 34 12,oM 35 10,W9 36 .leq 34 35,oM 37 36,Xh 38 37 false 12,Xj 39 37 false 1 3,Xi 40 37 false 39,Xm 41 37 false 40,Xk 42 37 false .geq 38 41,Xe 43 37 42] (XJ 43 (sQ [o 6 (.mv (.k (.nilp))),oK 7 2] (.ret)) (.skip))) (.ops [oM 44 12,oM 10 44])))) (.ops [oA 45 30,oM 30 45])))
def qu:SC:=.ops [oA 66 49,oM 49 66]
def d_:SC:=sQ [W9 50 .lss 49 48] (XK (XI 50 2) (XK (.blk 3 (sQ [oM 51 49,oM 13 51] (sQ [oM 52 2,oM 53 13,Xt 54 94 52 53,XA 55 54] (XJ 55 (.feet [0,0,2,6,14,0,32,126,255,511,1023] [oL 56 9,oL 57 9,Xd 58 57,oF 59 3 58,oL 60 59,oM 61 13,XD 62 61,Xw 63 1 8 60 62,Xd 64 56,oF 65 3 64,Xc 1 65 63]) (.skip))))) qu))
def ja:SC:=sQ [oM 14 76] (.ops [oM 15 77])
def ea:SC:=sQ [W9 81 .lss 80 79] (XK (XI 81 6) (XK (.blk 7 (sQ [oM 82 80,oX 83 78 80,oL 84 83,oM 16 82,oM 17 84] (sQ [oM 85 17,W_ 86 .geq 85 0,oM 87 86,Xh 88 87 true 17,Xh 89 87 true 15,Xh 90 87 true 16,XC 91 87 true 1 89 90,Xi 92 87 true 91,Xk 93 87 true .neq 88 92,Xf 94 87 93] (XJ 94 (sQ [oL 95 9,Xd 96 95,oF 97 4 96,oL 98 97,oM 99 14,oX 100 98 99,oz (.store 1 (.t 100) (qI 0))] (.exit 5)) (.skip))))) (.ops [oA 101 80,oM 80 101])))
def jc:SC:=.feet [0,1,3,7,0,16,48,112,0,496,1008,2047,4095,8191,16383] [oL 102 9,Xd 103 102,oF 104 5 103,oL 105 104,oL 106 9,Xd 107 106,oF 108 4 107,oL 109 108,oM 110 14,oX 111 109 110,oL 112 111,W9 113 .add 105 112,Xd 114 102,oF 115 5 114,Xc 1 115 113]
def jb:SC:=.blk 5 (XK (sQ [oL 78 4,oN 79 78,oK 80 0] (.blk 6 (.loop ea))) jc)
def jd:SC:=sQ [oL 116 9,oM 6 116,oK 7 0] (.ret)
def eg:SC:=XK (.feet [0,0,2,7,15,31] [oL 67 9,Xa 68 2 3,Xs 69 95 68,Xd 70 67,oF 71 4 70,Xc 1 71 69]) (XK (.skip) (XK (sQ [oF 72 1 3,oL 73 72,Xs 74 97 73,Xs 75 96 74] (.blk 4 (.rng 117 (.t 75) [76,77] ja jb))) jd))
def je:SC:=XK (sQ [oF 46 1 3,oL 47 46,oN 48 47,oK 49 0] (.blk 2 (.loop d_))) eg
def eR:SC:=XK (sQ [Xa 18 2 3,oL 19 4,Xt 20 93 18 19,oM 8 20] (sQ [oM 21 8,W_ 22 .neq 21 0] (XJ 22 (sQ [oM 23 8,o 6 (.mv (.k (.nilp))),oM 7 23] (.ret)) (.skip)))) (sQ [Xa 24 2 3,oM 25 2,o 26 (.build [XL 0,.nils,.nils,.nils,.nils,XL 0] [(0,2),(2,1)] [.t 24,.t 25]),XF 27 26,o 9 (.alloc [.nilp]),Xc 1 9 27] (sQ [oK 10 (-1)] (XK (sQ [oM 28 2,oN 29 28,oK 30 0] (.blk 0 (.loop cF))) je)))
def dB:SF:=⟨117,[.tm 6,.tm 7],sQ [XF 3 0,XF 4 1,o 6 (.mv (.k (.nilp))),oK 7 0] eR⟩
def gE:SC:=sQ [o 5 (.alloc [XL 0,XL 0]),Xc 2 5 21] (.ops [oM 6 22])
def gG:SC:=.blk 1 (.feet [0,0,0,6,15,31,0,64,255,511,1023] [oL 23 4,oL 24 1,oM 25 6,Xt 26 101 24 25,oX 27 23 26,oL 28 27,oF 29 1 5,oL 30 29,W9 31 .add 28 30,oX 32 23 26,Xc 1 32 31])
def gF:SC:=sQ [oM 9 40] (.ops [oM 10 41])
def dw:SC:=.blk 3 (XK (.quiet [oL 42 4,oM 43 9,oX 44 42 43,oL 45 44,oL 46 8,W9 47 .gtr 45 46]) (XJ 47 (.feet [0,1,0,0,12,28,3,127] [oM 48 10,Xs 49 37 48,oL 50 4,oM 51 9,oX 52 50 51,oL 53 52,Xc 1 7 49,Xc 1 8 53]) (.skip)))
def gH:SC:=XK (.quiet [oL 54 7,oL 55 8,oM 2 54,oM 3 55]) (.ret)
def gI:SC:=sQ [o 7 (.alloc [.nils]),o 8 (.alloc [XL 0]),oz (.store 1 (.t 7) (.k (.nils))),oz (.store 1 (.t 8) (qI (-1)))] (XK (XK (.quiet [oL 33 1,oL 34 1,Xd 35 34,oF 36 2 35,oL 37 36,Xt 38 99 33 37,Xs 39 96 38]) (.blk 2 (.rng 56 (.t 39) [40,41] gF dw))) gH)
def io:SC:=XK (.feet [0,0,2,6,14,31,63,127,0,511] [oL 11 1,oL 12 1,Xd 13 12,oF 14 2 13,oL 15 14,Xt 16 99 11 15,Xs 17 98 16,o 18 (.mks 1 8 [XL 0] (.t 17) (.t 17)),o 4 (.alloc [.nils]),Xc 1 4 18]) (XK (sQ [oL 19 1,Xs 20 100 19] (.blk 0 (.rng 56 (.t 20) [21,22] gE gG))) gI)
def eS:SF:=⟨56,[.tm 2,.tm 3],sQ [XF 1 0,Xy 2,oK 3 0] io⟩
def j7:SC:=XK (sQ [oM 12 6,W_ 13 .neq 12 0] (XI 13 0)) (.blk 1 (.quiet [oM 14 6,oM 15 5,oM 16 6,W9 17 .rem 15 16,oM 5 14,oM 6 17]))
def pU:SC:=XK (.feet [0,0,3,0,0,24,63,127] [oM 18 0,oM 19 5,W9 20 .quo 18 19,oM 21 1,oM 22 5,W9 23 .quo 21 22,o 24 (.build [XL 0,XL 0] [(0,1),(1,1)] [.t 20,.t 23]),Xc 2 4 24]) (.ret)
def rM:SC:=sQ [oM 7 0,oM 8 0,o 9 (.un .neg (.t 8)),o 10 (.mx (.t 7) (.t 9)),oM 11 1,oM 5 10,oM 6 11] (XK (.blk 0 (.loop j7)) pU)
def oS:SF:=⟨25,[.cell true 2 4],sQ [o 4 (.alloc [XL 0,XL 0])] rM⟩
def B6:SC:=XK (sQ [oM 7 6,oM 8 1,oN 9 8,W9 10 .lss 7 9] (XI 10 0)) (XK (.blk 1 (.ops [oM 13 5,oM 14 0,oM 15 1,oM 16 6,oX 17 15 16,oL 18 17,oX 19 14 18,oL 20 19,XD 21 20,Xw 22 1 8 13 21,oM 5 22])) (XH 11 6 12 11 6 12))
def uK:SC:=sQ [oM 23 5,oM 4 23] (.ret)
def vA:SF:=⟨24,[.tm 4],sQ [Xy 4] (sQ [Xy 5] (XK (sQ [oK 6 0] (.blk 0 (.loop B6))) uK))⟩
def g_:SF:=⟨26,[.tm 5],sQ [oK 5 0] (XK (.feet [0,1,3,7,0,31,63,0,128,384,896,0,3968,8064,16383,0,0,131071,262143,524287,1048575] [oL 6 2,Xd 7 6,oF 8 4 7,oL 9 8,oM 10 1,oX 11 9 10,oL 12 11,oL 13 2,Xd 14 13,oF 15 4 14,oL 16 15,oM 17 0,oX 18 16 17,oL 19 18,Xt 20 80 12 19,oM 21 0,oM 22 1,Xt 23 80 21 22,o 24 (.bsl 1 2 [XL 0] [0,1] [.t 20,.t 23]),Xs 25 79 24,oM 5 25]) (.ret))⟩
def sM:SC:=sQ [W9 9 .lss 8 7] (XK (XI 9 0) (XK (.blk 1 (sQ [oX 10 6 8,oL 11 10,oM 5 11] (sQ [oM 12 5,oM 13 3,W9 14 .neq 12 13] (XJ 14 (sQ [oM 15 5,oM 2 15] (.ret)) (.skip))))) (.ops [oA 16 8,oM 8 16])))
def sN:SC:=sQ [oM 17 3,oM 2 17] (.ret)
def sL:SF:=⟨18,[.tm 2],sQ [oK 2 0] (sQ [oK 3 0] (XK (sQ [oM 6 0,oN 7 6,oK 8 0] (.blk 0 (.loop sM))) sN))⟩
def dE:SF:=⟨20,[.tm 4],sQ [oK 4 0] (sQ [oM 7 0,Xs 8 111 7,oM 5 8] (sQ [oM 9 1,Xs 10 111 9,oM 6 10] (XK (sQ [oM 11 5] (XJ 11 (XK (sQ [oM 12 6] (XJ 12 (sQ [oK 4 0] (.ret)) (.skip))) (sQ [oK 4 (-1)] (.ret))) (.skip))) (XK (sQ [oM 13 6] (XJ 13 (sQ [oK 4 1] (.ret)) (.skip))) (XK (sQ [oM 14 0,oM 15 1,W9 16 .lss 14 15] (XJ 16 (sQ [oK 4 (-1)] (.ret)) (.skip))) (XK (sQ [oM 17 0,oM 18 1,W9 19 .gtr 17 18] (XJ 19 (sQ [oK 4 1] (.ret)) (.skip))) (sQ [oK 4 0] (.ret))))))))⟩
def sU:SC:=sQ [W9 28 .lss 27 26] (XK (XI 28 0) (XK (.blk 1 (sQ [oX 29 25 27,oL 30 29,oM 9 30] (sQ [Xa 31 2 2,oM 32 9,Xt 33 93 31 32,oM 10 33] (sQ [oM 34 10,W_ 35 .neq 34 0] (XJ 35 (sQ [o 36 (.build [XL 0,.nils,.nils,.nils] [] []),oM 37 10,Xc 4 4 36,oM 5 37] (.ret)) (.skip)))))) (.ops [oA 38 27,oM 27 38])))
def mM:SC:=XK (sQ [oM 64 15,W_ 65 .geq 64 0] (XI 65 4)) (XK (.blk 5 (XK (.feet [0,1,0,7,15,0,32,0,224,480,0,2047,4095] [oF 68 3 11,oL 69 68,oM 70 12,oX 71 69 70,oL 72 71,oF 73 0 13,oL 74 73,oM 75 15,oX 76 74 75,oL 77 76,oM 78 14,oX 79 72 77,Xc 1 79 78]) (.ops [oM 80 14,oF 81 1 13,oL 82 81,oM 83 15,oX 84 82 83,oL 85 84,W9 86 .mul 80 85,oM 14 86]))) (.ops [oM 66 15,W_ 67 .sub 66 1,oM 15 67]))
def sV:SC:=.ops [oA 87 47,oM 47 87]
def mN:SC:=sQ [W9 48 .lss 47 46] (XK (XI 48 2) (XK (.blk 3 (sQ [oM 49 47,Xg 50 3 45 47,Xa 51 3 50,o 13 (.alloc [.nils,.nils,.nils]),oM 12 49,Xc 3 13 51] (XK (.feet [0,1,0,0,8,24,56,127,255] [oF 52 3 11,oL 53 52,oM 54 12,oF 55 1 2,oL 56 55,oN 57 56,o 58 (.mks 1 8 [XL 0] (.t 57) (.t 57)),oX 59 53 54,Xc 1 59 58]) (sQ [oK 14 1] (sQ [oF 60 0 13,oL 61 60,oN 62 61,W_ 63 .sub 62 1,oM 15 63] (.blk 4 (.loop mM))))))) sV))
def sW:SC:=sQ [Xa 88 4 11,Xc 4 4 88,oK 5 0] (.ret)
def sX:SC:=XK (.feet [0,0,0,4,12,31,0,127] [Xa 39 2 2,oM 40 6,oM 41 6,oN 42 41,o 43 (.mks 1 24 [.nils] (.t 42) (.t 42)),o 44 (.build [XL 0,.nils,.nils,.nils] [(0,2),(2,1),(3,1)] [.t 39,.t 40,.t 43]),o 11 (.alloc [XL 0,.nils,.nils,.nils]),Xc 4 11 44]) (XK (sQ [oM 45 6,oN 46 45,oK 47 0] (.blk 2 (.loop mN))) sW)
def uH:SC:=sQ [Xa 17 2 2,Xs 18 112 17,oM 16 18,Xb 19 16 0,Xb 20 16 1,oM 6 19,oM 7 20] (XK (sQ [oM 21 7,W_ 22 .neq 21 0] (XJ 22 (sQ [o 23 (.build [XL 0,.nils,.nils,.nils] [] []),oM 24 7,Xc 4 4 23,oM 5 24] (.ret)) (.skip))) (XK (sQ [oM 25 1,oN 26 25,oK 27 0] (.blk 0 (.loop sU))) sX))
def sT:SF:=⟨89,[.cell true 4 4,.tm 5],sQ [XF 2 0,o 4 (.alloc [XL 0,.nils,.nils,.nils]),oK 5 0] uH⟩
def gJ:SC:=.ops [o 6 (.alloc [XL 0,XL 0,.nils]),Xc 3 6 10]
def gK:SC:=.blk 1 (.ops [oL 11 5,oF 12 1 6,oL 13 12,W9 14 .add 11 13,Xc 1 5 14])
def gL:SC:=sQ [oL 15 5,oM 4 15] (.ret)
def ip:SC:=sQ [o 5 (.alloc [XL 0]),oz (.store 1 (.t 5) (qI 0))] (XK (sQ [Xa 7 4 2,oM 8 1,Xt 9 83 7 8] (.blk 0 (.rng 16 (.t 9) [10] gJ gK))) gL)
def eT:SF:=⟨16,[.tm 4],sQ [XF 2 0,oK 4 0] ip⟩
def eZ:SC:=sQ [o 5 (.mkf 113 [] [.t 2,.t 3]),oM 4 5] (.ret)
def cW:SF:=⟨6,[.tm 4],sQ [XF 2 0,XF 3 1,o 4 (.mv (.k (.nilf)))] eZ⟩
def s6:SC:=sQ [oM 6 0,W_ 7 .lss 6 0,oM 8 1,W_ 9 .lss 8 0,o 10 (.eq true .bool (.t 7) (.t 9)),oM 11 0,Xs 12 117 11,oM 13 1,Xs 14 117 13,Xu 15 116 10 12 14,Xb 16 15 0,Xb 17 15 1,Xc 2 4 16,oM 5 17] (.ret)
def qC:SF:=⟨18,[.cell true 2 4,.tm 5],sQ [o 4 (.alloc [XL 0,XL 0]),Xx 5 false] s6⟩
def oD:SC:=sQ [W9 51 .lss 50 49] (XK (XI 51 0) (XK (.blk 1 (sQ [oM 52 50,Xg 53 3 48 50,Xa 54 3 53,o 7 (.alloc [XL 0,.nils,.nils]),oM 6 52,Xc 3 7 54] (XK (sQ [oF 55 0 7,oL 56 55,W_ 57 .lss 56 1,oM 58 57,Xj 59 58 false 0 7,Xi 60 58 false 59,Xl 61 58 false .gtr 60 4,Xe 62 58 61] (XJ 62 (sQ [o 63 (.build [XL 0,.nils,.nils,.nils,.nils] [] []),Xc 5 2 63,oK 3 50] (.ret)) (.skip))) (sQ [oF 64 2 4,oL 65 64,oM 66 6,oF 67 0 7,oL 68 67,oX 69 65 66,Xc 1 69 68] (.ops [oM 70 5,oF 71 0 7,oL 72 71,W9 73 .mul 70 72,oM 5 73]))))) (.ops [oA 74 50,oM 50 74])))
def oE:SC:=sQ [W9 91 .lss 90 89] (XK (XI 91 4) (XK (.blk 5 (sQ [oX 92 88 90,oL 93 92,oM 12 93] (XK (sQ [oM 94 12,oM 95 10,W9 96 .leq 94 95,oM 97 96,Xh 98 97 false 12,Xj 99 97 false 0 4,Xj 100 97 false 1 99,Xi 101 97 false 100,Xm 102 97 false 101,Xk 103 97 false .geq 98 102,Xe 104 97 103,oM 105 104,Xh 106 105 false 12,Xh 107 105 false 8,Xk 108 105 false .eql 106 107,Xe 109 105 108] (XJ 109 (sQ [o 110 (.build [XL 0,.nils,.nils,.nils,.nils] [] []),Xc 5 2 110,oK 3 50] (.ret)) (.skip))) (sQ [oM 111 12,oM 10 111] (.feet [0,1,0,7,15,0,32,127,255,511] [oF 112 3 4,oL 113 112,oM 114 8,oX 115 113 114,oL 116 115,oM 117 12,o 118 (.bin .shl (.k (XN 1)) (.t 117)),W9 119 .or 116 118,oX 120 113 114,Xc 1 120 119]))))) (.ops [oA 121 90,oM 90 121])))
def oH:SC:=sQ [Xa 122 5 4,Xa 123 3 9,Xt 124 123 122 123,XA 125 124] (XJ 125 (sQ [o 126 (.build [XL 0,.nils,.nils,.nils,.nils] [] []),Xc 5 2 126,oK 3 50] (.ret)) (.skip))
def uI:SC:=.ops [oA 127 82,oM 82 127]
def oG:SC:=sQ [W9 83 .lss 82 81] (XK (XI 83 2) (XK (.blk 3 (sQ [oM 84 82,Xg 85 3 80 82,Xa 86 3 85,o 9 (.alloc [XL 0,.nils,.nils]),oM 8 84,Xc 3 9 86] (sQ [oK 10 (-1)] (XK (sQ [oF 87 1 9,oL 88 87,oN 89 88,oK 90 0] (.blk 4 (.loop oE))) oH)))) uI))
def oI:SC:=sQ [oF 129 3 4,oL 130 129,Xs 131 124 130,oM 128 131,Xb 132 128 0,Xb 133 128 1,oM 13 132,oM 14 133] (XK (sQ [oM 134 14,XA 135 134] (XJ 135 (sQ [o 136 (.build [XL 0,.nils,.nils,.nils,.nils] [] []),Xc 5 2 136,oK 3 50] (.ret)) (.skip))) (sQ [oM 137 13,oF 138 4 4,Xc 1 138 137] (sQ [Xa 139 5 4,Xc 5 2 139,oK 3 0] (.ret))))
def uJ:SC:=XK (sQ [oM 75 5,W_ 76 .gtr 75 1024] (XJ 76 (sQ [o 77 (.build [XL 0,.nils,.nils,.nils,.nils] [] []),Xc 5 2 77,oK 3 50] (.ret)) (.skip))) (XK (sQ [oF 78 0 4,oF 79 1 78,oL 80 79,oN 81 80,oK 82 0] (.blk 2 (.loop oG))) oI)
def wG:SC:=XK (sQ [oF 15 0 1,oL 16 15,W_ 17 .lss 16 1,oM 18 17,Xj 19 18 false 0 1,Xi 20 18 false 19,Xl 21 18 false .gtr 20 60,Xe 22 18 21,oM 23 22,Xj 24 23 false 1 1,Xi 25 23 false 24,Xm 26 23 false 25,Xl 27 23 false .lss 26 1,Xe 28 23 27,oM 29 28,Xj 30 29 false 1 1,Xi 31 29 false 30,Xm 32 29 false 31,Xl 33 29 false .gtr 32 8,Xe 34 29 33] (XJ 34 (sQ [o 35 (.build [XL 0,.nils,.nils,.nils,.nils] [] []),Xc 5 2 35,oK 3 50] (.ret)) (.skip))) (XK (.feet [0,0,2,6,14,0,32,96,224,511,0,2047] [Xa 36 2 1,oF 37 1 1,oL 38 37,oN 39 38,o 40 (.mks 1 8 [XL 0] (.t 39) (.t 39)),oF 41 1 1,oL 42 41,oN 43 42,o 44 (.mks 1 8 [XN 0] (.t 43) (.t 43)),o 45 (.build [XL 0,.nils,.nils,.nils,.nils] [(0,2),(2,1),(3,1)] [.t 36,.t 40,.t 44]),o 4 (.alloc [XL 0,.nils,.nils,.nils,.nils]),Xc 5 4 45]) (sQ [oK 5 1] (XK (sQ [oF 46 0 4,oF 47 1 46,oL 48 47,oN 49 48,oK 50 0] (.blk 0 (.loop oD))) uJ)))
def mP:SF:=⟨140,[.cell true 5 2,.tm 3],sQ [XF 1 0,o 2 (.alloc [XL 0,.nils,.nils,.nils,.nils]),oK 3 0] wG⟩
def mK:SF:=⟨29,[.tm 4,.tm 5],sQ [Xy 4,oK 5 0] (sQ [oM 9 0,Xs 10 125 9,oM 8 10,Xb 11 8 0,Xb 12 8 1,oM 6 11,oM 7 12] (XK (sQ [oM 13 7,XA 14 13] (XJ 14 (sQ [Xy 4,oK 5 20] (.ret)) (.skip))) (XK (sQ [oM 15 1,W_ 16 .lss 15 0,oM 17 16,Xh 18 17 false 1,Xh 19 17 false 6,Xk 20 17 false .geq 18 19,Xe 21 17 20] (XJ 21 (sQ [Xy 4,oK 5 2] (.ret)) (.skip))) (sQ [oM 22 0,oN 23 22,oM 24 0,oM 25 6,oM 26 1,Xu 27 127 24 25 26,Xt 28 126 23 27,oM 4 28,oK 5 0] (.ret)))))⟩
def qE:SC:=XK (sQ [oM 5 4,oF 6 0 1,oL 7 6,oN 8 7,W9 9 .lss 5 8,oM 10 9,Xh 11 10 true 4,Xl 12 10 true .lss 11 5,Xf 13 10 12] (XI 13 0)) (XK (.blk 1 (.ops [oM 16 3,oF 17 0 1,oL 18 17,oM 19 4,oX 20 18 19,oL 21 20,Xz 22 .rem 21 .u8 4,XB 23 .i64 22,o 24 (.bin .add (qI 1) (.t 23)),XD 25 24,Xw 26 1 8 16 25,oM 3 26])) (XH 14 4 15 14 4 15))
def jr:SC:=sQ [oM 27 3,oM 2 27] (.ret)
def jM:SC:=sQ [Xy 3] (XK (sQ [oK 4 0] (.blk 0 (.loop qE))) jr)
def gw:SF:=⟨28,[.tm 2],sQ [XF 1 0,Xy 2] jM⟩
def pQ:SC:=XK (sQ [oM 5 4,oF 6 1 1,oL 7 6,oN 8 7,W9 9 .lss 5 8] (XI 9 0)) (XK (.blk 1 (.ops [oM 12 3,oF 13 1 1,oL 14 13,oM 15 4,Xg 16 3 14 15,oF 17 0 16,oL 18 17,XD 19 18,Xw 20 1 8 12 19,oM 3 20])) (XH 10 4 11 10 4 11))
def pR:SC:=sQ [oM 21 3,oM 2 21] (.ret)
def rL:SC:=sQ [Xy 3] (XK (sQ [oK 4 0] (.blk 0 (.loop pQ))) pR)
def oQ:SF:=⟨22,[.tm 2],sQ [XF 1 0,Xy 2] rL⟩
def jh:SC:=sQ [W9 27 .lss 26 25] (XK (XI 27 0) (XK (.blk 1 (sQ [oM 28 26,oX 29 24 26,oL 30 29,oM 7 28,oM 8 30] (sQ [oM 31 8,W_ 32 .lss 31 (-1),oM 33 32,Xh 34 33 false 8,Xj 35 33 false 2 5,Xi 36 33 false 35,Xh 37 33 false 7,XC 38 33 false 1 36 37,Xi 39 33 false 38,Xk 40 33 false .geq 34 39,Xe 41 33 40] (XJ 41 (sQ [oK 4 2] (.ret)) (.skip))))) (.ops [oA 42 26,oM 26 42])))
def ji:SC:=sQ [oK 4 0] (.ret)
def jL:SC:=sQ [Xa 10 2 2,Xs 11 87 10,oM 9 11,Xb 12 9 0,Xb 13 9 1,o 5 (.alloc [XL 0,.nils,.nils,.nils,.nils]),Xc 5 5 12,oM 6 13] (XK (sQ [oM 14 6,W_ 15 .neq 14 0] (XJ 15 (sQ [oM 16 6,oM 4 16] (.ret)) (.skip))) (XK (sQ [oM 17 1,oN 18 17,oF 19 0 5,oF 20 1 19,oL 21 20,oN 22 21,W9 23 .neq 18 22] (XJ 23 (sQ [oK 4 2] (.ret)) (.skip))) (XK (sQ [oM 24 1,oN 25 24,oK 26 0] (.blk 0 (.loop jh))) ji)))
def gu:SF:=⟨43,[.tm 4],sQ [XF 2 0,oK 4 0] jL⟩
def dV:SF:=⟨9,[.tm 4],sQ [Xx 4 false] (sQ [oM 5 0,oM 6 1,Xt 7 129 5 6,W_ 8 .geq 7 0,oM 4 8] (.ret))⟩
def mY:SC:=.ops [oM 6 19]
def ia:SC:=sQ [W9 24 .lss 23 22] (XK (XI 24 2) (XK (.blk 3 (sQ [oM 25 23,Xg 26 3 21 23,Xa 27 3 26,o 9 (.alloc [XL 0,.nils,.nils]),oM 8 25,Xc 3 9 27] (.quiet [oM 28 7,oF 29 2 9,oL 30 29,oF 31 1 1,oL 32 31,oM 33 8,oM 34 6,Xu 35 130 32 33 34,oX 36 30 35,oL 37 36,oM 38 6,oM 39 8,oX 40 38 39,oL 41 40,oX 42 37 41,oL 43 42,W9 44 .mul 28 43,oM 7 44]))) (.ops [oA 45 23,oM 23 45])))
def m6:SC:=.ops [oL 46 4,oM 47 7,XD 48 47,Xw 49 1 8 46 48,Xc 1 4 49]
def mZ:SC:=.blk 1 (sQ [oK 7 1] (XK (sQ [oF 20 1 1,oL 21 20,oN 22 21,oK 23 0] (.blk 2 (.loop ia))) m6))
def m7:SC:=sQ [oL 50 4,oM 2 50] (.ret)
def nQ:SC:=sQ [oF 10 1 1,oL 11 10,Xs 12 97 11,oM 3 12] (sQ [oM 13 3,Xs 14 98 13,o 15 (.mks 1 8 [XL 0] (qI 0) (.t 14)),o 4 (.alloc [.nils]),Xc 1 4 15] (XK (sQ [oM 16 3,Xs 17 96 16] (.blk 0 (.rng 51 (.t 17) [18,19] mY mZ))) m7))
def lI:SF:=⟨51,[.tm 2],sQ [XF 1 0,Xy 2] nQ⟩
def ju:SC:=sQ [o 3 (.mkf 131 [] [.t 1]),oM 2 3] (.ret)
def fL:SF:=⟨4,[.tm 2],sQ [XF 1 0,o 2 (.mv (.k (.nilf)))] ju⟩
def pS:SC:=sQ [W9 12 .lss 11 10] (XK (XI 12 0) (XK (.blk 1 (sQ [oM 13 11,Xg 14 3 9 11,Xa 15 3 14,o 5 (.alloc [XL 0,.nils,.nils]),oM 4 13,Xc 3 5 15] (.ops [oM 16 3,oM 17 4,oF 18 0 5,oL 19 18,oX 20 16 17,Xc 1 20 19]))) (.ops [oA 21 11,oM 11 21])))
def pT:SC:=sQ [oM 22 3,oM 2 22] (.ret)
def oR:SF:=⟨23,[.tm 2],sQ [Xy 2] (sQ [oM 6 0,oN 7 6,o 8 (.mks 1 8 [XL 0] (.t 7) (.t 7)),oM 3 8] (XK (sQ [oM 9 0,oN 10 9,oK 11 0] (.blk 0 (.loop pS))) pT))⟩
def rN:SC:=sQ [W9 9 .lss 8 7] (XK (XI 9 0) (XK (.blk 1 (sQ [oX 10 6 8,oL 11 10,oM 5 11] (.ops [oM 12 3,oM 13 5,W9 14 .mul 12 13,oM 3 14]))) (.ops [oA 15 8,oM 8 15])))
def rO:SC:=sQ [oM 16 3,oM 2 16] (.ret)
def qG:SF:=⟨17,[.tm 2],sQ [oK 2 0] (sQ [oK 3 1] (XK (sQ [oM 6 0,oN 7 6,oK 8 0] (.blk 0 (.loop rN))) rO))⟩
def gf:SC:=sQ [W9 14 .lss 13 12] (XK (XI 14 0) (XK (.blk 1 (sQ [oM 15 13,oX 16 11 13,oL 17 16,oM 6 15,oM 7 17] (.ops [oM 18 5,oM 19 6,oM 20 0,Xd 21 20,oF 22 0 21,oF 23 1 22,oL 24 23,oM 25 7,Xg 26 3 24 25,oF 27 0 26,oL 28 27,oX 29 18 19,Xc 1 29 28]))) (.ops [oA 30 13,oM 13 30])))
def gg:SC:=sQ [oM 31 5,oM 4 31] (.ret)
def eh:SF:=⟨32,[.tm 4],sQ [Xy 4] (sQ [oM 8 1,oN 9 8,o 10 (.mks 1 8 [XL 0] (.t 9) (.t 9)),oM 5 10] (XK (sQ [oM 11 1,oN 12 11,oK 13 0] (.blk 0 (.loop gf))) gg))⟩
def gi:SC:=sQ [o 3 (.mkf 132 [] [.t 1]),oM 2 3] (.ret)
def dH:SF:=⟨4,[.tm 2],sQ [XF 1 0,o 2 (.mv (.k (.nilf)))] gi⟩
def fm:SC:=sQ [W9 11 .lss 10 9] (XK (XI 11 0) (XK (.blk 1 (sQ [oM 12 10,oX 13 8 10,oL 14 13,oM 6 12,oM 7 14] (.quiet [oM 15 5,oM 16 0,Xd 17 16,oF 18 0 17,oF 19 1 18,oL 20 19,oM 21 0,Xd 22 21,oF 23 2 22,oL 24 23,oM 25 6,oX 26 24 25,oL 27 26,Xg 28 3 20 27,oF 29 0 28,oL 30 29,W9 31 .mul 15 30,oM 32 7,W9 33 .add 31 32,oM 5 33]))) (.ops [oA 34 10,oM 10 34])))
def fq:SC:=sQ [oM 35 5,oM 4 35] (.ret)
def dG:SF:=⟨36,[.tm 4],sQ [oK 4 0] (sQ [oK 5 0] (XK (sQ [oM 8 1,oN 9 8,oK 10 0] (.blk 0 (.loop fm))) fq))⟩
def dF:SF:=⟨6,[.tm 2],sQ [Xx 2 false] (sQ [oM 3 0,oM 4 0,W9 5 .neq 3 4,oM 2 5] (.ret))⟩
def pI:SC:=sQ [W9 24 .lss 23 22] (XK (XI 24 0) (XK (.blk 1 (sQ [oM 25 23,oM 7 25] (.ops [oM 26 6,oM 27 7,Xa 28 5 4,oM 29 7,Xt 30 145 28 29,Xg 31 3 26 27,Xc 3 31 30]))) (.ops [oA 32 23,oM 23 32])))
def pJ:SC:=sQ [oM 33 6,oM 2 33,oK 3 0] (.ret)
def rt:SC:=sQ [Xa 9 2 1,Xs 10 87 9,oM 8 10,Xb 11 8 0,Xb 12 8 1,o 4 (.alloc [XL 0,.nils,.nils,.nils,.nils]),Xc 5 4 11,oM 5 12] (XK (sQ [oM 13 5,W_ 14 .neq 13 0] (XJ 14 (sQ [oM 15 5,Xy 2,oM 3 15] (.ret)) (.skip))) (sQ [oF 16 0 4,oF 17 1 16,oL 18 17,oN 19 18,o 20 (.mks 3 72 [.nils,.nils,.nils] (.t 19) (.t 19)),oM 6 20] (XK (sQ [oM 21 6,oN 22 21,oK 23 0] (.blk 0 (.loop pI))) pJ)))
def oC:SF:=⟨34,[.tm 2,.tm 3],sQ [XF 1 0,Xy 2,oK 3 0] rt⟩
def bu:SC:=XK (XK (.quiet [oM 31 6,W_ 32 .geq 31 0,oM 33 32,Xh 34 33 true 4,Xh 35 33 true 6,XC 36 33 true 1 34 35,Xi 37 33 true 36,Xj 38 33 true 0 1,Xj 39 33 true 1 38,Xi 40 33 true 39,Xh 41 33 true 6,XC 42 33 true 3 40 41,Xj 43 33 true 0 42,Xi 44 33 true 43,Xl 45 33 true .sub 44 1,Xk 46 33 true .eql 37 45,Xf 47 33 46]) (XI 47 2)) (.blk 3 (sQ [oM 48 4,oM 49 6,oX 50 48 49,oz (.store 1 (.t 50) (qI 0))] (.ops [oM 51 6,W_ 52 .sub 51 1,oM 6 52])))
def bz:SC:=XK (sQ [oM 53 6,W_ 54 .lss 53 0] (XJ 54 (.ret) (.skip))) (.ops [oM 55 4,oM 56 6,oX 57 55 56,oL 58 57,oA 59 58,oX 60 55 56,Xc 1 60 59])
def bV:SC:=XH 12 5 13 12 5 13
def dI:SC:=XK (.blk 1 (XK (sQ [oM 14 4,oL 15 2,Xt 16 114 14 15,oM 17 16,Xh 18 17 true 0,Xh 19 17 true 5,og 20 17 true (.load true 4 (.t 1)),Xh 21 17 true 4,og 22 17 true (.call 115 [.t 20,.t 21]),Xh 23 17 true 4,og 24 17 true (.build [XL 0,XL 0,.nils] [(0,1),(1,1),(2,1)] [.t 19,.t 22,.t 23]),og 25 17 true (.dyn (.t 18) [.t 24]),og 26 17 true (.not (.t 25)),Xf 27 17 26] (XJ 27 (.ret) (.skip))) (sQ [oM 28 4,oN 29 28,W_ 30 .sub 29 1,oM 6 30] (XK (.blk 2 (.loop bu)) bz)))) bV
def aK:SF:=⟨61,[],sQ [oF 7 0 1,oF 8 1 7,oL 9 8,oN 10 9,o 11 (.mks 1 8 [XL 0] (.t 10) (.t 10)),oM 4 11] (sQ [oK 5 0] (.blk 0 (.loop dI)))⟩
def mO:SC:=sQ [W9 11 .lss 10 9] (XK (XI 11 0) (XK (.blk 1 (sQ [oM 12 10,oX 13 8 10,oL 14 13,oM 6 12,oM 7 14] (sQ [oM 15 7] (.blk 2 (XK (sQ [W_ 17 .eql 15 (-1),oM 16 17] (XJ 16 (.skip) (.ops [oM 18 0,oM 19 6,oX 20 18 19,oL 21 20,W9 22 .eql 15 21,oM 16 22]))) (XJ 16 (.skip) (sQ [Xx 5 false] (.exit 0)))))))) (.ops [oA 23 10,oM 10 23])))
def h_:SC:=sQ [oM 24 5,oM 4 24] (.ret)
def lD:SF:=⟨25,[.tm 4],sQ [Xx 4 false] (sQ [Xx 5 true] (XK (.skip) (XK (sQ [oM 8 1,oN 9 8,oK 10 0] (.blk 0 (.loop mO))) h_)))⟩
def cO:SC:=sQ [W9 23 .lss 22 21] (XK (XI 23 2) (XK (.blk 3 (sQ [oX 24 20 22,oL 25 24,oM 10 25] (.quiet [oM 26 8,oM 27 1,oM 28 10,oX 29 27 28,oL 30 29,oF 31 3 2,oL 32 31,oM 33 6,oX 34 32 33,oL 35 34,oM 36 10,oX 37 35 36,oL 38 37,W9 39 .mul 30 38,W9 40 .add 26 39,oM 8 40]))) (.ops [oA 41 22,oM 22 41])))
def fy:SC:=.ops [oM 42 5,oF 43 2 7,oL 44 43,oM 45 8,oX 46 44 45,oL 47 46,W9 48 .mul 42 47,oM 5 48]
def fB:SC:=.ops [oA 49 14,oM 14 49]
def fu:SC:=sQ [W9 15 .lss 14 13] (XK (XI 15 0) (XK (.blk 1 (sQ [oM 16 14,Xg 17 3 12 14,Xa 18 3 17,o 7 (.alloc [.nils,.nils,.nils]),oM 6 16,Xc 3 7 18] (sQ [oK 8 0] (XK (sQ [oF 19 0 7,oL 20 19,oN 21 20,oK 22 0] (.blk 2 (.loop cO))) fy)))) fB))
def fC:SC:=sQ [oM 50 5,oM 4 50] (.ret)
def gk:SC:=sQ [oK 5 1] (XK (sQ [oF 11 2 2,oL 12 11,oN 13 12,oK 14 0] (.blk 0 (.loop fu))) fC)
def dJ:SF:=⟨51,[.tm 4],sQ [XF 2 0,oK 4 0] gk⟩
def rJ:SC:=sQ [oM 48 9,oM 49 11,o 50 (.build [XL 0,XL 0] [(0,1),(1,1)] [.t 48,.t 49]),Xc 2 6 50,Xx 7 true] (.ret)
def tb:SC:=sQ [oM 13 1,oM 14 2,Xt 15 146 13 14,oM 8 15] (sQ [oM 17 1,oM 18 8,Xt 19 147 17 18,oM 16 19,Xb 20 16 0,Xb 21 16 1,oM 1 20] (sQ [oM 23 2,oM 24 8,Xt 25 147 23 24,oM 22 25,Xb 26 22 0,Xb 27 22 1,oM 2 26] (sQ [oM 29 1,Xs 30 148 29,oM 28 30,Xb 31 28 0,Xb 32 28 1,oM 9 31,oM 10 32] (sQ [oM 34 2,Xs 35 148 34,oM 33 35,Xb 36 33 0,Xb 37 33 1,oM 11 36,oM 12 37] (XK (sQ [oM 38 10,XA 39 38,oM 40 39,Xh 41 40 false 12,og 42 40 false (.not (.t 41)),Xe 43 40 42] (XJ 43 (sQ [o 44 (.build [XL 0,XL 0] [] []),Xc 2 6 44,Xx 7 false] (.ret)) (.skip))) (XK (sQ [oM 45 0] (XJ 45 (.ops [oM 46 9,o 47 (.un .neg (.t 46)),oM 9 47]) (.skip))) rJ))))))
def qD:SF:=⟨51,[.cell true 2 6,.tm 7],sQ [o 6 (.alloc [XL 0,XL 0]),Xx 7 false] tb⟩
def nK:SC:=XK (sQ [oM 5 0,W_ 6 .neq 5 0] (XI 6 0)) (.blk 1 (sQ [oM 7 0,W_ 8 .rem 7 10000,oM 4 8] (sQ [oM 9 3,oM 10 4,oM 11 4,o 12 (.un .neg (.t 11)),o 13 (.mx (.t 10) (.t 12)),XD 14 13,Xw 15 1 8 9 14,oM 3 15] (.ops [oM 16 0,W_ 17 .quo 16 10000,oM 0 17]))))
def nL:SC:=sQ [oM 18 3,oM 2 18] (.ret)
def mT:SF:=⟨19,[.tm 2],sQ [Xy 2] (sQ [Xy 3] (XK (.blk 0 (.loop nK)) nL))⟩
def iF:SC:=sQ [W9 17 .lss 16 15] (XK (XI 17 0) (XK (.blk 1 (sQ [oX 18 14 16,oL 19 18,oM 7 19] (.ops [oM 20 5,oF 21 2 2,oL 22 21,oM 23 7,oX 24 22 23,oL 25 24,W9 26 .mul 20 25,oM 5 26]))) (.ops [oA 27 16,oM 16 27])))
def iE:SC:=.ops [oM 9 36]
def dR:SC:=sQ [W9 43 .lss 42 41] (XK (XI 43 4) (XK (.blk 5 (sQ [oX 44 40 42,oL 45 44,oM 12 45] (XK (sQ [oM 46 12,W_ 47 .lss 46 0,oM 48 47,Xh 49 48 false 12,Xh 50 48 false 10,Xk 51 48 false .gtr 49 50,Xe 52 48 51] (XJ 52 (sQ [oz (.store 1 (.t 4) (.k (.bool false)))] (.ret)) (.skip))) (.ops [oM 53 10,oM 54 12,W9 55 .sub 53 54,oM 10 55])))) (.ops [oA 56 42,oM 42 56])))
def ch:SC:=sQ [oM 57 9,oN 58 57,oF 59 0 3,oL 60 59,W9 61 .neq 58 60,oM 62 61,Xh 63 62 false 10,Xl 64 62 false .neq 63 0,Xe 65 62 64] (XJ 65 (sQ [oz (.store 1 (.t 4) (.k (.bool false)))] (.ret)) (.skip))
def iG:SC:=.blk 3 (sQ [oF 37 0 2,oF 38 0 37,oL 39 38,oM 10 39] (XK (sQ [oM 40 9,oN 41 40,oK 42 0] (.blk 4 (.loop dR))) ch))
def iH:SC:=sQ [oz (.store 1 (.t 4) (.k (.bool true)))] (.ret)
def iI:SC:=XK (sQ [oF 28 2 3,oL 29 28,oN 30 29,oM 31 5,W9 32 .neq 30 31] (XJ 32 (sQ [oz (.store 1 (.t 4) (.k (.bool false)))] (.ret)) (.skip))) (XK (sQ [Xa 33 3 3,Xs 34 150 33] (.blk 2 (.rng 66 (.t 34) [35,36] iE iG))) iH)
def jk:SC:=sQ [oK 5 1] (XK (sQ [oF 13 1 3,oL 14 13,oN 15 14,oK 16 0] (.blk 0 (.loop iF))) iI)
def fF:SF:=⟨66,[.cell false 1 4],sQ [XF 2 0,XF 3 1,o 4 (.alloc [.bool false])] jk⟩
def rF:SC:=sQ [W9 19 .lss 18 17] (XK (XI 19 2) (XK (.blk 3 (sQ [oM 20 18,oX 21 16 18,oL 22 21,oM 6 20,oM 7 22] (sQ [oM 23 5,oM 24 6,W9 25 .shr 23 24,Xz 26 .and 25 .u64 1,Xz 27 .eql 26 .u64 0,oM 28 27,Xh 29 28 true 7,Xh 30 28 true 5,Xk 31 28 true .andNot 29 30,og 32 28 true (.bin .eql (.t 31) (.k (XN 0))),Xf 33 28 32] (XJ 33 (sQ [oM 34 4,oM 35 6,XD 36 35,Xw 37 1 8 34 36,oM 4 37] (sQ [oM 38 5,oM 39 6,o 40 (.bin .shl (.k (XN 1)) (.t 39)),W9 41 .or 38 40,oM 5 41] (.exit 1))) (.skip))))) (.ops [oA 42 18,oM 18 42])))
def rH:SC:=sQ [Xy 2,Xx 3 false] (.ret)
def rG:SC:=XK (sQ [oM 11 4,oN 12 11,oM 13 0,oN 14 13,W9 15 .lss 12 14] (XI 15 0)) (.blk 1 (XK (sQ [oM 16 0,oN 17 16,oK 18 0] (.blk 2 (.loop rF))) rH))
def rI:SC:=sQ [oM 43 4,oM 2 43,Xx 3 true] (.ret)
def qB:SF:=⟨44,[.tm 2,.tm 3],sQ [Xy 2,Xx 3 false] (sQ [oM 8 0,oN 9 8,o 10 (.mks 1 8 [XL 0] (qI 0) (.t 9)),oM 4 10,o 5 (.mv (.k (XN 0)))] (XK (.skip) (XK (.blk 0 (.loop rG)) rI)))⟩
def xS:SC:=sQ [W9 12 .lss 11 10] (XK (XI 12 0) (XK (.blk 1 (sQ [oX 13 9 11,oL 14 13,oM 5 14] (XK (.blk 2 (XK (sQ [oM 16 5,W_ 17 .lss 16 1,oM 15 17] (XJ 15 (.skip) (sQ [oM 18 5,W_ 19 .gtr 18 8,oM 15 19] (XJ 15 (.skip) (.ops [oM 20 2,oM 21 5,W9 22 .mul 20 21,W_ 23 .gtr 22 4096,oM 15 23]))))) (XJ 15 (sQ [oK 2 0,Xx 3 false] (.exit 0)) (.skip)))) (.ops [oM 24 2,oM 25 5,W9 26 .mul 24 25,oM 2 26])))) (.ops [oA 27 11,oM 11 27])))
def pG:SC:=sQ [oM 28 2,oM 29 3,oM 2 28,oM 3 29] (.ret)
def oB:SF:=⟨30,[.tm 2,.tm 3],sQ [oK 2 0,Xx 3 false] (XK (sQ [oM 6 0,oN 7 6,W_ 8 .gtr 7 12] (XJ 8 (sQ [oK 2 0,Xx 3 false] (.ret)) (.skip))) (sQ [oK 2 1,Xx 3 true] (XK (.skip) (XK (sQ [oM 9 0,oN 10 9,oK 11 0] (.blk 0 (.loop xS))) pG))))⟩
def jI:SC:=sQ [oM 6 11] (.ops [oM 7 12])
def jJ:SC:=.blk 1 (.ops [oL 13 5,oM 14 6,oM 15 7,oX 16 13 14,Xc 1 16 15])
def jK:SC:=sQ [oL 17 5,oM 4 17] (.ret)
def hZ:SF:=⟨18,[.tm 4],sQ [Xy 4] (sQ [oM 8 0,o 9 (.mks 1 8 [XL 0] (.t 8) (.t 8)),o 5 (.alloc [.nils]),Xc 1 5 9] (XK (sQ [oM 10 1] (.blk 0 (.rng 18 (.t 10) [11,12] jI jJ))) jK))⟩
def pH:SC:=sQ [o 7 (.mkf 151 [] [.t 5,.t 4,.t 3]),oM 6 7] (.ret)
def mL:SF:=⟨8,[.tm 6],sQ [XF 3 0,XF 4 1,XF 5 2,o 6 (.mv (.k (.nilf)))] pH⟩
def iL:SC:=sQ [W9 9 .lss 8 7] (XK (XI 9 0) (XK (.blk 1 (sQ [oM 10 8,oM 5 10] (sQ [oM 11 1,oM 12 0,oM 13 5,oX 14 12 13,oL 15 14,W9 16 .eql 11 15] (XJ 16 (sQ [oM 17 5,oM 4 17] (.ret)) (.skip))))) (.ops [oA 18 8,oM 8 18])))
def iM:SC:=sQ [oK 4 (-1)] (.ret)
def fK:SF:=⟨19,[.tm 4],sQ [oK 4 0] (XK (sQ [oM 6 0,oN 7 6,oK 8 0] (.blk 0 (.loop iL))) iM)⟩
def tx:SC:=sQ [W9 17 .lss 16 15] (XK (XI 17 0) (XK (.blk 1 (sQ [oX 18 14 16,oL 19 18,oM 9 19] (.quiet [oM 20 7,oM 21 0,oM 22 9,Xg 23 3 21 22,oF 24 0 23,oL 25 24,W9 26 .mul 20 25,oM 27 2,oM 28 9,oX 29 27 28,oL 30 29,W9 31 .add 26 30,oM 7 31]))) (.ops [oA 32 16,oM 16 32])))
def tz:SC:=sQ [oM 33 7,oM 6 33] (.ret)
def tw:SF:=⟨34,[.tm 6],sQ [oK 6 0] (sQ [oK 7 0] (XK (sQ [oM 10 0,oM 11 1,Xg 12 3 10 11,oF 13 1 12,oL 14 13,oN 15 14,oK 16 0] (.blk 0 (.loop tx))) tz))⟩
def bQ:SC:=XK (XK (.quiet [oM 18 5,W_ 19 .geq 18 0,oM 20 19,Xh 21 20 true 3,Xh 22 20 true 5,XC 23 20 true 1 21 22,Xi 24 20 true 23,Xi 25 20 true 1,Xh 26 20 true 5,XC 27 20 true 1 25 26,Xi 28 20 true 27,Xl 29 20 true .sub 28 1,Xk 30 20 true .eql 24 29,Xf 31 20 30]) (XI 31 2)) (.blk 3 (sQ [oM 32 3,oM 33 5,oX 34 32 33,oz (.store 1 (.t 34) (qI 0))] (.ops [oM 35 5,W_ 36 .sub 35 1,oM 5 36])))
def bS:SC:=XK (sQ [oM 37 5,W_ 38 .lss 37 0] (XJ 38 (.ret) (.skip))) (.ops [oM 39 3,oM 40 5,oX 41 39 40,oL 42 41,oA 43 42,oX 44 39 40,Xc 1 44 43])
def cY:SC:=XH 13 4 14 13 4 14
def gm:SC:=XK (sQ [oM 9 0,oM 10 4,oM 11 3,o 12 (.dyn (.t 9) [.t 10,.t 11])] (XI 12 0)) (XK (.blk 1 (sQ [oL 15 1,oN 16 15,W_ 17 .sub 16 1,oM 5 17] (XK (.blk 2 (.loop bQ)) bS))) cY)
def aW:SF:=⟨45,[],sQ [oL 6 1,oN 7 6,o 8 (.mks 1 8 [XL 0] (.t 7) (.t 7)),oM 3 8] (sQ [oK 4 0] (.blk 0 (.loop gm)))⟩
def eF:SC:=sQ [oM 4 24] (.ops [oM 5 25])
def cx:SC:=sQ [W9 32 .lss 31 30] (XK (XI 32 2) (XK (.blk 3 (sQ [oM 33 31,oX 34 29 31,oL 35 34,oM 6 33,oM 7 35] (.feet [0,0,0,0,12,28,63,127] [oL 36 3,oM 37 6,oM 38 5,oM 39 7,oX 40 38 39,oL 41 40,oX 42 36 37,Xc 1 42 41]))) (.ops [oA 43 31,oM 31 43])))
def cy:SC:=sQ [W9 50 .lss 49 48] (XK (XI 50 4) (XK (.blk 5 (sQ [oX 51 47 49,oL 52 51,oM 10 52] (.quiet [oM 53 8,oL 54 1,Xd 55 54,oF 56 0 55,oF 57 1 56,oL 58 57,oM 59 10,Xg 60 3 58 59,oF 61 0 60,oL 62 61,W9 63 .mul 53 62,oM 64 5,oM 65 10,oX 66 64 65,oL 67 66,W9 68 .add 63 67,oM 8 68]))) (.ops [oA 69 49,oM 49 69])))
def eH:SC:=XK (.feet [0,0,0,4,12,28,0,124,252,510,0,2047,4095] [oL 70 2,oM 71 8,oL 72 1,Xd 73 72,oF 74 4 73,oL 75 74,oM 76 4,oX 77 75 76,oL 78 77,o 79 (.build [XL 0,XL 0] [(0,1),(1,1)] [.t 71,.t 78]),oL 80 3,o 81 (.dyn (.t 70) [.t 79,.t 80]),XA 82 81]) (XJ 82 (.ret) (.skip))
def eI:SC:=sQ [oK 8 0] (XK (sQ [oL 44 1,Xd 45 44,oF 46 3 45,oL 47 46,oN 48 47,oK 49 0] (.blk 4 (.loop cy))) eH)
def eG:SC:=.blk 1 (XK (sQ [oL 26 1,Xd 27 26,oF 28 2 27,oL 29 28,oN 30 29,oK 31 0] (.blk 2 (.loop cx))) eI)
def eX:SC:=sQ [oL 11 1,Xd 12 11,oF 13 2 12,oL 14 13,oN 15 14,o 16 (.mks 1 8 [XL 0] (.t 15) (.t 15)),o 3 (.alloc [.nils]),Xc 1 3 16] (sQ [oL 17 1,Xd 18 17,oF 19 0 18,oF 20 1 19,oL 21 20,Xs 22 97 21,Xs 23 96 22] (.blk 0 (.rng 83 (.t 23) [24,25] eF eG)))
def aX:SF:=⟨83,[],sQ [XF 2 0] eX⟩
def iB:SC:=.ops [oA 65 40,oM 40 65]
def dO:SC:=sQ [W9 41 .lss 40 39] (XK (XI 41 0) (XK (.blk 1 (sQ [oM 42 40,oX 43 38 40,oL 44 43,oM 10 42,oM 11 44] (XK (.feet [0,1,0,4,0,28,60,124,255,511,1023] [oF 45 1 8,oL 46 45,oF 47 2 2,oL 48 47,oM 49 11,oX 50 48 49,oL 51 50,XD 52 51,Xw 53 1 8 46 52,oF 54 1 8,Xc 1 54 53]) (sQ [oM 55 10,oM 56 6,W9 57 .gtr 55 56] (XJ 57 (.feet [0,0,2,0,14,30,63,127] [oL 58 9,oF 59 2 2,oL 60 59,oM 61 11,oX 62 60 61,oL 63 62,W9 64 .mul 58 63,Xc 1 9 64]) (.skip)))))) iB))
def dN:SC:=sQ [oM 12 76] (.ops [oM 13 77])
def dP:SC:=sQ [W9 81 .lss 80 79] (XK (XI 81 4) (XK (.blk 5 (sQ [oM 82 80,oX 83 78 80,oL 84 83,oM 14 82,oM 15 84] (.feet [0,1,0,0,12,0,32,124,0,508,0,2044,0,0,12288,32764,0,131071,262143] [oF 85 2 8,oL 86 85,oM 87 12,oL 88 9,W9 89 .quo 87 88,oF 90 0 5,oL 91 90,W9 92 .mul 89 91,oM 93 14,W9 94 .add 92 93,oL 95 9,W9 96 .mul 94 95,oM 97 12,oL 98 9,W9 99 .rem 97 98,W9 100 .add 96 99,oM 101 15,oX 102 86 100,Xc 1 102 101]))) (.ops [oA 103 80,oM 80 103])))
def dQ:SC:=.blk 3 (sQ [oM 78 13,oN 79 78,oK 80 0] (.blk 4 (.loop dP)))
def iC:SC:=sQ [Xa 104 3 8,Xc 3 4 104] (.ret)
def iD:SC:=sQ [oF 66 2 5,oL 67 66,oN 68 67,oF 69 0 5,oL 70 69,W9 71 .mul 68 70,o 72 (.mks 1 8 [XL 0] (.t 71) (.t 71)),oF 73 2 8,Xc 1 73 72] (XK (sQ [Xa 74 3 5,Xs 75 150 74] (.blk 2 (.rng 105 (.t 75) [76,77] dN dQ))) iC)
def jj:SC:=sQ [oF 16 0 2,oF 17 1 16,oL 18 17,oM 19 1,Xg 20 3 18 19,Xa 21 3 20,o 5 (.alloc [XL 0,.nils,.nils]),Xc 3 5 21] (sQ [oF 23 1 5,oL 24 23,oM 25 1,Xt 26 159 24 25,oM 22 26,Xb 27 22 0,Xb 28 22 1,oM 6 27,oM 7 28] (sQ [oF 29 1 5,oL 30 29,Xs 31 37 30,oM 32 6,oM 33 1,XD 34 33,Xu 35 160 31 32 34,o 36 (.build [.nils,.nils,.nils] [(0,1)] [.t 35]),o 8 (.alloc [.nils,.nils,.nils]),Xc 3 8 36] (sQ [o 9 (.alloc [XL 0]),oz (.store 1 (.t 9) (qI 1))] (XK (sQ [oF 37 0 8,oL 38 37,oN 39 38,oK 40 0] (.blk 0 (.loop dO))) iD))))
def fE:SF:=⟨105,[.cell true 3 4],sQ [XF 2 0,o 4 (.alloc [.nils,.nils,.nils])] jj⟩
def mU:SC:=XK (sQ [oM 7 1,oN 8 7,W_ 9 .gtr 8 0] (XI 9 0)) (.blk 1 (sQ [oM 11 0,oM 12 1,Xt 13 147 11 12,oM 10 13,Xb 14 10 0,Xb 15 10 1,oM 5 14,oM 6 15] (sQ [oM 16 1,oM 0 16] (.ops [oM 17 6,oM 1 17]))))
def ta:SC:=sQ [oM 18 0,oM 4 18] (.ret)
def s_:SF:=⟨19,[.tm 4],sQ [Xy 4] (XK (.blk 0 (.loop mU)) ta)⟩
def fc:SC:=sQ [oM 75 12,oM 76 6,W9 77 .leq 75 76] (XJ 77 (.ops [oM 78 10,W_ 79 .mul 78 10000,oM 80 1,oM 81 12,oX 82 80 81,oL 83 82,W9 84 .add 79 83,oM 10 84]) (.skip))
def jp:SC:=.ops [oM 61 12,W_ 62 .sub 61 1,oM 12 62]
def dl:SC:=XK (sQ [oM 56 12,oM 57 6,W_ 58 .sub 57 1,o 59 (.mx (qI 0) (.t 58)),W9 60 .geq 56 59] (XI 60 2)) (XK (.blk 3 (sQ [oM 63 11,W_ 64 .mul 63 10000,oM 11 64] (XK (sQ [oM 65 12,oM 66 8,oN 67 66,W9 68 .lss 65 67] (XJ 68 (.ops [oM 69 11,oM 70 8,oM 71 12,oX 72 70 71,oL 73 72,W9 74 .add 69 73,oM 11 74]) (.skip))) fc))) jp)
def e_:SC:=XK (sQ [oM 92 13,oM 93 14,W9 94 .lss 92 93] (XI 94 4)) (.blk 5 (sQ [oM 95 13,oM 96 14,W9 97 .add 95 96,oA 98 97,W_ 99 .quo 98 2,oM 15 99] (sQ [oM 100 1,oM 101 15,XD 102 101,Xt 103 163 100 102,oM 104 8,Xt 105 162 103 104,W_ 106 .leq 105 0] (XJ 106 (.ops [oM 107 15,oM 13 107]) (.ops [oM 108 15,W_ 109 .sub 108 1,oM 14 109])))))
def jq:SC:=sQ [oM 110 7,oM 111 9,oM 112 13,oX 113 110 111,Xc 1 113 112] (.ops [oM 114 8,oM 115 1,oM 116 13,XD 117 116,Xs 118 161 117,Xt 119 163 115 118,Xt 120 164 114 119,oM 8 120])
def nN:SC:=XK (.quiet [oM 85 11,oM 86 10,oA 87 86,W9 88 .quo 85 87,oM 89 11,oM 90 10,W9 91 .quo 89 90,oM 13 88,oM 14 91]) (XK (.blk 4 (.loop e_)) jq)
def nO:SC:=.ops [oM 44 9,W_ 45 .sub 44 1,oM 9 45]
def nM:SC:=XK (sQ [oM 42 9,W_ 43 .geq 42 0] (XI 43 0)) (XK (.blk 1 (sQ [oM 46 0,oM 47 9,oX 48 46 47,oL 49 48,XD 50 49,oM 51 8,Xw 52 1 8 50 51,Xs 53 161 52,oM 8 53] (sQ [oK 10 0,oK 11 0] (XK (sQ [oM 54 6,oA 55 54,oM 12 55] (.blk 2 (.loop dl))) nN)))) nO)
def nP:SC:=sQ [oM 121 7,Xs 122 161 121,oM 123 8,oM 4 122,oM 5 123] (.ret)
def jn:SF:=⟨124,[.tm 4,.tm 5],sQ [Xy 4,Xy 5] (sQ [oM 16 1,oN 17 16,W_ 18 .sub 17 1,oM 6 18] (XK (sQ [oM 19 0,oN 20 19,oM 21 6,W9 22 .leq 20 21] (XJ 22 (sQ [o 23 (.bsl 1 0 [XL 0] [] []),oM 24 0,Xw 25 1 8 23 24,Xy 4,oM 5 25] (.ret)) (.skip))) (sQ [oM 26 0,oN 27 26,oM 28 6,W9 29 .sub 27 28,o 30 (.mks 1 8 [XL 0] (.t 29) (.t 29)),oM 7 30] (sQ [o 31 (.bsl 1 0 [XL 0] [] []),oM 32 0,oM 33 0,oN 34 33,oM 35 6,W9 36 .sub 34 35,o 37 (.slc 1 (.t 32) [.t 36] []),Xw 38 1 8 31 37,oM 8 38] (XK (sQ [oM 39 7,oN 40 39,W_ 41 .sub 40 1,oM 9 41] (.blk 0 (.loop nM))) nP)))))⟩
def pO:SC:=XK (sQ [oM 13 5,W_ 14 .geq 13 0] (XI 14 0)) (XK (.blk 1 (.ops [oM 17 4,o 18 (.bin .mul (qI 10000) (.t 17)),oM 19 0,oM 20 5,oX 21 19 20,oL 22 21,W9 23 .add 18 22,oM 4 23])) (.ops [oM 15 5,W_ 16 .sub 15 1,oM 5 16]))
def pP:SC:=sQ [oM 24 4,oM 2 24,Xx 3 true] (.ret)
def oP:SF:=⟨25,[.tm 2,.tm 3],sQ [oK 2 0,Xx 3 false] (XK (sQ [oM 6 0,o 7 (.call 117 [.k (XL 4611686018427387903)]),Xt 8 162 6 7,W_ 9 .gtr 8 0] (XJ 9 (sQ [oK 2 0,Xx 3 false] (.ret)) (.skip))) (sQ [oK 4 0] (XK (sQ [oM 10 0,oN 11 10,W_ 12 .sub 11 1,oM 5 12] (.blk 0 (.loop pO))) pP)))⟩
def wH:SC:=sQ [o 3 (.mkf 165 [] [.t 1]),oM 2 3] (.ret)
def vy:SF:=⟨4,[.tm 2],sQ [XF 1 0,o 2 (.mv (.k (.nilf)))] wH⟩
def lU:SC:=sQ [W9 14 .lss 13 12] (XK (XI 14 0) (XK (.blk 1 (sQ [oM 15 13,oX 16 11 13,oL 17 16,oM 7 15,oM 8 17] (sQ [oM 18 6,oM 19 8,W9 20 .quo 18 19,oM 6 20] (XK (sQ [oM 21 0,oM 22 7,oM 23 5,oM 24 6,W9 25 .quo 23 24,o 26 (.dyn (.t 21) [.t 22,.t 25]),XA 27 26] (XJ 27 (.ret) (.skip))) (.ops [oM 28 5,oM 29 6,W9 30 .rem 28 29,oM 5 30]))))) (.ops [oA 31 13,oM 13 31])))
def cM:SF:=⟨32,[],.seq (.quiet [oL 9 1,oL 10 2,oM 5 9,oM 6 10]) (sQ [oL 11 3,oN 12 11,oK 13 0] (.blk 0 (.loop lU)))⟩
def dT:SC:=XK (sQ [oM 13 7,oM 14 8,W9 15 .lss 13 14] (XI 15 0)) (.blk 1 (sQ [oM 16 7,oM 17 8,W9 18 .add 16 17,XB 19 .u64 18,Xz 20 .shr 19 .u64 1,XB 21 .i64 20,oM 9 21] (sQ [oM 22 0,oM 23 9,oX 24 22 23,oL 25 24,oM 26 1,Xt 27 167 25 26] (XJ 27 (XH 28 9 29 28 7 29) (.ops [oM 30 9,oM 8 30])))))
def dU:SC:=sQ [oM 31 7,oM 32 7,oM 33 6,W9 34 .lss 32 33,oM 35 34,Xh 36 35 true 0,Xh 37 35 true 7,XC 38 35 true 1 36 37,Xi 39 35 true 38,Xh 40 35 true 1,Xk 41 35 true .eql 39 40,Xh 42 35 true 41,Xh 43 42 false 0,Xh 44 42 false 7,XC 45 42 false 1 43 44,Xi 46 42 false 45,og 47 42 false (.call 168 [.t 46]),Xh 48 42 false 47,Xh 49 48 true 1,og 50 48 true (.call 168 [.t 49]),og 51 42 false (.pick (.t 48) (.t 50) (.k (.bool false))),og 52 35 true (.pick (.t 42) (.k (.bool true)) (.t 51)),Xf 53 35 52,oM 4 31,oM 5 53] (.ret)
def cG:SF:=⟨54,[.tm 4,.tm 5],sQ [oK 4 0,Xx 5 false] (sQ [oM 10 0,oN 11 10,oM 6 11] (sQ [oM 12 6,oK 7 0,oM 8 12] (XK (.blk 0 (.loop dT)) dU)))⟩
def s8:SC:=XK (sQ [oM 3 0,oN 4 3,W_ 5 .gtr 4 0,oM 6 5,Xh 7 6 true 0,Xh 8 6 true 0,Xm 9 6 true 8,Xl 10 6 true .sub 9 1,XC 11 6 true 1 7 10,Xi 12 6 true 11,Xl 13 6 true .eql 12 0,Xf 14 6 13] (XI 14 0)) (.blk 1 (.ops [oM 15 0,oM 16 0,oN 17 16,W_ 18 .sub 17 1,o 19 (.slc 1 (.t 15) [] [.t 18]),oM 0 19]))
def jl:SC:=sQ [oM 20 0,oM 2 20] (.ret)
def s7:SF:=⟨21,[.tm 2],sQ [Xy 2] (XK (.blk 0 (.loop s8)) jl)⟩
def mQ:SC:=XK (sQ [oM 19 5,W_ 20 .geq 19 0] (XI 20 0)) (XK (.blk 1 (XK (.quiet [oM 23 0,oM 24 5,oX 25 23 24,oL 26 25,oM 27 1,oM 28 5,oX 29 27 28,oL 30 29,W9 31 .neq 26 30]) (XJ 31 (XK (XK (.quiet [oM 32 0,oM 33 5,oX 34 32 33,oL 35 34,oM 36 1,oM 37 5,oX 38 36 37,oL 39 38,W9 40 .lss 35 39]) (XJ 40 (sQ [oK 4 (-1)] (.ret)) (.skip))) (sQ [oK 4 1] (.ret))) (.skip)))) (.ops [oM 21 5,W_ 22 .sub 21 1,oM 5 22]))
def mS:SC:=sQ [oK 4 0] (.ret)
def lF:SF:=⟨41,[.tm 4],sQ [oK 4 0] (XK (sQ [oM 6 0,oN 7 6,oM 8 1,oN 9 8,W9 10 .neq 7 9] (XJ 10 (XK (sQ [oM 11 0,oN 12 11,oM 13 1,oN 14 13,W9 15 .lss 12 14] (XJ 15 (sQ [oK 4 (-1)] (.ret)) (.skip))) (sQ [oK 4 1] (.ret))) (.skip))) (XK (sQ [oM 16 0,oN 17 16,W_ 18 .sub 17 1,oM 5 18] (.blk 0 (.loop mQ))) mS))⟩
def jZ:SC:=sQ [oM 54 5,oM 55 6,oM 56 8,W9 57 .add 55 56,oM 58 7,W_ 59 .rem 58 10000,oX 60 54 57,Xc 1 60 59] (.ops [oM 61 7,W_ 62 .quo 61 10000,oM 7 62])
def j3:SC:=XH 29 8 30 29 8 30
def dS:SC:=XK (sQ [oM 21 8,oM 22 1,oN 23 22,W9 24 .lss 21 23,oM 25 24,Xh 26 25 false 7,Xl 27 25 false .gtr 26 0,Xe 28 25 27] (XI 28 2)) (XK (.blk 3 (sQ [oM 31 7,oM 32 5,oM 33 6,oM 34 8,W9 35 .add 33 34,oX 36 32 35,oL 37 36,W9 38 .add 31 37,oM 7 38] (XK (sQ [oM 39 8,oM 40 1,oN 41 40,W9 42 .lss 39 41] (XJ 42 (.quiet [oM 43 7,oM 44 0,oM 45 6,oX 46 44 45,oL 47 46,oM 48 1,oM 49 8,oX 50 48 49,oL 51 50,W9 52 .mul 47 51,W9 53 .add 43 52,oM 7 53]) (.skip))) jZ))) j3)
def xU:SC:=XH 19 6 20 19 6 20
def pM:SC:=XK (sQ [oM 15 6,oM 16 0,oN 17 16,W9 18 .lss 15 17] (XI 18 0)) (XK (.blk 1 (sQ [oK 7 0] (sQ [oK 8 0] (.blk 2 (.loop dS))))) xU)
def pN:SC:=sQ [oM 63 5,Xs 64 161 63,oM 4 64] (.ret)
def oO:SF:=⟨65,[.tm 4],sQ [Xy 4] (sQ [oM 9 0,oN 10 9,oM 11 1,oN 12 11,W9 13 .add 10 12,o 14 (.mks 1 8 [XL 0] (.t 13) (.t 13)),oM 5 14] (XK (sQ [oK 6 0] (.blk 0 (.loop pM))) pN))⟩
def jY:SC:=.ops [oM 35 5,oM 36 8,XD 37 36,Xw 38 1 8 35 37,oM 5 38]
def fX:SC:=sQ [oK 6 0] (XK (sQ [oM 31 8,W_ 32 .lss 31 0] (XJ 32 (sQ [oM 33 8,W_ 34 .add 33 10000,oM 8 34] (.ops [oK 6 1])) (.skip))) jY)
def xT:SC:=XH 13 7 14 13 7 14
def pK:SC:=XK (sQ [oM 9 7,oM 10 0,oN 11 10,W9 12 .lss 9 11] (XI 12 0)) (XK (.blk 1 (sQ [oM 15 0,oM 16 7,oX 17 15 16,oL 18 17,oM 19 6,W9 20 .sub 18 19,oM 8 20] (XK (sQ [oM 21 7,oM 22 1,oN 23 22,W9 24 .lss 21 23] (XJ 24 (.ops [oM 25 8,oM 26 1,oM 27 7,oX 28 26 27,oL 29 28,W9 30 .sub 25 29,oM 8 30]) (.skip))) fX))) xT)
def pL:SC:=sQ [oM 39 5,Xs 40 161 39,oM 4 40] (.ret)
def oJ:SF:=⟨41,[.tm 4],sQ [Xy 4] (sQ [Xy 5] (sQ [oK 6 0] (XK (sQ [oK 7 0] (.blk 0 (.loop pK))) pL)))⟩
def rE:SC:=sQ [W9 9 .lss 8 7] (XK (XI 9 0) (XK (.blk 1 (sQ [oM 10 8,oX 11 6 8,oL 12 11,oM 3 10,oM 4 12] (sQ [oM 13 0,oM 14 3,oM 15 4,o 16 (.dyn (.t 13) [.t 14,.t 15]),XA 17 16] (XJ 17 (.ret) (.skip))))) (.ops [oA 18 8,oM 8 18])))
def fW:SF:=⟨19,[],sQ [oF 5 2 1,oL 6 5,oN 7 6,oK 8 0] (.blk 0 (.loop rE))⟩
def oo:SF:=⟨17,[.tm 4],sQ [Xx 4 false] (sQ [oM 5 0,Xs 6 111 5,oM 7 6,Xh 8 7 true 1,og 9 7 true (.call 111 [.t 8]),og 10 7 true (.not (.t 9)),Xf 11 7 10,oM 12 11,Xh 13 12 false 0,Xh 14 12 false 1,Xk 15 12 false .lss 13 14,Xe 16 12 15,oM 4 16] (.ret))⟩
def jt:SF:=⟨6,[.tm 2],sQ [Xx 2 false] (sQ [oM 3 0,oM 4 0,W9 5 .neq 3 4,oM 2 5] (.ret))⟩
theorem rV:nFn C0 11=some fD:=by kernel_rfl
theorem vo:nFn C0 15=some js:=by kernel_rfl
@[reducible] def Xq(f:Nat):Prop:=∀(d:Nat)(xs:List AV)(g:G),ah C0 d f xs g=af (I C0) d g f xs
@[reducible] def Xr(f:Nat):Prop:=∀(t:T)(g:G)(xs:List Od),SO.foot C0 t g (.call f xs)=am ((fZ t xs).flatMap (aw g.h aC))
theorem sB:Xq 15:=λ_ _ _=>by kernel_rfl
theorem Aq:nFn C0 16=some oq:=by kernel_rfl
theorem xA:Xq 16:=λ_ _ _=>by kernel_rfl
theorem r_:nFn C0 18=some dq:=by kernel_rfl
theorem px:Xq 18:=λ_ _ _=>by kernel_rfl
theorem wA:nFn C0 28=some jX:=by kernel_rfl
theorem uw:Xq 28:=λ_ _ _=>by kernel_rfl
theorem wC:nFn C0 31=some j4:=by kernel_rfl
theorem ux:Xq 31:=λ_ _ _=>by kernel_rfl
theorem jH:nFn C0 37=some br:=by kernel_rfl
theorem pV(t:T)(g:G)(xs:List Od):SO.foot C0 t g (.call 37 xs)=cd:=by kernel_rfl
theorem il(d:Nat)(xs:List AV)(g:G):ah C0 d 37 xs g=orF ((I C0).call d 37 xs g):=by kernel_rfl
theorem BX:nFn C0 38=some qy:=by kernel_rfl
theorem yP:Xq 38:=λ_ _ _=>by kernel_rfl
theorem E9:nFn C0 40=some vz:=by kernel_rfl
theorem BM:Xq 40:=λ_ _ _=>by kernel_rfl
theorem BV:nFn C0 41=some qw:=by kernel_rfl
theorem yO:Xq 41:=λ_ _ _=>by kernel_rfl
theorem BZ:nFn C0 42=some qA:=by kernel_rfl
theorem yR:Xq 42:=λ_ _ _=>by kernel_rfl
theorem BY:nFn C0 43=some qz:=by kernel_rfl
theorem yQ:Xq 43:=λ_ _ _=>by kernel_rfl
theorem mH:nFn C0 47=some cX:=by kernel_rfl
theorem lJ:Xr 47:=λ_ _ _=>by kernel_rfl
theorem lp:Xq 47:=λ_ _ _=>by kernel_rfl
theorem B4:nFn C0 48=some qF:=by kernel_rfl
theorem yV:Xq 48:=λ_ _ _=>by kernel_rfl
theorem sK:nFn C0 49=some gy:=by kernel_rfl
theorem qm:Xq 49:=λ_ _ _=>by kernel_rfl
theorem DF:nFn C0 50=some te:=by kernel_rfl
theorem AG:Xr 50:=λ_ _ _=>by kernel_rfl
theorem z_:Xq 50:=λ_ _ _=>by kernel_rfl
theorem sG:nFn C0 51=some dB:=by kernel_rfl
theorem qh:Xq 51:=λ_ _ _=>by kernel_rfl
theorem qr:nFn C0 52=some eS:=by kernel_rfl
theorem n0:Xq 52:=λ_ _ _=>by kernel_rfl
theorem AB:nFn C0 53=some oS:=by kernel_rfl
theorem xV:Xr 53:=λ_ _ _=>by kernel_rfl
theorem xJ:Xq 53:=λ_ _ _=>by kernel_rfl
theorem E_:nFn C0 68=some vA:=by kernel_rfl
theorem BO:Xq 68:=λ_ _ _=>by kernel_rfl
theorem mA(d:Nat)(xs:List AV)(g:G):ah C0 d 77 xs g=tV CS d xs g:=by kernel_rfl
theorem Dz:nFn C0 81=some sT:=by kernel_rfl
theorem zX:Xq 81:=λ_ _ _=>by kernel_rfl
theorem qt:nFn C0 82=some eT:=by kernel_rfl
theorem n_:Xq 82:=λ_ _ _=>by kernel_rfl
theorem mG:nFn C0 83=some cW:=by kernel_rfl
theorem lj:Xq 83:=λ_ _ _=>by kernel_rfl
theorem B2:nFn C0 85=some qC:=by kernel_rfl
theorem yT:Xq 85:=λ_ _ _=>by kernel_rfl
theorem E7:nFn C0 87=some mP:=by kernel_rfl
theorem BK:Xq 87:=λ_ _ _=>by kernel_rfl
theorem yZ:nFn C0 88=some mK:=by kernel_rfl
theorem wj:Xq 88:=λ_ _ _=>by kernel_rfl
theorem sJ:nFn C0 91=some gw:=by kernel_rfl
theorem qk:Xq 91:=λ_ _ _=>by kernel_rfl
theorem Ay:nFn C0 92=some oQ:=by kernel_rfl
theorem xH:Xq 92:=λ_ _ _=>by kernel_rfl
theorem sI:nFn C0 93=some gu:=by kernel_rfl
theorem qi:Xq 93:=λ_ _ _=>by kernel_rfl
theorem om:nFn C0 94=some dV:=by kernel_rfl
theorem mz:Xq 94:=λ_ _ _=>by kernel_rfl
theorem xR:nFn C0 95=some lI:=by kernel_rfl
theorem vC(t:T)(g:G)(xs:List Od):SO.foot C0 t g (.call 95 xs)=cd:=by kernel_rfl
theorem uV(d:Nat)(xs:List AV)(g:G):ah C0 d 95 xs g=orF ((I C0).call d 95 xs g):=by kernel_rfl
theorem sg:nFn C0 96=some fL:=by kernel_rfl
theorem pz:Xq 96:=λ_ _ _=>by kernel_rfl
theorem Az:nFn C0 97=some oR:=by kernel_rfl
theorem xI:Xq 97:=λ_ _ _=>by kernel_rfl
theorem B5:nFn C0 98=some qG:=by kernel_rfl
theorem rP:Xr 98:=λ_ _ _=>by kernel_rfl
theorem yW:Xq 98:=λ_ _ _=>by kernel_rfl
theorem pC:nFn C0 99=some eh:=by kernel_rfl
theorem gq:Xr 99:=λ_ _ _=>by kernel_rfl
theorem nF:Xq 99:=λ_ _ _=>by kernel_rfl
theorem oh:nFn C0 100=some dH:=by kernel_rfl
theorem mu:Xq 100:=λ_ _ _=>by kernel_rfl
theorem oe:nFn C0 101=some dG:=by kernel_rfl
theorem m_:Xr 101:=λ_ _ _=>by kernel_rfl
theorem mr:Xq 101:=λ_ _ _=>by kernel_rfl
theorem yY:nFn C0 111=some dF:=by kernel_rfl
theorem wh:Xq 111:=λ_ _ _=>by kernel_rfl
theorem Au:nFn C0 112=some oC:=by kernel_rfl
theorem xD:Xq 112:=λ_ _ _=>by kernel_rfl
theorem lA:nFn C0 113=some aK:=by kernel_rfl
theorem xP:nFn C0 114=some lD:=by kernel_rfl
theorem uT:Xq 114:=λ_ _ _=>by kernel_rfl
theorem ol:nFn C0 115=some dJ:=by kernel_rfl
theorem my:Xq 115:=λ_ _ _=>by kernel_rfl
theorem B3:nFn C0 116=some qD:=by kernel_rfl
theorem yU:Xq 116:=λ_ _ _=>by kernel_rfl
theorem y5:nFn C0 117=some mT:=by kernel_rfl
theorem wm:Xq 117:=λ_ _ _=>by kernel_rfl
theorem rZ:nFn C0 123=some fF:=by kernel_rfl
theorem pu:Xq 123:=λ_ _ _=>by kernel_rfl
theorem B1:nFn C0 124=some qB:=by kernel_rfl
theorem yS:Xq 124:=λ_ _ _=>by kernel_rfl
theorem At:nFn C0 125=some oB:=by kernel_rfl
theorem xC:Xq 125:=λ_ _ _=>by kernel_rfl
theorem uy:nFn C0 126=some hZ:=by kernel_rfl
theorem rU:Xq 126:=λ_ _ _=>by kernel_rfl
theorem y4:nFn C0 127=some mL:=by kernel_rfl
theorem wk:Xq 127:=λ_ _ _=>by kernel_rfl
theorem se:nFn C0 129=some fK:=by kernel_rfl
theorem py:Xq 129:=λ_ _ _=>by kernel_rfl
theorem DG:nFn C0 130=some tw:=by kernel_rfl
theorem Aa:Xq 130:=λ_ _ _=>by kernel_rfl
theorem pD:nFn C0 131=some aW:=by kernel_rfl
theorem mF:nFn C0 132=some aX:=by kernel_rfl
theorem rY:nFn C0 145=some fE:=by kernel_rfl
theorem pt:Xq 145:=λ_ _ _=>by kernel_rfl
theorem DE:nFn C0 146=some s_:=by kernel_rfl
theorem zZ:Xq 146:=λ_ _ _=>by kernel_rfl
theorem y6:nFn C0 147=some jn:=by kernel_rfl
theorem wo:Xq 147:=λ_ _ _=>by kernel_rfl
theorem Ax:nFn C0 148=some oP:=by kernel_rfl
theorem xG:Xq 148:=λ_ _ _=>by kernel_rfl
theorem E8:nFn C0 150=some vy:=by kernel_rfl
theorem BL:Xq 150:=λ_ _ _=>by kernel_rfl
theorem wB:nFn C0 151=some cM:=by kernel_rfl
theorem lB:nFn C0 159=some cG:=by kernel_rfl
theorem jW:Xq 159:=λ_ _ _=>by kernel_rfl
theorem DC:nFn C0 161=some s7:=by kernel_rfl
theorem zY(d:Nat)(xs:List AV)(g:G):ah C0 d 161 xs g=orF ((I C0).call d 161 xs g):=by kernel_rfl
theorem xQ:nFn C0 162=some lF:=by kernel_rfl
theorem uU:Xq 162:=λ_ _ _=>by kernel_rfl
theorem Aw:nFn C0 163=some oO:=by kernel_rfl
theorem xF:Xq 163:=λ_ _ _=>by kernel_rfl
theorem Av:nFn C0 164=some oJ:=by kernel_rfl
theorem xE:Xq 164:=λ_ _ _=>by kernel_rfl
theorem B0:nFn C0 165=some fW:=by kernel_rfl
theorem Ap:nFn C0 167=some oo:=by kernel_rfl
theorem xz:Xq 167:=λ_ _ _=>by kernel_rfl
theorem vp:nFn C0 168=some jt:=by kernel_rfl
theorem sC:Xq 168:=λ_ _ _=>by kernel_rfl
end
end Hx
