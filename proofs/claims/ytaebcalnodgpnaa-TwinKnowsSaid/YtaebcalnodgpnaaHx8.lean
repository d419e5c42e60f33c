/- A part of the proof: an interpreter over abstract values, shown right against the model, and what the functions of the chapter compute on it. -/
import Derived.Test.YtaebcalnodgpnaaRows
import Derived.KernelRfl
import Derived.Test.YtaebcalnodgpnaaHx7
set_option linter.unusedVariables false
set_option linter.unusedSimpArgs false
set_option linter.unnecessarySimpa false
section
namespace Go.Proofs.Ytaebcalnodgpnaa.Gen
open Hx
noncomputable def cfg:Cfg:={ P:=Try.prog,iso:=fun f=>Nat.testBit 123002547568842555270587066902033807934750719 f,ext:=stdExt 121 122,glob:=fun _=>none }
theorem cfgOk:CfgOk cfg:=CfgOk.std (by kernel_rfl) (by kernel_rfl) Try.func121 (by kernel_rfl) (by kernel_rfl) (by kernel_rfl) (by kernel_rfl) Try.func122 (by kernel_rfl) (by kernel_rfl) (by kernel_rfl) (by kernel_rfl)
theorem works_run:isoCall (sem cfg 20000) 1 G.empty 9 []=.val (.bool true):=by kernel_rfl
noncomputable def cfg1:Cfg:=cfg.add 9 (constE (.bool true))
theorem cfg1Ok:CfgOk cfg1:=cfgOk.add (constE_ok cfgOk works_run)
end Go.Proofs.Ytaebcalnodgpnaa.Gen
end
section
namespace Hx
open Go
set_option maxRecDepth 100000
noncomputable section
def C0:Cfg:=Go.Proofs.Ytaebcalnodgpnaa.Gen.cfg1
abbrev N.frac_Check:Nat:=108
abbrev N.frac_Make:Nat:=69
abbrev N.frac_Make_1:Nat:=98
abbrev N.frac_Mul:Nat:=40
abbrev N.frac_bothapi_Q:Nat:=83
abbrev N.frac_bothapi_Q_1:Nat:=109
abbrev N.frac_common:Nat:=99
abbrev N.frac_fit:Nat:=101
abbrev N.frac_guardapi_Q:Nat:=97
abbrev N.frac_guardapi_Q_1:Nat:=117
abbrev N.frac_product:Nat:=84
abbrev N.frac_size:Nat:=100
abbrev N.frac_times:Nat:=110
abbrev N.law33_TwinKnows:Nat:=7
abbrev N.law33_is:Nat:=37
abbrev N.law33_is_1:Nat:=81
abbrev N.law33_works:Nat:=9
abbrev N.mathbits_Mul64:Nat:=107
abbrev N.ref02_All:Nat:=55
abbrev N.ref02_At:Nat:=67
abbrev N.ref02_Draft_Cards:Nat:=92
abbrev N.ref02_Draft_Permutation:Nat:=51
abbrev N.ref02_Next:Nat:=93
abbrev N.ref33_Cards:Nat:=62
abbrev N.ref33_Draft_Model:Nat:=14
abbrev N.ref33_Known_Of:Nat:=23
abbrev N.ref33_Lengths:Nat:=58
abbrev N.ref33_listed:Nat:=52
abbrev N.ref33_numbers_next:Nat:=54
abbrev N.ref33_sizes:Nat:=56
abbrev N.ref33_weights:Nat:=53
abbrev N.slices_Cloneintint:Nat:=39
abbrev N.slices_Repeatintint:Nat:=38
abbrev N.twin_Check:Nat:=11
abbrev N.twin_Counter:Nat:=26
abbrev N.twin_Effect:Nat:=24
abbrev N.twin_acyclic:Nat:=48
abbrev N.twin_increasing:Nat:=88
abbrev N.twin_known_free:Nat:=71
abbrev N.twin_known_run:Nat:=61
abbrev N.twin_known_run_1:Nat:=95
abbrev N.twin_known_worlds:Nat:=60
abbrev N.twin_known_worlds_1:Nat:=94
abbrev N.twin_matches:Nat:=68
abbrev N.twin_nodesRight:Nat:=47
abbrev N.twin_read:Nat:=59
abbrev N.twin_rootsRight:Nat:=46
abbrev N.twin_setOf:Nat:=74
abbrev N.twin_sizes:Nat:=89
abbrev N.twin_within:Nat:=45
def f_twin_Check_b0:SC:=.seq (.ops [o 33 (.bin .lss (.t 32) (.t 31))]) (.seq (.cond (.t 33) (.skip) (.exit 0)) (.seq (.blk 1 (.seq (.ops [o 34 (.ixs 4 (.t 30) (.t 32)),o 35 (.load true 4 (.t 34)),o 4 (.alloc [.int .i64 0,.nils,.nils,.nils]),oz (.store 4 (.t 4) (.t 35))]) (.seq (.ops [o 36 (.fad 0 (.t 4)),o 37 (.load false 1 (.t 36)),o 38 (.bsl 1 1 [.int .i64 0] [0] [.t 37]),o 39 (.call N.twin_within [.k (.int .i64 1),.k (.int .i64 4),.t 38]),o 40 (.not (.t 39))]) (.cond (.t 40) (.seq (.ops [o 2 (.mv (.k (.int .i64 330)))]) (.ret)) (.skip))))) (.ops [o 41 (.bin .add (.t 32) (.k (.int .i64 1))),o 32 (.mv (.t 41))])))
def f_twin_Check_k1:SC:=.seq (.seq (.ops [o 42 (.load true 3 (.t 1)),o 43 (.call N.twin_nodesRight [.t 42]),o 44 (.not (.t 43)),o 45 (.mv (.t 44)),og 46 45 false (.load true 3 (.t 1)),og 47 45 false (.call N.twin_acyclic [.t 46]),og 48 45 false (.not (.t 47)),o 49 (.pick (.t 45) (.k (.bool true)) (.t 48))]) (.cond (.t 49) (.seq (.ops [o 2 (.mv (.k (.int .i64 330)))]) (.ret)) (.skip))) (.seq (.ops [o 2 (.mv (.k (.int .i64 0)))]) (.ret))
def f_twin_Check_r:SC:=.seq (.seq (.ops [o 5 (.fad 0 (.t 1)),o 6 (.load false 1 (.t 5)),o 7 (.bsl 1 1 [.int .i64 0] [0] [.t 6]),o 8 (.call N.twin_within [.k (.int .i64 1),.k (.int .i64 12),.t 7]),o 9 (.not (.t 8)),o 10 (.mv (.t 9)),og 11 10 false (.fad 1 (.t 1)),og 12 10 false (.load false 1 (.t 11)),og 13 10 false (.len .slice (.t 12)),og 14 10 false (.bsl 1 1 [.int .i64 0] [0] [.t 13]),og 15 10 false (.call N.twin_within [.k (.int .i64 0),.k (.int .i64 8),.t 14]),og 16 10 false (.not (.t 15)),o 17 (.pick (.t 10) (.k (.bool true)) (.t 16)),o 18 (.mv (.t 17)),og 19 18 false (.fad 2 (.t 1)),og 20 18 false (.load false 1 (.t 19)),og 21 18 false (.len .slice (.t 20)),og 22 18 false (.bsl 1 1 [.int .i64 0] [0] [.t 21]),og 23 18 false (.call N.twin_within [.k (.int .i64 1),.k (.int .i64 5),.t 22]),og 24 18 false (.not (.t 23)),o 25 (.pick (.t 18) (.k (.bool true)) (.t 24))]) (.cond (.t 25) (.seq (.ops [o 2 (.mv (.k (.int .i64 330)))]) (.ret)) (.skip))) (.seq (.seq (.ops [o 26 (.load true 3 (.t 1)),o 27 (.call N.twin_rootsRight [.t 26]),o 28 (.not (.t 27))]) (.cond (.t 28) (.seq (.ops [o 2 (.mv (.k (.int .i64 330)))]) (.ret)) (.skip))) (.seq (.seq (.ops [o 29 (.fad 2 (.t 1)),o 30 (.load false 1 (.t 29)),o 31 (.len .slice (.t 30)),o 32 (.mv (.k (.int .i64 0)))]) (.blk 0 (.loop f_twin_Check_b0))) f_twin_Check_k1))
def f_twin_Check:SF:=⟨50,[.tm 2],.seq (.ops [o 1 (.box (.t 0)),o 2 (.mv (.k (.int .i64 0)))]) f_twin_Check_r⟩
def f_ref33_Draft_Model_b0:SC:=.seq (.seq (.ops [o 52 (.mv (.t 8)),o 53 (.mv (.t 3)),o 54 (.bin .lss (.t 52) (.t 53))]) (.cond (.t 54) (.skip) (.exit 0))) (.seq (.blk 1 (.feet [0,1,0,0,12,28,63,127,255] [o 57 (.fad 2 (.t 4)),o 58 (.load false 1 (.t 57)),o 59 (.mv (.t 6)),o 60 (.mv (.t 8)),o 61 (.ixs 1 (.t 59) (.t 60)),o 62 (.load false 1 (.t 61)),o 63 (.ixs 4 (.t 58) (.t 62)),o 64 (.fad 0 (.t 63)),oz (.store 1 (.t 64) (.k (.int .i64 2)))])) (.ops [o 55 (.mv (.t 8)),o 56 (.bin .add (.t 55) (.k (.int .i64 1))),o 8 (.mv (.t 56))]))
def f_ref33_Draft_Model_k1:SC:=.ops [o 83 (.mv (.t 10)),o 84 (.bin .add (.t 83) (.k (.int .i64 1))),o 10 (.mv (.t 84))]
def f_ref33_Draft_Model_b2:SC:=.seq (.seq (.ops [o 80 (.mv (.t 10)),o 81 (.mv (.t 3)),o 82 (.bin .lss (.t 80) (.t 81))]) (.cond (.t 82) (.skip) (.exit 2))) (.seq (.blk 3 (.seq (.ops [o 85 (.mv (.t 5)),o 86 (.mv (.t 10)),o 87 (.ixs 4 (.t 85) (.t 86)),o 88 (.fad 2 (.t 87)),o 89 (.load false 1 (.t 88)),o 90 (.bin .rem (.t 89) (.k (.int .u8 4))),o 91 (.bin .neq (.t 90) (.k (.int .u8 0)))]) (.cond (.t 91) (.seq (.ops [o 92 (.mv (.t 9)),o 93 (.mv (.t 10)),o 94 (.ixs 1 (.t 92) (.t 93)),oz (.store 1 (.t 94) (.k (.bool true)))]) (.seq (.ops [o 95 (.fad 2 (.t 4)),o 96 (.load false 1 (.t 95)),o 97 (.mv (.t 10)),o 98 (.fad 1 (.t 4)),o 99 (.load false 1 (.t 98)),o 100 (.len .slice (.t 99)),o 101 (.bsl 1 1 [.int .i64 0] [0] [.t 100]),o 102 (.ixs 4 (.t 96) (.t 97)),o 103 (.fad 2 (.t 102)),oz (.store 1 (.t 103) (.t 101))]) (.feet [0,1,0,4,0,16,0,112,240,496,0,1024,4092,8188,16383,32767,65535] [o 104 (.fad 1 (.t 4)),o 105 (.load false 1 (.t 104)),o 106 (.fad 0 (.t 4)),o 107 (.load false 1 (.t 106)),o 108 (.fad 2 (.t 4)),o 109 (.load false 1 (.t 108)),o 110 (.mv (.t 10)),o 111 (.ixs 4 (.t 109) (.t 110)),o 112 (.fad 0 (.t 111)),o 113 (.load false 1 (.t 112)),o 114 (.mv (.t 7)),o 115 (.call N.ref33_numbers_next [.t 114]),o 116 (.call N.ref33_weights [.t 107,.t 113,.t 115]),o 117 (.bsl 1 1 [.nils] [0] [.t 116]),o 118 (.app 1 24 (.t 105) (.t 117)),o 119 (.fad 1 (.t 4)),oz (.store 1 (.t 119) (.t 118))]))) (.skip)))) f_ref33_Draft_Model_k1)
def f_ref33_Draft_Model_k3:SC:=.ops [o 129 (.mv (.t 11)),o 130 (.bin .add (.t 129) (.k (.int .i64 1))),o 11 (.mv (.t 130))]
def f_ref33_Draft_Model_b4:SC:=.seq (.seq (.ops [o 120 (.mv (.t 11)),o 121 (.fad 2 (.t 1)),o 122 (.load false 1 (.t 121)),o 123 (.len .slice (.t 122)),o 124 (.bin .lss (.t 120) (.t 123)),o 125 (.mv (.t 124)),og 126 125 true (.mv (.t 11)),og 127 125 true (.bin .lss (.t 126) (.k (.int .i64 2))),o 128 (.pick (.t 125) (.t 127) (.k (.bool false)))]) (.cond (.t 128) (.skip) (.exit 4))) (.seq (.blk 5 (.seq (.quiet [o 131 (.fad 2 (.t 1)),o 132 (.load false 1 (.t 131)),o 133 (.mv (.t 11)),o 134 (.ixs 2 (.t 132) (.t 133)),o 135 (.ixa 2 1 (.t 134) (.k (.int .i64 0))),o 136 (.load false 1 (.t 135)),o 137 (.conv .i64 (.t 136)),o 138 (.mv (.t 3)),o 139 (.bin .rem (.t 137) (.t 138)),o 140 (.fad 2 (.t 1)),o 141 (.load false 1 (.t 140)),o 142 (.mv (.t 11)),o 143 (.ixs 2 (.t 141) (.t 142)),o 144 (.ixa 2 1 (.t 143) (.k (.int .i64 1))),o 145 (.load false 1 (.t 144)),o 146 (.conv .i64 (.t 145)),o 147 (.mv (.t 3)),o 148 (.bin .rem (.t 146) (.t 147)),o 12 (.mv (.t 139)),o 13 (.mv (.t 148))]) (.seq (.ops [o 149 (.mv (.t 12)),o 150 (.mv (.t 13)),o 151 (.bin .neq (.t 149) (.t 150))]) (.cond (.t 151) (.seq (.feet [0,1,0,0,8,0,56,120,248,0,512,1536,3584,8184,16383,32767,65535] [o 152 (.fad 2 (.t 4)),o 153 (.load false 1 (.t 152)),o 154 (.mv (.t 12)),o 155 (.fad 2 (.t 4)),o 156 (.load false 1 (.t 155)),o 157 (.mv (.t 12)),o 158 (.ixs 4 (.t 156) (.t 157)),o 159 (.fad 2 (.t 158)),o 160 (.load false 1 (.t 159)),o 161 (.fad 1 (.t 4)),o 162 (.load false 1 (.t 161)),o 163 (.len .slice (.t 162)),o 164 (.bsl 1 1 [.int .i64 0] [0] [.t 163]),o 165 (.app 1 8 (.t 160) (.t 164)),o 166 (.ixs 4 (.t 153) (.t 154)),o 167 (.fad 2 (.t 166)),oz (.store 1 (.t 167) (.t 165))]) (.seq (.feet [0,1,0,0,8,0,56,120,248,0,512,1536,3584,8184,16383,32767,65535] [o 168 (.fad 2 (.t 4)),o 169 (.load false 1 (.t 168)),o 170 (.mv (.t 13)),o 171 (.fad 2 (.t 4)),o 172 (.load false 1 (.t 171)),o 173 (.mv (.t 13)),o 174 (.ixs 4 (.t 172) (.t 173)),o 175 (.fad 2 (.t 174)),o 176 (.load false 1 (.t 175)),o 177 (.fad 1 (.t 4)),o 178 (.load false 1 (.t 177)),o 179 (.len .slice (.t 178)),o 180 (.bsl 1 1 [.int .i64 0] [0] [.t 179]),o 181 (.app 1 8 (.t 176) (.t 180)),o 182 (.ixs 4 (.t 169) (.t 170)),o 183 (.fad 2 (.t 182)),oz (.store 1 (.t 183) (.t 181))]) (.feet [0,1,0,4,0,16,60,124,255,511,1023] [o 184 (.fad 1 (.t 4)),o 185 (.load false 1 (.t 184)),o 186 (.fad 0 (.t 4)),o 187 (.load false 1 (.t 186)),o 188 (.mv (.t 7)),o 189 (.call N.ref33_numbers_next [.t 188]),o 190 (.call N.ref33_weights [.t 187,.k (.int .i64 2),.t 189]),o 191 (.bsl 1 1 [.nils] [0] [.t 190]),o 192 (.app 1 24 (.t 185) (.t 191)),o 193 (.fad 1 (.t 4)),oz (.store 1 (.t 193) (.t 192))]))) (.skip))))) f_ref33_Draft_Model_k3)
def f_ref33_Draft_Model_k5:SC:=.ops [o 211 (.mv (.t 17)),o 212 (.bin .add (.t 211) (.k (.int .i64 1))),o 17 (.mv (.t 212))]
def f_ref33_Draft_Model_b6:SC:=.seq (.seq (.ops [o 208 (.mv (.t 17)),o 209 (.mv (.t 14)),o 210 (.bin .lss (.t 208) (.t 209))]) (.cond (.t 210) (.skip) (.exit 10))) (.seq (.blk 11 (.seq (.ops [o 213 (.mv (.t 6)),o 214 (.mv (.t 17)),o 215 (.ixs 1 (.t 213) (.t 214)),o 216 (.load false 1 (.t 215)),o 217 (.mv (.t 16)),o 218 (.bin .eql (.t 216) (.t 217)),o 219 (.mv (.t 218)),og 220 219 true (.mv (.t 5)),og 221 219 true (.mv (.t 14)),og 222 219 true (.ixs 4 (.t 220) (.t 221)),og 223 219 true (.fad 1 (.t 222)),og 224 219 true (.load false 1 (.t 223)),og 225 219 true (.mv (.t 17)),og 226 219 true (.conv .u64 (.t 225)),og 227 219 true (.bin .shr (.t 224) (.t 226)),og 228 219 true (.bin .and (.t 227) (.k (.int .u8 1))),og 229 219 true (.bin .eql (.t 228) (.k (.int .u8 1))),o 230 (.pick (.t 219) (.t 229) (.k (.bool false)))]) (.cond (.t 230) (.feet [0,1,0,0,8,0,56,120,248,0,512,2040,4095,8191,16383] [o 231 (.fad 2 (.t 4)),o 232 (.load false 1 (.t 231)),o 233 (.mv (.t 15)),o 234 (.fad 2 (.t 4)),o 235 (.load false 1 (.t 234)),o 236 (.mv (.t 15)),o 237 (.ixs 4 (.t 235) (.t 236)),o 238 (.fad 1 (.t 237)),o 239 (.load false 1 (.t 238)),o 240 (.mv (.t 16)),o 241 (.bsl 1 1 [.int .i64 0] [0] [.t 240]),o 242 (.app 1 8 (.t 239) (.t 241)),o 243 (.ixs 4 (.t 232) (.t 233)),o 244 (.fad 1 (.t 243)),oz (.store 1 (.t 244) (.t 242))]) (.skip)))) f_ref33_Draft_Model_k5)
def f_ref33_Draft_Model_k7:SC:=.ops [o 206 (.mv (.t 16)),o 207 (.bin .add (.t 206) (.k (.int .i64 1))),o 16 (.mv (.t 207))]
def f_ref33_Draft_Model_b8:SC:=.seq (.seq (.ops [o 203 (.mv (.t 16)),o 204 (.mv (.t 3)),o 205 (.bin .lss (.t 203) (.t 204))]) (.cond (.t 205) (.skip) (.exit 8))) (.seq (.blk 9 (.seq (.ops [o 17 (.mv (.k (.int .i64 0)))]) (.blk 10 (.loop f_ref33_Draft_Model_b6)))) f_ref33_Draft_Model_k7)
def f_ref33_Draft_Model_k9:SC:=.ops [o 296 (.mv (.t 23)),o 297 (.bin .add (.t 296) (.k (.int .i64 1))),o 23 (.mv (.t 297))]
def f_ref33_Draft_Model_b10:SC:=.seq (.seq (.ops [o 289 (.mv (.t 23)),o 290 (.mv (.t 18)),o 291 (.mv (.t 19)),o 292 (.ixs 1 (.t 290) (.t 291)),o 293 (.load false 1 (.t 292)),o 294 (.len .slice (.t 293)),o 295 (.bin .lss (.t 289) (.t 294))]) (.cond (.t 295) (.skip) (.exit 14))) (.seq (.blk 15 (.seq (.ops [o 298 (.mv (.t 23)),o 299 (.mv (.t 21)),o 300 (.bin .neq (.t 298) (.t 299))]) (.cond (.t 300) (.ops [o 301 (.mv (.t 22)),o 302 (.bin .mul (.k (.int .i64 3)) (.t 301)),o 303 (.mv (.t 18)),o 304 (.mv (.t 19)),o 305 (.ixs 1 (.t 303) (.t 304)),o 306 (.load false 1 (.t 305)),o 307 (.mv (.t 23)),o 308 (.ixs 1 (.t 306) (.t 307)),o 309 (.load false 1 (.t 308)),o 310 (.bin .add (.t 302) (.t 309)),o 22 (.mv (.t 310))]) (.skip)))) f_ref33_Draft_Model_k9)
def f_ref33_Draft_Model_k11:SC:=.ops [o 334 (.mv (.t 20)),o 335 (.mv (.t 18)),o 336 (.mv (.t 19)),o 337 (.ixs 1 (.t 335) (.t 336)),o 338 (.load false 1 (.t 337)),o 339 (.mv (.t 21)),o 340 (.ixs 1 (.t 338) (.t 339)),o 341 (.load false 1 (.t 340)),o 342 (.bin .add (.t 334) (.t 341)),o 20 (.mv (.t 342))]
def f_ref33_Draft_Model_k12:SC:=.seq (.seq (.ops [o 311 (.mv (.t 5)),o 312 (.mv (.t 14)),o 313 (.ixs 4 (.t 311) (.t 312)),o 314 (.fad 3 (.t 313)),o 315 (.load false 1 (.t 314)),o 316 (.len .slice (.t 315)),o 317 (.bin .gtr (.t 316) (.k (.int .i64 0)))]) (.cond (.t 317) (.quiet [o 318 (.mv (.t 5)),o 319 (.mv (.t 14)),o 320 (.ixs 4 (.t 318) (.t 319)),o 321 (.fad 3 (.t 320)),o 322 (.load false 1 (.t 321)),o 323 (.mv (.t 22)),o 324 (.mv (.t 5)),o 325 (.mv (.t 14)),o 326 (.ixs 4 (.t 324) (.t 325)),o 327 (.fad 3 (.t 326)),o 328 (.load false 1 (.t 327)),o 329 (.len .slice (.t 328)),o 330 (.bin .rem (.t 323) (.t 329)),o 331 (.ixs 1 (.t 322) (.t 330)),o 332 (.load false 1 (.t 331)),o 333 (.conv .i64 (.t 332)),o 20 (.mv (.t 333))]) (.skip))) f_ref33_Draft_Model_k11
def f_ref33_Draft_Model_k13:SC:=.feet [0,1,0,0,8,0,56,120,248,0,0,1024,0,7168,15360,31744,65024,130560,262136,524287,1048575,2097151] [o 343 (.fad 2 (.t 4)),o 344 (.load false 1 (.t 343)),o 345 (.mv (.t 15)),o 346 (.fad 2 (.t 4)),o 347 (.load false 1 (.t 346)),o 348 (.mv (.t 15)),o 349 (.ixs 4 (.t 347) (.t 348)),o 350 (.fad 3 (.t 349)),o 351 (.load false 1 (.t 350)),o 352 (.mv (.t 20)),o 353 (.fad 2 (.t 4)),o 354 (.load false 1 (.t 353)),o 355 (.mv (.t 15)),o 356 (.ixs 4 (.t 354) (.t 355)),o 357 (.fad 0 (.t 356)),o 358 (.load false 1 (.t 357)),o 359 (.bin .rem (.t 352) (.t 358)),o 360 (.bsl 1 1 [.int .i64 0] [0] [.t 359]),o 361 (.app 1 8 (.t 351) (.t 360)),o 362 (.ixs 4 (.t 344) (.t 345)),o 363 (.fad 3 (.t 362)),oz (.store 1 (.t 363) (.t 361))]
def f_ref33_Draft_Model_k14:SC:=.seq (.seq (.ops [o 278 (.mv (.t 9)),o 279 (.mv (.t 15)),o 280 (.ixs 1 (.t 278) (.t 279)),o 281 (.load false 1 (.t 280))]) (.cond (.t 281) (.seq (.ops [o 282 (.fad 2 (.t 4)),o 283 (.load false 1 (.t 282)),o 284 (.mv (.t 15)),o 285 (.ixs 4 (.t 283) (.t 284)),o 286 (.fad 1 (.t 285)),o 287 (.load false 1 (.t 286)),o 288 (.len .slice (.t 287)),o 21 (.mv (.t 288))]) (.seq (.ops [o 22 (.mv (.k (.int .i64 0)))]) (.seq (.seq (.ops [o 23 (.mv (.k (.int .i64 0)))]) (.blk 14 (.loop f_ref33_Draft_Model_b10))) f_ref33_Draft_Model_k12))) (.skip))) f_ref33_Draft_Model_k13
def f_ref33_Draft_Model_k15:SC:=.ops [o 253 (.mv (.t 19)),o 254 (.bin .add (.t 253) (.k (.int .i64 1))),o 19 (.mv (.t 254))]
def f_ref33_Draft_Model_b16:SC:=.seq (.seq (.ops [o 249 (.mv (.t 19)),o 250 (.mv (.t 18)),o 251 (.len .slice (.t 250)),o 252 (.bin .lss (.t 249) (.t 251))]) (.cond (.t 252) (.skip) (.exit 12))) (.seq (.blk 13 (.seq (.ops [o 20 (.mv (.k (.int .i64 0)))]) (.seq (.seq (.ops [o 255 (.mv (.t 5)),o 256 (.mv (.t 14)),o 257 (.ixs 4 (.t 255) (.t 256)),o 258 (.fad 3 (.t 257)),o 259 (.load false 1 (.t 258)),o 260 (.len .slice (.t 259)),o 261 (.bin .gtr (.t 260) (.k (.int .i64 0)))]) (.cond (.t 261) (.quiet [o 262 (.mv (.t 5)),o 263 (.mv (.t 14)),o 264 (.ixs 4 (.t 262) (.t 263)),o 265 (.fad 3 (.t 264)),o 266 (.load false 1 (.t 265)),o 267 (.mv (.t 19)),o 268 (.mv (.t 5)),o 269 (.mv (.t 14)),o 270 (.ixs 4 (.t 268) (.t 269)),o 271 (.fad 3 (.t 270)),o 272 (.load false 1 (.t 271)),o 273 (.len .slice (.t 272)),o 274 (.bin .rem (.t 267) (.t 273)),o 275 (.ixs 1 (.t 266) (.t 274)),o 276 (.load false 1 (.t 275)),o 277 (.conv .i64 (.t 276)),o 20 (.mv (.t 277))]) (.skip))) f_ref33_Draft_Model_k14))) f_ref33_Draft_Model_k15)
def f_ref33_Draft_Model_k17:SC:=.seq (.ops [o 245 (.load true 3 (.t 4)),o 246 (.mv (.t 15)),o 247 (.call N.ref33_sizes [.t 245,.t 246]),o 248 (.call N.ref02_All [.t 247]),o 18 (.mv (.t 248))]) (.seq (.ops [o 19 (.mv (.k (.int .i64 0)))]) (.blk 12 (.loop f_ref33_Draft_Model_b16)))
def f_ref33_Draft_Model_k18:SC:=.ops [o 197 (.mv (.t 14)),o 198 (.bin .add (.t 197) (.k (.int .i64 1))),o 14 (.mv (.t 198))]
def f_ref33_Draft_Model_b19:SC:=.seq (.seq (.ops [o 194 (.mv (.t 14)),o 195 (.mv (.t 3)),o 196 (.bin .lss (.t 194) (.t 195))]) (.cond (.t 196) (.skip) (.exit 6))) (.seq (.blk 7 (.seq (.ops [o 199 (.mv (.t 6)),o 200 (.mv (.t 14)),o 201 (.ixs 1 (.t 199) (.t 200)),o 202 (.load false 1 (.t 201)),o 15 (.mv (.t 202))]) (.seq (.seq (.ops [o 16 (.mv (.k (.int .i64 0)))]) (.blk 8 (.loop f_ref33_Draft_Model_b8))) f_ref33_Draft_Model_k17))) f_ref33_Draft_Model_k18)
def f_ref33_Draft_Model_k20:SC:=.seq (.ops [o 364 (.load true 3 (.t 4)),oz (.store 3 (.t 2) (.t 364))]) (.ret)
def f_ref33_Draft_Model_k21:SC:=.seq (.seq (.ops [o 14 (.mv (.k (.int .i64 0)))]) (.blk 6 (.loop f_ref33_Draft_Model_b19))) f_ref33_Draft_Model_k20
def f_ref33_Draft_Model_k22:SC:=.seq (.seq (.ops [o 11 (.mv (.k (.int .i64 0)))]) (.blk 4 (.loop f_ref33_Draft_Model_b4))) f_ref33_Draft_Model_k21
def f_ref33_Draft_Model_k23:SC:=.seq (.ops [o 78 (.mv (.t 3)),o 79 (.mks 1 1 [.bool false] (.t 78) (.t 78)),o 9 (.mv (.t 79))]) (.seq (.seq (.ops [o 10 (.mv (.k (.int .i64 0)))]) (.blk 2 (.loop f_ref33_Draft_Model_b2))) f_ref33_Draft_Model_k22)
def f_ref33_Draft_Model_k24:SC:=.seq (.seq (.ops [o 65 (.mv (.t 5)),o 66 (.ixs 4 (.t 65) (.k (.int .i64 0))),o 67 (.fad 0 (.t 66)),o 68 (.load false 1 (.t 67)),o 69 (.bin .rem (.t 68) (.k (.int .u8 3))),o 70 (.bin .eql (.t 69) (.k (.int .u8 2)))]) (.cond (.t 70) (.feet [0,1,0,4,12,31,63,127] [o 71 (.fad 2 (.t 4)),o 72 (.load false 1 (.t 71)),o 73 (.mv (.t 6)),o 74 (.ixs 1 (.t 73) (.k (.int .i64 0))),o 75 (.load false 1 (.t 74)),o 76 (.ixs 4 (.t 72) (.t 75)),o 77 (.fad 0 (.t 76)),oz (.store 1 (.t 77) (.k (.int .i64 3)))]) (.skip))) f_ref33_Draft_Model_k23
def f_ref33_Draft_Model_r:SC:=.seq (.ops [o 24 (.fad 1 (.t 1)),o 25 (.load false 1 (.t 24)),o 26 (.len .slice (.t 25)),o 27 (.mx (.t 26) (.k (.int .i64 1))),o 28 (.mn (.t 27) (.k (.int .i64 4))),o 3 (.mv (.t 28))]) (.seq (.feet [0,1,3,7,15,0,32,127,0,511] [o 29 (.fad 0 (.t 1)),o 30 (.load false 1 (.t 29)),o 31 (.bin .rem (.t 30) (.k (.int .u8 11))),o 32 (.conv .i64 (.t 31)),o 33 (.bin .add (.k (.int .i64 2)) (.t 32)),o 34 (.mv (.t 3)),o 35 (.mks 4 80 [.int .i64 0,.nils,.nils,.nils] (.t 34) (.t 34)),o 36 (.build [.int .i64 0,.nils,.nils] [(0,1),(2,1)] [.t 33,.t 35]),o 4 (.alloc [.int .i64 0,.nils,.nils]),oz (.store 3 (.t 4) (.t 36))]) (.seq (.ops [o 37 (.mv (.t 3)),o 38 (.mks 4 32 [.int .u8 0,.int .u8 0,.int .u8 0,.nils] (.t 37) (.t 37)),o 5 (.mv (.t 38))]) (.seq (.ops [o 39 (.mv (.t 5)),o 40 (.fad 1 (.t 1)),o 41 (.load false 1 (.t 40)),o 42 (.cpy 4 (.t 39) (.t 41))]) (.seq (.feet [0,1,0,4,15,31,63] [o 43 (.mv (.t 3)),o 44 (.mks 1 1 [.int .u8 0] (.t 43) (.t 43)),o 45 (.fad 4 (.t 1)),o 46 (.load false 1 (.t 45)),o 47 (.build [.nils,.int .u16 0,.nils] [(0,1),(2,1)] [.t 44,.t 46]),o 48 (.call N.ref02_Draft_Permutation [.t 47]),o 6 (.mv (.t 48))]) (.seq (.ops [o 49 (.fad 3 (.t 1)),o 50 (.load false 1 (.t 49)),o 51 (.call N.ref33_listed [.t 50]),o 7 (.mv (.t 51))]) (.seq (.seq (.ops [o 8 (.mv (.k (.int .i64 0)))]) (.blk 0 (.loop f_ref33_Draft_Model_b0))) f_ref33_Draft_Model_k24))))))
def f_ref33_Draft_Model:SF:=⟨365,[.cell true 3 2],.seq (.ops [o 1 (.box (.t 0)),o 2 (.alloc [.int .i64 0,.nils,.nils])]) f_ref33_Draft_Model_r⟩
def f_ref33_Known_Of_k0:SC:=.ops [o 34 (.mv (.t 5)),o 35 (.mv (.t 7)),o 36 (.bsl 1 1 [.int .i64 0] [0] [.t 35]),o 37 (.app 1 8 (.t 34) (.t 36)),o 5 (.mv (.t 37))]
def f_ref33_Known_Of_k1:SC:=.ops [o 13 (.mv (.t 6)),o 14 (.bin .add (.t 13) (.k (.int .i64 1))),o 6 (.mv (.t 14))]
def f_ref33_Known_Of_b2:SC:=.seq (.seq (.ops [o 8 (.mv (.t 6)),o 9 (.fad 2 (.t 3)),o 10 (.load false 1 (.t 9)),o 11 (.len .slice (.t 10)),o 12 (.bin .lss (.t 8) (.t 11))]) (.cond (.t 12) (.skip) (.exit 0))) (.seq (.blk 1 (.seq (.ops [o 7 (.mv (.k (.int .i64 (-1))))]) (.seq (.seq (.ops [o 15 (.mv (.t 6)),o 16 (.fad 0 (.t 2)),o 17 (.ixa 5 1 (.t 16) (.t 15)),o 18 (.load false 1 (.t 17)),o 19 (.bin .rem (.t 18) (.k (.int .u8 3))),o 20 (.bin .eql (.t 19) (.k (.int .u8 0)))]) (.cond (.t 20) (.quiet [o 21 (.mv (.t 6)),o 22 (.fad 0 (.t 2)),o 23 (.ixa 5 1 (.t 22) (.t 21)),o 24 (.load false 1 (.t 23)),o 25 (.bin .quo (.t 24) (.k (.int .u8 3))),o 26 (.conv .i64 (.t 25)),o 27 (.fad 2 (.t 3)),o 28 (.load false 1 (.t 27)),o 29 (.mv (.t 6)),o 30 (.ixs 4 (.t 28) (.t 29)),o 31 (.fad 0 (.t 30)),o 32 (.load false 1 (.t 31)),o 33 (.bin .rem (.t 26) (.t 32)),o 7 (.mv (.t 33))]) (.skip))) f_ref33_Known_Of_k0))) f_ref33_Known_Of_k1)
def f_ref33_Known_Of_k3:SC:=.seq (.ops [o 38 (.mv (.t 5)),o 4 (.mv (.t 38))]) (.ret)
def f_ref33_Known_Of_r:SC:=.seq (.ops [o 5 (.mv (.k (.nils)))]) (.seq (.seq (.ops [o 6 (.mv (.k (.int .i64 0)))]) (.blk 0 (.loop f_ref33_Known_Of_b2))) f_ref33_Known_Of_k3)
def f_ref33_Known_Of:SF:=⟨39,[.tm 4],.seq (.ops [o 2 (.box (.t 0)),o 3 (.box (.t 1)),o 4 (.mv (.k (.nils)))]) f_ref33_Known_Of_r⟩
def f_twin_Effect_a0:SC:=.seq (.ops [o 12 (.mv (.t 28))]) (.ops [o 13 (.mv (.t 29))])
def f_twin_Effect_b1:SC:=.blk 1 (.seq (.ops [o 30 (.load false 1 (.t 11)),o 31 (.mv (.t 13)),o 32 (.bin .add (.t 30) (.t 31)),oz (.store 1 (.t 11) (.t 32))]) (.seq (.quiet [o 33 (.load true 4 (.t 8)),o 34 (.mv (.t 12)),o 35 (.load false 1 (.t 4)),o 36 (.call N.twin_known_run [.t 33,.t 34,.t 35]),o 37 (.load false 1 (.t 5)),o 38 (.call N.twin_matches [.t 36,.t 37])]) (.cond (.t 38) (.ops [o 39 (.load false 1 (.t 10)),o 40 (.mv (.t 13)),o 41 (.bin .add (.t 39) (.t 40)),oz (.store 1 (.t 10) (.t 41))]) (.skip))))
def f_twin_Effect_k2:SC:=.seq (.ops [o 42 (.load false 1 (.t 10)),o 43 (.load false 1 (.t 11)),o 44 (.call N.frac_Make [.t 42,.t 43]),o 45 (.ext (.t 44) 0),o 46 (.ext (.t 44) 1),oz (.store 2 (.t 6) (.t 45)),o 7 (.mv (.t 46))]) (.ret)
def f_twin_Effect_r:SC:=.seq (.ops [o 15 (.load true 3 (.t 3)),o 16 (.load false 1 (.t 4)),o 17 (.load false 1 (.t 5)),o 18 (.bsl 1 2 [.nils] [0,1] [.t 16,.t 17]),o 19 (.call N.twin_read [.t 15,.t 18]),o 14 (.mv (.t 19)),o 20 (.ext (.t 14) 0),o 21 (.ext (.t 14) 1),o 8 (.alloc [.int .i64 0,.nils,.nils,.int .i64 0]),oz (.store 4 (.t 8) (.t 20)),o 9 (.mv (.t 21))]) (.seq (.seq (.ops [o 22 (.mv (.t 9)),o 23 (.bin .neq (.t 22) (.k (.int .i64 0)))]) (.cond (.t 23) (.seq (.ops [o 24 (.build [.int .i64 0,.int .i64 0] [] []),o 25 (.mv (.t 9)),oz (.store 2 (.t 6) (.t 24)),o 7 (.mv (.t 25))]) (.ret)) (.skip))) (.seq (.ops [o 10 (.alloc [.int .i64 0]),o 11 (.alloc [.int .i64 0]),oz (.store 1 (.t 10) (.k (.int .i64 0))),oz (.store 1 (.t 11) (.k (.int .i64 0)))]) (.seq (.seq (.ops [o 26 (.load true 4 (.t 8)),o 27 (.call N.twin_known_worlds [.t 26])]) (.blk 0 (.rng 47 (.t 27) [28,29] f_twin_Effect_a0 f_twin_Effect_b1))) f_twin_Effect_k2)))
def f_twin_Effect:SF:=⟨47,[.cell true 2 6,.tm 7],.seq (.ops [o 3 (.box (.t 0)),o 4 (.box (.t 1)),o 5 (.box (.t 2)),o 6 (.alloc [.int .i64 0,.int .i64 0]),o 7 (.mv (.k (.int .i64 0)))]) f_twin_Effect_r⟩
def f_twin_Counter_a0:SC:=.seq (.ops [o 15 (.mv (.t 34))]) (.ops [o 16 (.mv (.t 35))])
def f_twin_Counter_b1:SC:=.blk 1 (.seq (.seq (.quiet [o 36 (.load true 4 (.t 10)),o 37 (.mv (.t 15)),o 38 (.load false 1 (.t 14)),o 39 (.call N.twin_known_run [.t 36,.t 37,.t 38]),o 40 (.load false 1 (.t 5)),o 41 (.call N.twin_matches [.t 39,.t 40]),o 42 (.not (.t 41))]) (.cond (.t 42) (.exit 1) (.skip))) (.seq (.ops [o 43 (.load false 1 (.t 13)),o 44 (.mv (.t 16)),o 45 (.bin .add (.t 43) (.t 44)),oz (.store 1 (.t 13) (.t 45))]) (.seq (.quiet [o 46 (.load true 4 (.t 10)),o 47 (.mv (.t 15)),o 48 (.load false 1 (.t 6)),o 49 (.call N.twin_known_run [.t 46,.t 47,.t 48]),o 50 (.load false 1 (.t 7)),o 51 (.call N.twin_matches [.t 49,.t 50])]) (.cond (.t 51) (.ops [o 52 (.load false 1 (.t 12)),o 53 (.mv (.t 16)),o 54 (.bin .add (.t 52) (.t 53)),oz (.store 1 (.t 12) (.t 54))]) (.skip)))))
def f_twin_Counter_k2:SC:=.seq (.seq (.ops [o 55 (.load false 1 (.t 13)),o 56 (.bin .eql (.t 55) (.k (.int .i64 0)))]) (.cond (.t 56) (.seq (.ops [o 57 (.build [.int .i64 0,.int .i64 0] [] []),oz (.store 2 (.t 8) (.t 57)),o 9 (.mv (.k (.int .i64 7)))]) (.ret)) (.skip))) (.seq (.ops [o 58 (.load false 1 (.t 12)),o 59 (.load false 1 (.t 13)),o 60 (.call N.frac_Make [.t 58,.t 59]),o 61 (.ext (.t 60) 0),o 62 (.ext (.t 60) 1),oz (.store 2 (.t 8) (.t 61)),o 9 (.mv (.t 62))]) (.ret))
def f_twin_Counter_r:SC:=.seq (.ops [o 18 (.load true 3 (.t 4)),o 19 (.load false 1 (.t 5)),o 20 (.load false 1 (.t 6)),o 21 (.load false 1 (.t 7)),o 22 (.bsl 1 3 [.nils] [0,1,2] [.t 19,.t 20,.t 21]),o 23 (.call N.twin_read [.t 18,.t 22]),o 17 (.mv (.t 23)),o 24 (.ext (.t 17) 0),o 25 (.ext (.t 17) 1),o 10 (.alloc [.int .i64 0,.nils,.nils,.int .i64 0]),oz (.store 4 (.t 10) (.t 24)),o 11 (.mv (.t 25))]) (.seq (.seq (.ops [o 26 (.mv (.t 11)),o 27 (.bin .neq (.t 26) (.k (.int .i64 0)))]) (.cond (.t 27) (.seq (.ops [o 28 (.build [.int .i64 0,.int .i64 0] [] []),o 29 (.mv (.t 11)),oz (.store 2 (.t 8) (.t 28)),o 9 (.mv (.t 29))]) (.ret)) (.skip))) (.seq (.ops [o 12 (.alloc [.int .i64 0]),o 13 (.alloc [.int .i64 0]),oz (.store 1 (.t 12) (.k (.int .i64 0))),oz (.store 1 (.t 13) (.k (.int .i64 0)))]) (.seq (.ops [o 30 (.load true 4 (.t 10)),o 31 (.call N.twin_known_free [.t 30]),o 14 (.alloc [.nils]),oz (.store 1 (.t 14) (.t 31))]) (.seq (.seq (.ops [o 32 (.load true 4 (.t 10)),o 33 (.call N.twin_known_worlds [.t 32])]) (.blk 0 (.rng 63 (.t 33) [34,35] f_twin_Counter_a0 f_twin_Counter_b1))) f_twin_Counter_k2))))
def f_twin_Counter:SF:=⟨63,[.cell true 2 8,.tm 9],.seq (.ops [o 4 (.box (.t 0)),o 5 (.box (.t 1)),o 6 (.box (.t 2)),o 7 (.box (.t 3)),o 8 (.alloc [.int .i64 0,.int .i64 0]),o 9 (.mv (.k (.int .i64 0)))]) f_twin_Counter_r⟩
def f_law33_is_r:SC:=.seq (.ops [o 5 (.mkf N.law33_is_1 [] [.t 2,.t 3]),o 4 (.mv (.t 5))]) (.ret)
def f_law33_is:SF:=⟨6,[.tm 4],.seq (.ops [o 2 (.box (.t 0)),o 3 (.box (.t 1)),o 4 (.mv (.k (.nilf)))]) f_law33_is_r⟩
def f_slices_Cloneintint:SF:=⟨8,[.tm 2],.seq (.ops [o 2 (.mv (.k (.nils)))]) (.seq (.seq (.ops [o 3 (.mv (.t 0)),o 4 (.eq false .slice (.t 3) (.k (.nils)))]) (.cond (.t 4) (.seq (.ops [o 2 (.mv (.k (.nils)))]) (.ret)) (.skip))) (.seq (.ops [o 5 (.bsl 1 0 [.int .i64 0] [] []),o 6 (.mv (.t 0)),o 7 (.app 1 8 (.t 5) (.t 6)),o 2 (.mv (.t 7))]) (.ret)))⟩
def f_frac_Mul_r:SC:=.seq (.ops [o 6 (.load true 2 (.t 2)),o 7 (.load true 2 (.t 3)),o 8 (.call N.frac_bothapi_Q [.t 6,.t 7,.k (.clo 84 [] [])]),o 9 (.ext (.t 8) 0),o 10 (.ext (.t 8) 1),oz (.store 2 (.t 4) (.t 9)),o 5 (.mv (.t 10))]) (.ret)
def f_frac_Mul:SF:=⟨11,[.cell true 2 4,.tm 5],.seq (.ops [o 2 (.box (.t 0)),o 3 (.box (.t 1)),o 4 (.alloc [.int .i64 0,.int .i64 0]),o 5 (.mv (.k (.int .i64 0)))]) f_frac_Mul_r⟩
def f_twin_within_b0:SC:=.seq (.ops [o 12 (.bin .lss (.t 11) (.t 10))]) (.seq (.cond (.t 12) (.skip) (.exit 0)) (.seq (.blk 1 (.seq (.ops [o 13 (.ixs 1 (.t 9) (.t 11)),o 14 (.load false 1 (.t 13)),o 8 (.mv (.t 14))]) (.seq (.ops [o 15 (.mv (.t 8)),o 16 (.mv (.t 0)),o 17 (.bin .lss (.t 15) (.t 16)),o 18 (.mv (.t 17)),og 19 18 false (.mv (.t 8)),og 20 18 false (.mv (.t 1)),og 21 18 false (.bin .gtr (.t 19) (.t 20)),o 22 (.pick (.t 18) (.k (.bool true)) (.t 21))]) (.cond (.t 22) (.seq (.ops [o 6 (.mv (.k (.bool false)))]) (.ret)) (.skip))))) (.ops [o 23 (.bin .add (.t 11) (.k (.int .i64 1))),o 11 (.mv (.t 23))])))
def f_twin_within_k1:SC:=.seq (.ops [o 6 (.mv (.k (.bool true)))]) (.ret)
def f_twin_within:SF:=⟨24,[.tm 6],.seq (.ops [o 6 (.mv (.k (.bool false)))]) (.seq (.seq (.ops [o 9 (.mv (.t 2)),o 10 (.len .slice (.t 9)),o 11 (.mv (.k (.int .i64 0)))]) (.blk 0 (.loop f_twin_within_b0))) f_twin_within_k1)⟩
def f_twin_rootsRight_b0:SC:=.seq (.ops [o 36 (.bin .lss (.t 35) (.t 34))]) (.seq (.cond (.t 36) (.skip) (.exit 2)) (.seq (.blk 3 (.seq (.ops [o 37 (.ixs 1 (.t 33) (.t 35)),o 38 (.load false 1 (.t 37)),o 9 (.mv (.t 38))]) (.ops [o 39 (.mv (.t 7)),o 40 (.mv (.t 9)),o 41 (.bin .add (.t 39) (.t 40)),o 7 (.mv (.t 41))]))) (.ops [o 42 (.bin .add (.t 35) (.k (.int .i64 1))),o 35 (.mv (.t 42))])))
def f_twin_rootsRight_k1:SC:=.seq (.ops [o 43 (.mv (.t 7)),o 44 (.fad 0 (.t 1)),o 45 (.load false 1 (.t 44)),o 46 (.bin .neq (.t 43) (.t 45))]) (.cond (.t 46) (.seq (.ops [o 4 (.mv (.k (.bool false)))]) (.exit 0)) (.skip))
def f_twin_rootsRight_k2:SC:=.ops [o 47 (.bin .add (.t 13) (.k (.int .i64 1))),o 13 (.mv (.t 47))]
def f_twin_rootsRight_b3:SC:=.seq (.ops [o 14 (.bin .lss (.t 13) (.t 12))]) (.seq (.cond (.t 14) (.skip) (.exit 0)) (.seq (.blk 1 (.seq (.ops [o 15 (.ixs 1 (.t 11) (.t 13)),o 16 (.load false 1 (.t 15)),o 6 (.mv (.t 16))]) (.seq (.seq (.ops [o 17 (.mv (.t 6)),o 18 (.len .slice (.t 17)),o 19 (.bsl 1 1 [.int .i64 0] [0] [.t 18]),o 20 (.call N.twin_within [.k (.int .i64 1),.k (.int .i64 4),.t 19]),o 21 (.not (.t 20)),o 22 (.mv (.t 21)),og 23 22 false (.fad 0 (.t 1)),og 24 22 false (.load false 1 (.t 23)),og 25 22 false (.mv (.t 6)),og 26 22 false (.call N.twin_within [.k (.int .i64 0),.t 24,.t 25]),og 27 22 false (.not (.t 26)),o 28 (.pick (.t 22) (.k (.bool true)) (.t 27))]) (.cond (.t 28) (.seq (.ops [o 4 (.mv (.k (.bool false)))]) (.exit 0)) (.skip))) (.seq (.ops [o 29 (.mv (.t 3)),o 30 (.mv (.t 6)),o 31 (.len .slice (.t 30)),o 32 (.bin .mul (.t 29) (.t 31)),o 3 (.mv (.t 32))]) (.seq (.ops [o 7 (.mv (.k (.int .i64 0)))]) (.seq (.seq (.ops [o 33 (.mv (.t 6)),o 34 (.len .slice (.t 33)),o 35 (.mv (.k (.int .i64 0)))]) (.blk 2 (.loop f_twin_rootsRight_b0))) f_twin_rootsRight_k1)))))) f_twin_rootsRight_k2))
def f_twin_rootsRight_k4:SC:=.seq (.ops [o 48 (.mv (.t 4)),o 49 (.mv (.t 48)),og 50 49 true (.mv (.t 3)),og 51 49 true (.bin .leq (.t 50) (.k (.int .i64 1024))),o 52 (.pick (.t 49) (.t 51) (.k (.bool false))),o 2 (.mv (.t 52))]) (.ret)
def f_twin_rootsRight_r:SC:=.seq (.ops [o 3 (.mv (.k (.int .i64 1))),o 4 (.mv (.k (.bool true)))]) (.seq (.skip) (.seq (.seq (.ops [o 10 (.fad 1 (.t 1)),o 11 (.load false 1 (.t 10)),o 12 (.len .slice (.t 11)),o 13 (.mv (.k (.int .i64 0)))]) (.blk 0 (.loop f_twin_rootsRight_b3))) f_twin_rootsRight_k4))
def f_twin_rootsRight:SF:=⟨53,[.tm 2],.seq (.ops [o 1 (.box (.t 0)),o 2 (.mv (.k (.bool false)))]) f_twin_rootsRight_r⟩
def f_twin_nodesRight_b0:SC:=.seq (.ops [o 42 (.bin .lss (.t 41) (.t 40))]) (.seq (.cond (.t 42) (.skip) (.exit 2)) (.seq (.blk 3 (.seq (.ops [o 43 (.ixs 1 (.t 39) (.t 41)),o 44 (.load false 1 (.t 43)),o 7 (.mv (.t 44))]) (.seq (.ops [o 45 (.mv (.t 7)),o 46 (.mv (.t 4)),o 47 (.bin .eql (.t 45) (.t 46))]) (.cond (.t 47) (.seq (.ops [o 2 (.mv (.k (.bool false)))]) (.ret)) (.skip))))) (.ops [o 48 (.bin .add (.t 41) (.k (.int .i64 1))),o 41 (.mv (.t 48))])))
def f_twin_nodesRight_k1:SC:=.seq (.ops [o 50 (.load true 3 (.t 1)),o 51 (.load true 4 (.t 5)),o 52 (.call N.twin_sizes [.t 50,.t 51]),o 49 (.mv (.t 52)),o 53 (.ext (.t 49) 0),o 54 (.ext (.t 49) 1),o 8 (.mv (.t 53)),o 9 (.mv (.t 54))]) (.seq (.ops [o 55 (.fad 3 (.t 5)),o 56 (.load false 1 (.t 55)),o 57 (.len .slice (.t 56)),o 58 (.mv (.t 8)),o 59 (.mv (.t 9)),o 60 (.bin .mul (.t 58) (.t 59)),o 61 (.bin .neq (.t 57) (.t 60)),o 62 (.mv (.t 61)),og 63 62 false (.fad 0 (.t 5)),og 64 62 false (.load false 1 (.t 63)),og 65 62 false (.bin .sub (.t 64) (.k (.int .i64 1))),og 66 62 false (.fad 3 (.t 5)),og 67 62 false (.load false 1 (.t 66)),og 68 62 false (.call N.twin_within [.k (.int .i64 0),.t 65,.t 67]),og 69 62 false (.not (.t 68)),o 70 (.pick (.t 62) (.k (.bool true)) (.t 69))]) (.cond (.t 70) (.seq (.ops [o 2 (.mv (.k (.bool false)))]) (.ret)) (.skip)))
def f_twin_nodesRight_k2:SC:=.ops [o 71 (.bin .add (.t 13) (.k (.int .i64 1))),o 13 (.mv (.t 71))]
def f_twin_nodesRight_b3:SC:=.seq (.ops [o 14 (.bin .lss (.t 13) (.t 12))]) (.seq (.cond (.t 14) (.skip) (.exit 0)) (.seq (.blk 1 (.seq (.ops [o 15 (.mv (.t 13)),o 16 (.ixs 4 (.t 11) (.t 13)),o 17 (.load true 4 (.t 16)),o 5 (.alloc [.int .i64 0,.nils,.nils,.nils]),o 4 (.mv (.t 15)),oz (.store 4 (.t 5) (.t 17))]) (.seq (.ops [o 18 (.mv (.t 3)),o 19 (.fad 0 (.t 5)),o 20 (.load false 1 (.t 19)),o 21 (.bin .mul (.t 18) (.t 20)),o 3 (.mv (.t 21))]) (.seq (.seq (.ops [o 22 (.fad 1 (.t 5)),o 23 (.load false 1 (.t 22)),o 24 (.fad 2 (.t 1)),o 25 (.load false 1 (.t 24)),o 26 (.len .slice (.t 25)),o 27 (.call N.twin_increasing [.t 23,.t 26]),o 28 (.not (.t 27)),o 29 (.mv (.t 28)),og 30 29 false (.fad 2 (.t 5)),og 31 29 false (.load false 1 (.t 30)),og 32 29 false (.fad 1 (.t 1)),og 33 29 false (.load false 1 (.t 32)),og 34 29 false (.len .slice (.t 33)),og 35 29 false (.call N.twin_increasing [.t 31,.t 34]),og 36 29 false (.not (.t 35)),o 37 (.pick (.t 29) (.k (.bool true)) (.t 36))]) (.cond (.t 37) (.seq (.ops [o 2 (.mv (.k (.bool false)))]) (.ret)) (.skip))) (.seq (.seq (.ops [o 38 (.fad 1 (.t 5)),o 39 (.load false 1 (.t 38)),o 40 (.len .slice (.t 39)),o 41 (.mv (.k (.int .i64 0)))]) (.blk 2 (.loop f_twin_nodesRight_b0))) f_twin_nodesRight_k1))))) f_twin_nodesRight_k2))
def f_twin_nodesRight_k4:SC:=.seq (.ops [o 72 (.mv (.t 3)),o 73 (.bin .leq (.t 72) (.k (.int .i64 1024))),o 2 (.mv (.t 73))]) (.ret)
def f_twin_nodesRight_r:SC:=.seq (.ops [o 3 (.mv (.k (.int .i64 1)))]) (.seq (.seq (.ops [o 10 (.fad 2 (.t 1)),o 11 (.load false 1 (.t 10)),o 12 (.len .slice (.t 11)),o 13 (.mv (.k (.int .i64 0)))]) (.blk 0 (.loop f_twin_nodesRight_b3))) f_twin_nodesRight_k4)
def f_twin_nodesRight:SF:=⟨74,[.tm 2],.seq (.ops [o 1 (.box (.t 0)),o 2 (.mv (.k (.bool false)))]) f_twin_nodesRight_r⟩
def f_twin_acyclic_k0:SC:=.ops [o 29 (.bin .add (.t 14) (.k (.int .i64 1))),o 14 (.mv (.t 29))]
def f_twin_acyclic_b1:SC:=.seq (.ops [o 15 (.bin .lss (.t 14) (.t 13))]) (.seq (.cond (.t 15) (.skip) (.exit 2)) (.seq (.blk 3 (.seq (.ops [o 16 (.mv (.t 14)),o 17 (.ixs 4 (.t 12) (.t 14)),o 18 (.load true 4 (.t 17)),o 5 (.alloc [.int .i64 0,.nils,.nils,.nils]),o 4 (.mv (.t 16)),oz (.store 4 (.t 5) (.t 18))]) (.seq (.ops [o 19 (.fad 1 (.t 5)),o 20 (.load false 1 (.t 19)),o 21 (.call N.twin_setOf [.t 20]),o 22 (.mv (.t 3)),o 23 (.bin .andNot (.t 21) (.t 22)),o 24 (.bin .eql (.t 23) (.k (.int .u64 0)))]) (.cond (.t 24) (.ops [o 25 (.mv (.t 3)),o 26 (.mv (.t 4)),o 27 (.bin .shl (.k (.int .u64 1)) (.t 26)),o 28 (.bin .or (.t 25) (.t 27)),o 3 (.mv (.t 28))]) (.skip))))) f_twin_acyclic_k0))
def f_twin_acyclic_k2:SC:=.ops [o 30 (.bin .add (.t 9) (.k (.int .i64 1))),o 9 (.mv (.t 30))]
def f_twin_acyclic_b3:SC:=.seq (.ops [o 10 (.bin .lss (.t 9) (.t 8))]) (.seq (.cond (.t 10) (.skip) (.exit 0)) (.seq (.blk 1 (.seq (.ops [o 11 (.fad 2 (.t 1)),o 12 (.load false 1 (.t 11)),o 13 (.len .slice (.t 12)),o 14 (.mv (.k (.int .i64 0)))]) (.blk 2 (.loop f_twin_acyclic_b1)))) f_twin_acyclic_k2))
def f_twin_acyclic_k4:SC:=.seq (.ops [o 31 (.mv (.t 3)),o 32 (.fad 2 (.t 1)),o 33 (.load false 1 (.t 32)),o 34 (.len .slice (.t 33)),o 35 (.bin .shl (.k (.int .u64 1)) (.t 34)),o 36 (.bin .sub (.t 35) (.k (.int .u64 1))),o 37 (.bin .eql (.t 31) (.t 36)),o 2 (.mv (.t 37))]) (.ret)
def f_twin_acyclic_r:SC:=.seq (.ops [o 3 (.mv (.k (.int .u64 0)))]) (.seq (.seq (.ops [o 6 (.fad 2 (.t 1)),o 7 (.load false 1 (.t 6)),o 8 (.len .slice (.t 7)),o 9 (.mv (.k (.int .i64 0)))]) (.blk 0 (.loop f_twin_acyclic_b3))) f_twin_acyclic_k4)
def f_twin_acyclic:SF:=⟨38,[.tm 2],.seq (.ops [o 1 (.box (.t 0)),o 2 (.mv (.k (.bool false)))]) f_twin_acyclic_r⟩
def f_ref02_Draft_Permutation_k0:SC:=.seq (.ops [o 6 (.mv (.k (.nils)))]) (.seq (.ops [o 28 (.mv (.t 6)),o 29 (.mv (.t 3)),o 30 (.mv (.t 5)),o 31 (.slc 1 (.t 29) [] [.t 30]),o 32 (.app 1 8 (.t 28) (.t 31)),o 33 (.mv (.t 4)),o 34 (.bsl 1 1 [.int .i64 0] [0] [.t 33]),o 35 (.app 1 8 (.t 32) (.t 34)),o 6 (.mv (.t 35))]) (.ops [o 36 (.mv (.t 6)),o 37 (.mv (.t 3)),o 38 (.mv (.t 5)),o 39 (.slc 1 (.t 37) [.t 38] []),o 40 (.app 1 8 (.t 36) (.t 39)),o 3 (.mv (.t 40))]))
def f_ref02_Draft_Permutation_k1:SC:=.ops [o 12 (.mv (.t 4)),o 13 (.bin .add (.t 12) (.k (.int .i64 1))),o 4 (.mv (.t 13))]
def f_ref02_Draft_Permutation_b2:SC:=.seq (.seq (.ops [o 7 (.mv (.t 4)),o 8 (.load true 3 (.t 1)),o 9 (.call N.ref02_Draft_Cards [.t 8]),o 10 (.len .slice (.t 9)),o 11 (.bin .lss (.t 7) (.t 10))]) (.cond (.t 11) (.skip) (.exit 0))) (.seq (.blk 1 (.seq (.ops [o 5 (.mv (.k (.int .i64 0)))]) (.seq (.seq (.ops [o 14 (.mv (.t 4)),o 15 (.fad 2 (.t 1)),o 16 (.load false 1 (.t 15)),o 17 (.len .slice (.t 16)),o 18 (.bin .lss (.t 14) (.t 17))]) (.cond (.t 18) (.ops [o 19 (.fad 2 (.t 1)),o 20 (.load false 1 (.t 19)),o 21 (.mv (.t 4)),o 22 (.ixs 1 (.t 20) (.t 21)),o 23 (.load false 1 (.t 22)),o 24 (.conv .i64 (.t 23)),o 25 (.mv (.t 4)),o 26 (.bin .add (.t 25) (.k (.int .i64 1))),o 27 (.bin .rem (.t 24) (.t 26)),o 5 (.mv (.t 27))]) (.skip))) f_ref02_Draft_Permutation_k0))) f_ref02_Draft_Permutation_k1)
def f_ref02_Draft_Permutation_k3:SC:=.seq (.ops [o 41 (.mv (.t 3)),o 2 (.mv (.t 41))]) (.ret)
def f_ref02_Draft_Permutation_r:SC:=.seq (.ops [o 3 (.mv (.k (.nils)))]) (.seq (.seq (.ops [o 4 (.mv (.k (.int .i64 0)))]) (.blk 0 (.loop f_ref02_Draft_Permutation_b2))) f_ref02_Draft_Permutation_k3)
def f_ref02_Draft_Permutation:SF:=⟨42,[.tm 2],.seq (.ops [o 1 (.box (.t 0)),o 2 (.mv (.k (.nils)))]) f_ref02_Draft_Permutation_r⟩
def f_ref33_listed:SF:=⟨6,[.tm 2],.seq (.ops [o 2 (.mv (.k (.nilp)))]) (.seq (.ops [o 3 (.mv (.t 0)),o 4 (.build [.nils,.int .i64 0] [(0,1)] [.t 3]),o 5 (.box (.t 4)),o 2 (.mv (.t 5))]) (.ret))⟩
def f_ref33_weights:SF:=⟨38,[.tm 6],.seq (.ops [o 6 (.mv (.k (.nils)))]) (.seq (.ops [o 9 (.mv (.t 2)),o 10 (.conv .i64 (.t 9)),o 11 (.mv (.t 0)),o 12 (.bin .sub (.t 11) (.k (.int .i64 1))),o 13 (.bin .rem (.t 10) (.t 12)),o 14 (.bin .add (.k (.int .i64 1)) (.t 13)),o 7 (.mv (.t 14))]) (.seq (.seq (.ops [o 15 (.mv (.t 1)),o 16 (.bin .eql (.t 15) (.k (.int .i64 2)))]) (.cond (.t 16) (.seq (.ops [o 17 (.mv (.t 7)),o 18 (.mv (.t 0)),o 19 (.mv (.t 7)),o 20 (.bin .sub (.t 18) (.t 19)),o 21 (.bsl 1 2 [.int .i64 0] [0,1] [.t 17,.t 20]),o 6 (.mv (.t 21))]) (.ret)) (.skip))) (.seq (.ops [o 22 (.mv (.t 2)),o 23 (.bin .quo (.t 22) (.k (.int .u8 12))),o 24 (.conv .i64 (.t 23)),o 25 (.mv (.t 0)),o 26 (.mv (.t 7)),o 27 (.bin .sub (.t 25) (.t 26)),o 28 (.bin .add (.t 27) (.k (.int .i64 1))),o 29 (.bin .rem (.t 24) (.t 28)),o 8 (.mv (.t 29))]) (.seq (.ops [o 30 (.mv (.t 7)),o 31 (.mv (.t 8)),o 32 (.mv (.t 0)),o 33 (.mv (.t 7)),o 34 (.bin .sub (.t 32) (.t 33)),o 35 (.mv (.t 8)),o 36 (.bin .sub (.t 34) (.t 35)),o 37 (.bsl 1 3 [.int .i64 0] [0,1,2] [.t 30,.t 31,.t 36]),o 6 (.mv (.t 37))]) (.ret)))))⟩
def f_ref33_numbers_next:SF:=⟨33,[.tm 2],.seq (.ops [o 2 (.mv (.k (.int .u8 0)))]) (.seq (.seq (.ops [o 3 (.mv (.t 0)),o 4 (.nilc (.t 3)),o 5 (.fad 0 (.t 4)),o 6 (.load false 1 (.t 5)),o 7 (.len .slice (.t 6)),o 8 (.bin .eql (.t 7) (.k (.int .i64 0)))]) (.cond (.t 8) (.seq (.ops [o 2 (.mv (.k (.int .u8 0)))]) (.ret)) (.skip))) (.seq (.ops [o 9 (.mv (.t 0)),o 10 (.mv (.t 0)),o 11 (.nilc (.t 10)),o 12 (.fad 1 (.t 11)),o 13 (.load false 1 (.t 12)),o 14 (.bin .add (.t 13) (.k (.int .i64 1))),o 15 (.nilc (.t 9)),o 16 (.fad 1 (.t 15)),oz (.store 1 (.t 16) (.t 14))]) (.seq (.quiet [o 17 (.mv (.t 0)),o 18 (.nilc (.t 17)),o 19 (.fad 0 (.t 18)),o 20 (.load false 1 (.t 19)),o 21 (.mv (.t 0)),o 22 (.nilc (.t 21)),o 23 (.fad 1 (.t 22)),o 24 (.load false 1 (.t 23)),o 25 (.mv (.t 0)),o 26 (.nilc (.t 25)),o 27 (.fad 0 (.t 26)),o 28 (.load false 1 (.t 27)),o 29 (.len .slice (.t 28)),o 30 (.bin .rem (.t 24) (.t 29)),o 31 (.ixs 1 (.t 20) (.t 30)),o 32 (.load false 1 (.t 31)),o 2 (.mv (.t 32))]) (.ret))))⟩
def f_ref02_All_b0:SC:=.seq (.seq (.ops [o 9 (.mv (.t 5))]) (.cond (.t 9) (.skip) (.exit 0))) (.blk 1 (.seq (.ops [o 10 (.mv (.t 3)),o 11 (.mv (.t 4)),o 12 (.bsl 1 1 [.nils] [0] [.t 11]),o 13 (.app 1 24 (.t 10) (.t 12)),o 3 (.mv (.t 13))]) (.ops [o 15 (.mv (.t 0)),o 16 (.mv (.t 4)),o 17 (.call N.ref02_Next [.t 15,.t 16]),o 14 (.mv (.t 17)),o 18 (.ext (.t 14) 0),o 19 (.ext (.t 14) 1),o 4 (.mv (.t 18)),o 5 (.mv (.t 19))])))
def f_ref02_All_k1:SC:=.seq (.ops [o 20 (.mv (.t 3)),o 2 (.mv (.t 20))]) (.ret)
def f_ref02_All:SF:=⟨21,[.tm 2],.seq (.ops [o 2 (.mv (.k (.nils)))]) (.seq (.ops [o 3 (.mv (.k (.nils)))]) (.seq (.ops [o 6 (.mv (.t 0)),o 7 (.len .slice (.t 6)),o 8 (.mks 1 8 [.int .i64 0] (.t 7) (.t 7)),o 4 (.mv (.t 8))]) (.seq (.ops [o 5 (.mv (.k (.bool true)))]) (.seq (.blk 0 (.loop f_ref02_All_b0)) f_ref02_All_k1))))⟩
def f_ref33_sizes_r:SC:=.seq (.feet [0,1,0,4,0,28,60,124,255,0,1023,0,2048,0,14336,30720,63488,131071,262143,524287] [o 5 (.load true 3 (.t 2)),o 6 (.call N.ref33_Cards [.t 5]),o 7 (.fad 2 (.t 2)),o 8 (.load false 1 (.t 7)),o 9 (.mv (.t 1)),o 10 (.ixs 4 (.t 8) (.t 9)),o 11 (.fad 1 (.t 10)),o 12 (.load false 1 (.t 11)),o 13 (.call N.ref02_At [.t 6,.t 12]),o 14 (.load true 3 (.t 2)),o 15 (.call N.ref33_Lengths [.t 14]),o 16 (.fad 2 (.t 2)),o 17 (.load false 1 (.t 16)),o 18 (.mv (.t 1)),o 19 (.ixs 4 (.t 17) (.t 18)),o 20 (.fad 2 (.t 19)),o 21 (.load false 1 (.t 20)),o 22 (.call N.ref02_At [.t 15,.t 21]),o 23 (.app 1 8 (.t 13) (.t 22)),o 4 (.mv (.t 23))]) (.ret)
def f_ref33_sizes:SF:=⟨24,[.tm 4],.seq (.ops [o 2 (.box (.t 0)),o 4 (.mv (.k (.nils)))]) f_ref33_sizes_r⟩
def f_ref33_Lengths_b0:SC:=.seq (.seq (.ops [o 5 (.mv (.t 4)),o 6 (.fad 1 (.t 1)),o 7 (.load false 1 (.t 6)),o 8 (.len .slice (.t 7)),o 9 (.bin .lss (.t 5) (.t 8))]) (.cond (.t 9) (.skip) (.exit 0))) (.seq (.blk 1 (.ops [o 12 (.mv (.t 3)),o 13 (.fad 1 (.t 1)),o 14 (.load false 1 (.t 13)),o 15 (.mv (.t 4)),o 16 (.ixs 1 (.t 14) (.t 15)),o 17 (.load false 1 (.t 16)),o 18 (.len .slice (.t 17)),o 19 (.bsl 1 1 [.int .i64 0] [0] [.t 18]),o 20 (.app 1 8 (.t 12) (.t 19)),o 3 (.mv (.t 20))])) (.ops [o 10 (.mv (.t 4)),o 11 (.bin .add (.t 10) (.k (.int .i64 1))),o 4 (.mv (.t 11))]))
def f_ref33_Lengths_k1:SC:=.seq (.ops [o 21 (.mv (.t 3)),o 2 (.mv (.t 21))]) (.ret)
def f_ref33_Lengths_r:SC:=.seq (.ops [o 3 (.mv (.k (.nils)))]) (.seq (.seq (.ops [o 4 (.mv (.k (.int .i64 0)))]) (.blk 0 (.loop f_ref33_Lengths_b0))) f_ref33_Lengths_k1)
def f_ref33_Lengths:SF:=⟨22,[.tm 2],.seq (.ops [o 1 (.box (.t 0)),o 2 (.mv (.k (.nils)))]) f_ref33_Lengths_r⟩
def f_twin_read_b0:SC:=.seq (.ops [o 36 (.bin .lss (.t 35) (.t 34))]) (.seq (.cond (.t 36) (.skip) (.exit 2)) (.seq (.blk 3 (.seq (.ops [o 37 (.mv (.t 35)),o 38 (.ixs 1 (.t 33) (.t 35)),o 39 (.load false 1 (.t 38)),o 9 (.mv (.t 37)),o 10 (.mv (.t 39))]) (.seq (.ops [o 40 (.fad 2 (.t 2)),o 41 (.load false 1 (.t 40)),o 42 (.mv (.t 9)),o 43 (.ixs 4 (.t 41) (.t 42)),o 44 (.fad 0 (.t 43)),o 45 (.load false 1 (.t 44)),o 46 (.bin .sub (.t 45) (.k (.int .i64 1))),o 47 (.mv (.t 10)),o 48 (.bsl 1 1 [.int .i64 0] [0] [.t 47]),o 49 (.call N.twin_within [.k (.int .i64 (-1)),.t 46,.t 48]),o 50 (.not (.t 49))]) (.cond (.t 50) (.seq (.ops [o 51 (.build [.int .i64 0,.nils,.nils,.int .i64 0] [] []),oz (.store 4 (.t 4) (.t 51)),o 5 (.mv (.k (.int .i64 2)))]) (.ret)) (.skip))))) (.ops [o 52 (.bin .add (.t 35) (.k (.int .i64 1))),o 35 (.mv (.t 52))])))
def f_twin_read_k1:SC:=.ops [o 53 (.bin .add (.t 22) (.k (.int .i64 1))),o 22 (.mv (.t 53))]
def f_twin_read_b2:SC:=.seq (.ops [o 23 (.bin .lss (.t 22) (.t 21))]) (.seq (.cond (.t 23) (.skip) (.exit 0)) (.seq (.blk 1 (.seq (.ops [o 24 (.ixs 1 (.t 20) (.t 22)),o 25 (.load false 1 (.t 24)),o 8 (.mv (.t 25))]) (.seq (.seq (.ops [o 26 (.mv (.t 8)),o 27 (.len .slice (.t 26)),o 28 (.fad 2 (.t 2)),o 29 (.load false 1 (.t 28)),o 30 (.len .slice (.t 29)),o 31 (.bin .neq (.t 27) (.t 30))]) (.cond (.t 31) (.seq (.ops [o 32 (.build [.int .i64 0,.nils,.nils,.int .i64 0] [] []),oz (.store 4 (.t 4) (.t 32)),o 5 (.mv (.k (.int .i64 2)))]) (.ret)) (.skip))) (.seq (.ops [o 33 (.mv (.t 8)),o 34 (.len .slice (.t 33)),o 35 (.mv (.k (.int .i64 0)))]) (.blk 2 (.loop f_twin_read_b0)))))) f_twin_read_k1))
def f_twin_read_b3:SC:=.seq (.ops [o 60 (.bin .lss (.t 59) (.t 58))]) (.seq (.cond (.t 60) (.skip) (.exit 4)) (.seq (.blk 5 (.seq (.ops [o 61 (.ixs 1 (.t 57) (.t 59)),o 62 (.load false 1 (.t 61)),o 13 (.mv (.t 62))]) (.ops [o 63 (.fad 3 (.t 11)),o 64 (.load false 1 (.t 63)),o 65 (.mv (.t 13)),o 66 (.len .slice (.t 65)),o 67 (.bin .mul (.t 64) (.t 66)),o 68 (.fad 3 (.t 11)),oz (.store 1 (.t 68) (.t 67))]))) (.ops [o 69 (.bin .add (.t 59) (.k (.int .i64 1))),o 59 (.mv (.t 69))])))
def f_twin_read_k4:SC:=.seq (.ops [o 70 (.load true 4 (.t 11)),oz (.store 4 (.t 4) (.t 70)),o 5 (.mv (.k (.int .i64 0)))]) (.ret)
def f_twin_read_k5:SC:=.seq (.ops [o 54 (.load true 3 (.t 2)),o 55 (.build [.int .i64 0,.nils,.nils,.int .i64 0] [(0,3),(3,1)] [.t 54,.k (.int .i64 1)]),o 11 (.alloc [.int .i64 0,.nils,.nils,.int .i64 0]),oz (.store 4 (.t 11) (.t 55))]) (.seq (.seq (.ops [o 56 (.fad 1 (.t 2)),o 57 (.load false 1 (.t 56)),o 58 (.len .slice (.t 57)),o 59 (.mv (.k (.int .i64 0)))]) (.blk 4 (.loop f_twin_read_b3))) f_twin_read_k4)
def f_twin_read_r:SC:=.seq (.seq (.ops [o 14 (.load true 3 (.t 2)),o 15 (.call N.twin_Check [.t 14]),o 6 (.mv (.t 15))]) (.seq (.ops [o 16 (.mv (.t 6)),o 17 (.bin .neq (.t 16) (.k (.int .i64 0)))]) (.cond (.t 17) (.seq (.ops [o 18 (.build [.int .i64 0,.nils,.nils,.int .i64 0] [] []),o 19 (.mv (.t 6)),oz (.store 4 (.t 4) (.t 18)),o 5 (.mv (.t 19))]) (.ret)) (.skip)))) (.seq (.seq (.ops [o 20 (.mv (.t 1)),o 21 (.len .slice (.t 20)),o 22 (.mv (.k (.int .i64 0)))]) (.blk 0 (.loop f_twin_read_b2))) f_twin_read_k5)
def f_twin_read:SF:=⟨71,[.cell true 4 4,.tm 5],.seq (.ops [o 2 (.box (.t 0)),o 4 (.alloc [.int .i64 0,.nils,.nils,.int .i64 0]),o 5 (.mv (.k (.int .i64 0)))]) f_twin_read_r⟩
def f_twin_known_worlds_r:SC:=.seq (.ops [o 3 (.mkf N.twin_known_worlds_1 [] [.t 1]),o 2 (.mv (.t 3))]) (.ret)
def f_twin_known_worlds:SF:=⟨4,[.tm 2],.seq (.ops [o 1 (.box (.t 0)),o 2 (.mv (.k (.nilf)))]) f_twin_known_worlds_r⟩
def f_twin_known_run_b0:SC:=.seq (.ops [o 17 (.bin .lss (.t 16) (.t 15))]) (.seq (.cond (.t 17) (.skip) (.exit 0)) (.seq (.blk 1 (.seq (.ops [o 18 (.mv (.t 16)),o 9 (.mv (.t 18))]) (.ops [o 19 (.load false 1 (.t 8)),o 20 (.mv (.t 9)),o 21 (.dyn (.t 19) [.t 20])]))) (.ops [o 22 (.bin .add (.t 16) (.k (.int .i64 1))),o 16 (.mv (.t 22))])))
def f_twin_known_run_k1:SC:=.seq (.ops [o 23 (.load false 1 (.t 7)),o 6 (.mv (.t 23))]) (.ret)
def f_twin_known_run_r:SC:=.seq (.ops [o 10 (.bsl 1 0 [.int .i64 0] [] []),o 11 (.mv (.t 2)),o 12 (.app 1 8 (.t 10) (.t 11)),o 7 (.alloc [.nils]),oz (.store 1 (.t 7) (.t 12))]) (.seq (.ops [o 8 (.alloc [.nilf])]) (.seq (.ops [o 13 (.mkf N.twin_known_run_1 [] [.t 7,.t 3,.t 8,.t 4]),oz (.store 1 (.t 8) (.t 13))]) (.seq (.seq (.ops [o 14 (.load false 1 (.t 7)),o 15 (.len .slice (.t 14)),o 16 (.mv (.k (.int .i64 0)))]) (.blk 0 (.loop f_twin_known_run_b0))) f_twin_known_run_k1)))
def f_twin_known_run:SF:=⟨24,[.tm 6],.seq (.ops [o 3 (.box (.t 0)),o 4 (.box (.t 1)),o 6 (.mv (.k (.nils)))]) f_twin_known_run_r⟩
def f_ref33_Cards_b0:SC:=.seq (.seq (.ops [o 5 (.mv (.t 4)),o 6 (.fad 2 (.t 1)),o 7 (.load false 1 (.t 6)),o 8 (.len .slice (.t 7)),o 9 (.bin .lss (.t 5) (.t 8))]) (.cond (.t 9) (.skip) (.exit 0))) (.seq (.blk 1 (.ops [o 12 (.mv (.t 3)),o 13 (.fad 2 (.t 1)),o 14 (.load false 1 (.t 13)),o 15 (.mv (.t 4)),o 16 (.ixs 4 (.t 14) (.t 15)),o 17 (.fad 0 (.t 16)),o 18 (.load false 1 (.t 17)),o 19 (.bsl 1 1 [.int .i64 0] [0] [.t 18]),o 20 (.app 1 8 (.t 12) (.t 19)),o 3 (.mv (.t 20))])) (.ops [o 10 (.mv (.t 4)),o 11 (.bin .add (.t 10) (.k (.int .i64 1))),o 4 (.mv (.t 11))]))
def f_ref33_Cards_k1:SC:=.seq (.ops [o 21 (.mv (.t 3)),o 2 (.mv (.t 21))]) (.ret)
def f_ref33_Cards_r:SC:=.seq (.ops [o 3 (.mv (.k (.nils)))]) (.seq (.seq (.ops [o 4 (.mv (.k (.int .i64 0)))]) (.blk 0 (.loop f_ref33_Cards_b0))) f_ref33_Cards_k1)
def f_ref33_Cards:SF:=⟨22,[.tm 2],.seq (.ops [o 1 (.box (.t 0)),o 2 (.mv (.k (.nils)))]) f_ref33_Cards_r⟩
def f_ref02_At_b0:SC:=.seq (.seq (.ops [o 7 (.mv (.t 6)),o 8 (.mv (.t 1)),o 9 (.len .slice (.t 8)),o 10 (.bin .lss (.t 7) (.t 9))]) (.cond (.t 10) (.skip) (.exit 0))) (.seq (.blk 1 (.ops [o 13 (.mv (.t 5)),o 14 (.mv (.t 0)),o 15 (.mv (.t 1)),o 16 (.mv (.t 6)),o 17 (.ixs 1 (.t 15) (.t 16)),o 18 (.load false 1 (.t 17)),o 19 (.ixs 1 (.t 14) (.t 18)),o 20 (.load false 1 (.t 19)),o 21 (.bsl 1 1 [.int .i64 0] [0] [.t 20]),o 22 (.app 1 8 (.t 13) (.t 21)),o 5 (.mv (.t 22))])) (.ops [o 11 (.mv (.t 6)),o 12 (.bin .add (.t 11) (.k (.int .i64 1))),o 6 (.mv (.t 12))]))
def f_ref02_At_k1:SC:=.seq (.ops [o 23 (.mv (.t 5)),o 4 (.mv (.t 23))]) (.ret)
def f_ref02_At:SF:=⟨24,[.tm 4],.seq (.ops [o 4 (.mv (.k (.nils)))]) (.seq (.ops [o 5 (.mv (.k (.nils)))]) (.seq (.seq (.ops [o 6 (.mv (.k (.int .i64 0)))]) (.blk 0 (.loop f_ref02_At_b0))) f_ref02_At_k1))⟩
def f_twin_matches_b0:SC:=.seq (.ops [o 10 (.bin .lss (.t 9) (.t 8))]) (.seq (.cond (.t 10) (.skip) (.exit 0)) (.seq (.blk 1 (.seq (.ops [o 11 (.mv (.t 9)),o 12 (.ixs 1 (.t 7) (.t 9)),o 13 (.load false 1 (.t 12)),o 5 (.mv (.t 11)),o 6 (.mv (.t 13))]) (.seq (.ops [o 14 (.mv (.t 6)),o 15 (.bin .geq (.t 14) (.k (.int .i64 0))),o 16 (.mv (.t 15)),og 17 16 true (.mv (.t 6)),og 18 16 true (.mv (.t 0)),og 19 16 true (.mv (.t 5)),og 20 16 true (.ixs 1 (.t 18) (.t 19)),og 21 16 true (.load false 1 (.t 20)),og 22 16 true (.bin .neq (.t 17) (.t 21)),o 23 (.pick (.t 16) (.t 22) (.k (.bool false)))]) (.cond (.t 23) (.seq (.ops [o 4 (.mv (.k (.bool false)))]) (.ret)) (.skip))))) (.ops [o 24 (.bin .add (.t 9) (.k (.int .i64 1))),o 9 (.mv (.t 24))])))
def f_twin_matches_k1:SC:=.seq (.ops [o 4 (.mv (.k (.bool true)))]) (.ret)
def f_twin_matches:SF:=⟨25,[.tm 4],.seq (.ops [o 4 (.mv (.k (.bool false)))]) (.seq (.seq (.ops [o 7 (.mv (.t 1)),o 8 (.len .slice (.t 7)),o 9 (.mv (.k (.int .i64 0)))]) (.blk 0 (.loop f_twin_matches_b0))) f_twin_matches_k1)⟩
def f_frac_Make_r:SC:=.seq (.seq (.ops [o 6 (.load false 1 (.t 3)),o 7 (.bin .eql (.t 6) (.k (.int .i64 0)))]) (.cond (.t 7) (.seq (.ops [o 8 (.build [.int .i64 0,.int .i64 0] [] []),oz (.store 2 (.t 4) (.t 8)),o 5 (.mv (.k (.int .i64 2)))]) (.ret)) (.skip))) (.seq (.ops [o 9 (.mkf N.frac_Make_1 [] [.t 2,.t 3]),o 10 (.call N.frac_guardapi_Q [.t 9]),o 11 (.ext (.t 10) 0),o 12 (.ext (.t 10) 1),oz (.store 2 (.t 4) (.t 11)),o 5 (.mv (.t 12))]) (.ret))
def f_frac_Make:SF:=⟨13,[.cell true 2 4,.tm 5],.seq (.ops [o 2 (.box (.t 0)),o 3 (.box (.t 1)),o 4 (.alloc [.int .i64 0,.int .i64 0]),o 5 (.mv (.k (.int .i64 0)))]) f_frac_Make_r⟩
def f_twin_known_free_b0:SC:=.seq (.ops [o 13 (.bin .lss (.t 12) (.t 11))]) (.seq (.cond (.t 13) (.skip) (.exit 0)) (.seq (.blk 1 (.seq (.ops [o 14 (.mv (.t 12)),o 4 (.mv (.t 14))]) (.ops [o 15 (.mv (.t 3)),o 16 (.mv (.t 4)),o 17 (.ixs 1 (.t 15) (.t 16)),oz (.store 1 (.t 17) (.k (.int .i64 (-1))))]))) (.ops [o 18 (.bin .add (.t 12) (.k (.int .i64 1))),o 12 (.mv (.t 18))])))
def f_twin_known_free_k1:SC:=.seq (.ops [o 19 (.mv (.t 3)),o 2 (.mv (.t 19))]) (.ret)
def f_twin_known_free_r:SC:=.seq (.ops [o 5 (.fad 0 (.t 1)),o 6 (.fad 2 (.t 5)),o 7 (.load false 1 (.t 6)),o 8 (.len .slice (.t 7)),o 9 (.mks 1 8 [.int .i64 0] (.t 8) (.t 8)),o 3 (.mv (.t 9))]) (.seq (.seq (.ops [o 10 (.mv (.t 3)),o 11 (.len .slice (.t 10)),o 12 (.mv (.k (.int .i64 0)))]) (.blk 0 (.loop f_twin_known_free_b0))) f_twin_known_free_k1)
def f_twin_known_free:SF:=⟨20,[.tm 2],.seq (.ops [o 1 (.box (.t 0)),o 2 (.mv (.k (.nils)))]) f_twin_known_free_r⟩
def f_twin_setOf_b0:SC:=.seq (.ops [o 9 (.bin .lss (.t 8) (.t 7))]) (.seq (.cond (.t 9) (.skip) (.exit 0)) (.seq (.blk 1 (.seq (.ops [o 10 (.ixs 1 (.t 6) (.t 8)),o 11 (.load false 1 (.t 10)),o 5 (.mv (.t 11))]) (.ops [o 12 (.mv (.t 3)),o 13 (.mv (.t 5)),o 14 (.bin .shl (.k (.int .u64 1)) (.t 13)),o 15 (.bin .or (.t 12) (.t 14)),o 3 (.mv (.t 15))]))) (.ops [o 16 (.bin .add (.t 8) (.k (.int .i64 1))),o 8 (.mv (.t 16))])))
def f_twin_setOf_k1:SC:=.seq (.ops [o 17 (.mv (.t 3)),o 2 (.mv (.t 17))]) (.ret)
def f_twin_setOf:SF:=⟨18,[.tm 2],.seq (.ops [o 2 (.mv (.k (.int .u64 0)))]) (.seq (.ops [o 3 (.mv (.k (.int .u64 0)))]) (.seq (.seq (.ops [o 6 (.mv (.t 0)),o 7 (.len .slice (.t 6)),o 8 (.mv (.k (.int .i64 0)))]) (.blk 0 (.loop f_twin_setOf_b0))) f_twin_setOf_k1))⟩
def f_law33_is_1_r:SC:=.seq (.ops [o 7 (.load true 2 (.t 4)),o 8 (.load false 1 (.t 2)),o 9 (.load false 1 (.t 3)),o 10 (.build [.int .i64 0,.int .i64 0] [(0,1),(1,1)] [.t 8,.t 9]),o 11 (.eq false (.flat [.int .i64,.int .i64]) (.t 7) (.t 10)),o 12 (.mv (.t 11)),og 13 12 true (.mv (.t 1)),og 14 12 true (.bin .eql (.t 13) (.k (.int .i64 0))),o 15 (.pick (.t 12) (.t 14) (.k (.bool false))),o 6 (.mv (.t 15))]) (.ret)
def f_law33_is_1:SF:=⟨16,[.tm 6],.seq (.ops [o 4 (.box (.t 0)),o 6 (.mv (.k (.bool false)))]) f_law33_is_1_r⟩
def f_frac_bothapi_Q_r:SC:=.seq (.seq (.ops [o 9 (.load true 2 (.t 3)),o 10 (.call N.frac_Check [.t 9]),o 11 (.bin .neq (.t 10) (.k (.int .i64 0))),o 12 (.mv (.t 11)),og 13 12 false (.load true 2 (.t 4)),og 14 12 false (.call N.frac_Check [.t 13]),og 15 12 false (.bin .neq (.t 14) (.k (.int .i64 0))),o 16 (.pick (.t 12) (.k (.bool true)) (.t 15))]) (.cond (.t 16) (.seq (.ops [o 8 (.alloc [.int .i64 0,.int .i64 0])]) (.seq (.ops [o 17 (.load true 2 (.t 8)),oz (.store 2 (.t 6) (.t 17)),o 7 (.mv (.k (.int .i64 5)))]) (.ret))) (.skip))) (.seq (.ops [o 18 (.mkf N.frac_bothapi_Q_1 [] [.t 5,.t 3,.t 4]),o 19 (.call N.frac_guardapi_Q [.t 18]),o 20 (.ext (.t 19) 0),o 21 (.ext (.t 19) 1),oz (.store 2 (.t 6) (.t 20)),o 7 (.mv (.t 21))]) (.ret))
def f_frac_bothapi_Q:SF:=⟨22,[.cell true 2 6,.tm 7],.seq (.ops [o 3 (.box (.t 0)),o 4 (.box (.t 1)),o 5 (.box (.t 2)),o 6 (.alloc [.int .i64 0,.int .i64 0]),o 7 (.mv (.k (.int .i64 0)))]) f_frac_bothapi_Q_r⟩
def f_frac_product_r:SC:=.seq (.quiet [o 8 (.fad 0 (.t 2)),o 9 (.load false 1 (.t 8)),o 10 (.call N.frac_size [.t 9]),o 11 (.fad 1 (.t 3)),o 12 (.load false 1 (.t 11)),o 13 (.conv .u64 (.t 12)),o 14 (.call N.frac_common [.t 10,.t 13]),o 5 (.mv (.t 14))]) (.seq (.quiet [o 15 (.fad 0 (.t 3)),o 16 (.load false 1 (.t 15)),o 17 (.call N.frac_size [.t 16]),o 18 (.fad 1 (.t 2)),o 19 (.load false 1 (.t 18)),o 20 (.conv .u64 (.t 19)),o 21 (.call N.frac_common [.t 17,.t 20]),o 6 (.mv (.t 21))]) (.seq (.feet [0,1,3,0,15,0,32,103,0,487,1023,0,4095] [o 22 (.fad 0 (.t 2)),o 23 (.load false 1 (.t 22)),o 24 (.call N.frac_size [.t 23]),o 25 (.mv (.t 5)),o 26 (.bin .quo (.t 24) (.t 25)),o 27 (.fad 0 (.t 3)),o 28 (.load false 1 (.t 27)),o 29 (.call N.frac_size [.t 28]),o 30 (.mv (.t 6)),o 31 (.bin .quo (.t 29) (.t 30)),o 32 (.call N.frac_times [.t 26,.t 31]),o 7 (.alloc [.int .u64 0,.int .u64 0]),oz (.store 2 (.t 7) (.t 32))]) (.seq (.feet [0,1,3,0,8,24,63,0,0,256,768,0,3840,0,8192,24576,0,122880,261888,524287,1048575] [o 33 (.fad 0 (.t 2)),o 34 (.load false 1 (.t 33)),o 35 (.bin .lss (.t 34) (.k (.int .i64 0))),o 36 (.fad 0 (.t 3)),o 37 (.load false 1 (.t 36)),o 38 (.bin .lss (.t 37) (.k (.int .i64 0))),o 39 (.eq true .bool (.t 35) (.t 38)),o 40 (.load true 2 (.t 7)),o 41 (.fad 1 (.t 2)),o 42 (.load false 1 (.t 41)),o 43 (.conv .u64 (.t 42)),o 44 (.mv (.t 6)),o 45 (.bin .quo (.t 43) (.t 44)),o 46 (.fad 1 (.t 3)),o 47 (.load false 1 (.t 46)),o 48 (.conv .u64 (.t 47)),o 49 (.mv (.t 5)),o 50 (.bin .quo (.t 48) (.t 49)),o 51 (.call N.frac_times [.t 45,.t 50]),o 52 (.call N.frac_fit [.t 39,.t 40,.t 51]),oz (.store 2 (.t 4) (.t 52))]) (.ret))))
def f_frac_product:SF:=⟨53,[.cell true 2 4],.seq (.ops [o 2 (.box (.t 0)),o 3 (.box (.t 1)),o 4 (.alloc [.int .i64 0,.int .i64 0])]) f_frac_product_r⟩
def f_twin_increasing_b0:SC:=.seq (.ops [o 10 (.bin .lss (.t 9) (.t 8))]) (.seq (.cond (.t 10) (.skip) (.exit 0)) (.seq (.blk 1 (.seq (.ops [o 11 (.mv (.t 9)),o 12 (.ixs 1 (.t 7) (.t 9)),o 13 (.load false 1 (.t 12)),o 5 (.mv (.t 11)),o 6 (.mv (.t 13))]) (.seq (.ops [o 14 (.mv (.t 6)),o 15 (.bin .lss (.t 14) (.k (.int .i64 0))),o 16 (.mv (.t 15)),og 17 16 false (.mv (.t 6)),og 18 16 false (.mv (.t 1)),og 19 16 false (.bin .geq (.t 17) (.t 18)),o 20 (.pick (.t 16) (.k (.bool true)) (.t 19)),o 21 (.mv (.t 20)),og 22 21 false (.mv (.t 5)),og 23 21 false (.bin .gtr (.t 22) (.k (.int .i64 0))),og 24 21 false (.mv (.t 23)),og 25 24 true (.mv (.t 6)),og 26 24 true (.mv (.t 0)),og 27 24 true (.mv (.t 5)),og 28 24 true (.bin .sub (.t 27) (.k (.int .i64 1))),og 29 24 true (.ixs 1 (.t 26) (.t 28)),og 30 24 true (.load false 1 (.t 29)),og 31 24 true (.bin .leq (.t 25) (.t 30)),og 32 21 false (.pick (.t 24) (.t 31) (.k (.bool false))),o 33 (.pick (.t 21) (.k (.bool true)) (.t 32))]) (.cond (.t 33) (.seq (.ops [o 4 (.mv (.k (.bool false)))]) (.ret)) (.skip))))) (.ops [o 34 (.bin .add (.t 9) (.k (.int .i64 1))),o 9 (.mv (.t 34))])))
def f_twin_increasing_k1:SC:=.seq (.ops [o 4 (.mv (.k (.bool true)))]) (.ret)
def f_twin_increasing:SF:=⟨35,[.tm 4],.seq (.ops [o 4 (.mv (.k (.bool false)))]) (.seq (.seq (.ops [o 7 (.mv (.t 0)),o 8 (.len .slice (.t 7)),o 9 (.mv (.k (.int .i64 0)))]) (.blk 0 (.loop f_twin_increasing_b0))) f_twin_increasing_k1)⟩
def f_twin_sizes_b0:SC:=.seq (.ops [o 14 (.bin .lss (.t 13) (.t 12))]) (.seq (.cond (.t 14) (.skip) (.exit 0)) (.seq (.blk 1 (.seq (.ops [o 15 (.ixs 1 (.t 11) (.t 13)),o 16 (.load false 1 (.t 15)),o 7 (.mv (.t 16))]) (.ops [o 17 (.mv (.t 4)),o 18 (.fad 2 (.t 2)),o 19 (.load false 1 (.t 18)),o 20 (.mv (.t 7)),o 21 (.ixs 4 (.t 19) (.t 20)),o 22 (.fad 0 (.t 21)),o 23 (.load false 1 (.t 22)),o 24 (.bin .mul (.t 17) (.t 23)),o 4 (.mv (.t 24))]))) (.ops [o 25 (.bin .add (.t 13) (.k (.int .i64 1))),o 13 (.mv (.t 25))])))
def f_twin_sizes_b1:SC:=.seq (.ops [o 30 (.bin .lss (.t 29) (.t 28))]) (.seq (.cond (.t 30) (.skip) (.exit 2)) (.seq (.blk 3 (.seq (.ops [o 31 (.ixs 1 (.t 27) (.t 29)),o 32 (.load false 1 (.t 31)),o 9 (.mv (.t 32))]) (.ops [o 33 (.mv (.t 5)),o 34 (.fad 1 (.t 2)),o 35 (.load false 1 (.t 34)),o 36 (.mv (.t 9)),o 37 (.ixs 1 (.t 35) (.t 36)),o 38 (.load false 1 (.t 37)),o 39 (.len .slice (.t 38)),o 40 (.bin .mul (.t 33) (.t 39)),o 5 (.mv (.t 40))]))) (.ops [o 41 (.bin .add (.t 29) (.k (.int .i64 1))),o 29 (.mv (.t 41))])))
def f_twin_sizes_k2:SC:=.seq (.ops [o 42 (.mv (.t 4)),o 43 (.mv (.t 5)),o 4 (.mv (.t 42)),o 5 (.mv (.t 43))]) (.ret)
def f_twin_sizes_k3:SC:=.seq (.seq (.ops [o 26 (.fad 2 (.t 3)),o 27 (.load false 1 (.t 26)),o 28 (.len .slice (.t 27)),o 29 (.mv (.k (.int .i64 0)))]) (.blk 2 (.loop f_twin_sizes_b1))) f_twin_sizes_k2
def f_twin_sizes_r:SC:=.seq (.ops [o 4 (.mv (.k (.int .i64 1))),o 5 (.mv (.k (.int .i64 1)))]) (.seq (.seq (.ops [o 10 (.fad 1 (.t 3)),o 11 (.load false 1 (.t 10)),o 12 (.len .slice (.t 11)),o 13 (.mv (.k (.int .i64 0)))]) (.blk 0 (.loop f_twin_sizes_b0))) f_twin_sizes_k3)
def f_twin_sizes:SF:=⟨44,[.tm 4,.tm 5],.seq (.ops [o 2 (.box (.t 0)),o 3 (.box (.t 1)),o 4 (.mv (.k (.int .i64 0))),o 5 (.mv (.k (.int .i64 0)))]) f_twin_sizes_r⟩
def f_ref02_Draft_Cards_b0:SC:=.seq (.seq (.ops [o 5 (.mv (.t 4)),o 6 (.fad 0 (.t 1)),o 7 (.load false 1 (.t 6)),o 8 (.len .slice (.t 7)),o 9 (.bin .lss (.t 5) (.t 8)),o 10 (.mv (.t 9)),og 11 10 true (.mv (.t 4)),og 12 10 true (.bin .lss (.t 11) (.k (.int .i64 5))),o 13 (.pick (.t 10) (.t 12) (.k (.bool false)))]) (.cond (.t 13) (.skip) (.exit 0))) (.seq (.blk 1 (.ops [o 16 (.mv (.t 3)),o 17 (.fad 0 (.t 1)),o 18 (.load false 1 (.t 17)),o 19 (.mv (.t 4)),o 20 (.ixs 1 (.t 18) (.t 19)),o 21 (.load false 1 (.t 20)),o 22 (.bin .rem (.t 21) (.k (.int .u8 4))),o 23 (.conv .i64 (.t 22)),o 24 (.bin .add (.k (.int .i64 1)) (.t 23)),o 25 (.bsl 1 1 [.int .i64 0] [0] [.t 24]),o 26 (.app 1 8 (.t 16) (.t 25)),o 3 (.mv (.t 26))])) (.ops [o 14 (.mv (.t 4)),o 15 (.bin .add (.t 14) (.k (.int .i64 1))),o 4 (.mv (.t 15))]))
def f_ref02_Draft_Cards_k1:SC:=.seq (.ops [o 27 (.mv (.t 3)),o 2 (.mv (.t 27))]) (.ret)
def f_ref02_Draft_Cards_r:SC:=.seq (.ops [o 3 (.mv (.k (.nils)))]) (.seq (.seq (.ops [o 4 (.mv (.k (.int .i64 0)))]) (.blk 0 (.loop f_ref02_Draft_Cards_b0))) f_ref02_Draft_Cards_k1)
def f_ref02_Draft_Cards:SF:=⟨28,[.tm 2],.seq (.ops [o 1 (.box (.t 0)),o 2 (.mv (.k (.nils)))]) f_ref02_Draft_Cards_r⟩
def f_ref02_Next_b0:SC:=.seq (.seq (.ops [o 14 (.mv (.t 7)),o 15 (.bin .geq (.t 14) (.k (.int .i64 0)))]) (.cond (.t 15) (.skip) (.exit 0))) (.seq (.blk 1 (.seq (.ops [o 18 (.mv (.t 6)),o 19 (.mv (.t 7)),o 20 (.mv (.t 6)),o 21 (.mv (.t 7)),o 22 (.ixs 1 (.t 20) (.t 21)),o 23 (.load false 1 (.t 22)),o 24 (.bin .add (.t 23) (.k (.int .i64 1))),o 25 (.ixs 1 (.t 18) (.t 19)),oz (.store 1 (.t 25) (.t 24))]) (.seq (.seq (.quiet [o 26 (.mv (.t 6)),o 27 (.mv (.t 7)),o 28 (.ixs 1 (.t 26) (.t 27)),o 29 (.load false 1 (.t 28)),o 30 (.mv (.t 0)),o 31 (.mv (.t 7)),o 32 (.ixs 1 (.t 30) (.t 31)),o 33 (.load false 1 (.t 32)),o 34 (.bin .lss (.t 29) (.t 33))]) (.cond (.t 34) (.seq (.ops [o 35 (.mv (.t 6)),o 4 (.mv (.t 35)),o 5 (.mv (.k (.bool true)))]) (.ret)) (.skip))) (.ops [o 36 (.mv (.t 6)),o 37 (.mv (.t 7)),o 38 (.ixs 1 (.t 36) (.t 37)),oz (.store 1 (.t 38) (.k (.int .i64 0)))])))) (.ops [o 16 (.mv (.t 7)),o 17 (.bin .sub (.t 16) (.k (.int .i64 1))),o 7 (.mv (.t 17))]))
def f_ref02_Next_k1:SC:=.seq (.ops [o 39 (.mv (.t 6)),o 4 (.mv (.t 39)),o 5 (.mv (.k (.bool false)))]) (.ret)
def f_ref02_Next:SF:=⟨40,[.tm 4,.tm 5],.seq (.ops [o 4 (.mv (.k (.nils))),o 5 (.mv (.k (.bool false)))]) (.seq (.ops [o 6 (.mv (.k (.nils)))]) (.seq (.ops [o 8 (.mv (.t 6)),o 9 (.mv (.t 1)),o 10 (.app 1 8 (.t 8) (.t 9)),o 6 (.mv (.t 10))]) (.seq (.seq (.ops [o 11 (.mv (.t 6)),o 12 (.len .slice (.t 11)),o 13 (.bin .sub (.t 12) (.k (.int .i64 1))),o 7 (.mv (.t 13))]) (.blk 0 (.loop f_ref02_Next_b0))) f_ref02_Next_k1)))⟩
def f_twin_known_worlds_1_b0:SC:=.seq (.seq (.ops [o 22 (.mv (.t 7)),o 23 (.bin .geq (.t 22) (.k (.int .i64 0)))]) (.cond (.t 23) (.skip) (.exit 2))) (.seq (.blk 3 (.seq (.ops [o 26 (.mv (.t 3)),o 27 (.mv (.t 7)),o 28 (.mv (.t 6)),o 29 (.fad 0 (.t 1)),o 30 (.fad 1 (.t 29)),o 31 (.load false 1 (.t 30)),o 32 (.mv (.t 7)),o 33 (.ixs 1 (.t 31) (.t 32)),o 34 (.load false 1 (.t 33)),o 35 (.len .slice (.t 34)),o 36 (.bin .rem (.t 28) (.t 35)),o 37 (.ixs 1 (.t 26) (.t 27)),oz (.store 1 (.t 37) (.t 36))]) (.seq (.ops [o 38 (.mv (.t 6)),o 39 (.fad 0 (.t 1)),o 40 (.fad 1 (.t 39)),o 41 (.load false 1 (.t 40)),o 42 (.mv (.t 7)),o 43 (.ixs 1 (.t 41) (.t 42)),o 44 (.load false 1 (.t 43)),o 45 (.len .slice (.t 44)),o 46 (.bin .quo (.t 38) (.t 45)),o 6 (.mv (.t 46))]) (.quiet [o 47 (.mv (.t 5)),o 48 (.fad 0 (.t 1)),o 49 (.fad 1 (.t 48)),o 50 (.load false 1 (.t 49)),o 51 (.mv (.t 7)),o 52 (.ixs 1 (.t 50) (.t 51)),o 53 (.load false 1 (.t 52)),o 54 (.mv (.t 3)),o 55 (.mv (.t 7)),o 56 (.ixs 1 (.t 54) (.t 55)),o 57 (.load false 1 (.t 56)),o 58 (.ixs 1 (.t 53) (.t 57)),o 59 (.load false 1 (.t 58)),o 60 (.bin .mul (.t 47) (.t 59)),o 5 (.mv (.t 60))])))) (.ops [o 24 (.mv (.t 7)),o 25 (.bin .sub (.t 24) (.k (.int .i64 1))),o 7 (.mv (.t 25))]))
def f_twin_known_worlds_1_k1:SC:=.seq (.ops [o 61 (.mv (.t 0)),o 62 (.mv (.t 3)),o 63 (.mv (.t 5)),o 64 (.dyn (.t 61) [.t 62,.t 63]),o 65 (.not (.t 64))]) (.cond (.t 65) (.ret) (.skip))
def f_twin_known_worlds_1_k2:SC:=.ops [o 66 (.bin .add (.t 15) (.k (.int .i64 1))),o 15 (.mv (.t 66))]
def f_twin_known_worlds_1_b3:SC:=.seq (.ops [o 16 (.bin .lss (.t 15) (.t 14))]) (.seq (.cond (.t 16) (.skip) (.exit 0)) (.seq (.blk 1 (.seq (.ops [o 17 (.mv (.t 15)),o 4 (.mv (.t 17))]) (.seq (.ops [o 18 (.mv (.t 4)),o 5 (.mv (.k (.int .i64 1))),o 6 (.mv (.t 18))]) (.seq (.seq (.ops [o 19 (.mv (.t 3)),o 20 (.len .slice (.t 19)),o 21 (.bin .sub (.t 20) (.k (.int .i64 1))),o 7 (.mv (.t 21))]) (.blk 2 (.loop f_twin_known_worlds_1_b0))) f_twin_known_worlds_1_k1)))) f_twin_known_worlds_1_k2))
def f_twin_known_worlds_1:SF:=⟨67,[],.seq (.ops [o 8 (.fad 0 (.t 1)),o 9 (.fad 1 (.t 8)),o 10 (.load false 1 (.t 9)),o 11 (.len .slice (.t 10)),o 12 (.mks 1 8 [.int .i64 0] (.t 11) (.t 11)),o 3 (.mv (.t 12))]) (.seq (.ops [o 13 (.fad 3 (.t 1)),o 14 (.load false 1 (.t 13)),o 15 (.mv (.k (.int .i64 0)))]) (.blk 0 (.loop f_twin_known_worlds_1_b3)))⟩
def f_twin_known_run_1_b0:SC:=.seq (.ops [o 32 (.bin .lss (.t 31) (.t 30))]) (.seq (.cond (.t 32) (.skip) (.exit 0)) (.seq (.blk 1 (.seq (.ops [o 33 (.ixs 1 (.t 29) (.t 31)),o 34 (.load false 1 (.t 33)),o 10 (.mv (.t 34))]) (.feet [0,0,2,6,0,30,62,126,255,0,0,1536,4095,8191] [o 35 (.mv (.t 8)),o 36 (.fad 0 (.t 2)),o 37 (.fad 2 (.t 36)),o 38 (.load false 1 (.t 37)),o 39 (.mv (.t 10)),o 40 (.ixs 4 (.t 38) (.t 39)),o 41 (.fad 0 (.t 40)),o 42 (.load false 1 (.t 41)),o 43 (.bin .mul (.t 35) (.t 42)),o 44 (.load false 1 (.t 3)),o 45 (.mv (.t 10)),o 46 (.dyn (.t 44) [.t 45]),o 47 (.bin .add (.t 43) (.t 46)),o 8 (.mv (.t 47))]))) (.ops [o 48 (.bin .add (.t 31) (.k (.int .i64 1))),o 31 (.mv (.t 48))])))
def f_twin_known_run_1_b1:SC:=.seq (.ops [o 53 (.bin .lss (.t 52) (.t 51))]) (.seq (.cond (.t 53) (.skip) (.exit 2)) (.seq (.blk 3 (.seq (.ops [o 54 (.ixs 1 (.t 50) (.t 52)),o 55 (.load false 1 (.t 54)),o 12 (.mv (.t 55))]) (.quiet [o 56 (.mv (.t 8)),o 57 (.fad 0 (.t 2)),o 58 (.fad 1 (.t 57)),o 59 (.load false 1 (.t 58)),o 60 (.mv (.t 12)),o 61 (.ixs 1 (.t 59) (.t 60)),o 62 (.load false 1 (.t 61)),o 63 (.len .slice (.t 62)),o 64 (.bin .mul (.t 56) (.t 63)),o 65 (.load false 1 (.t 4)),o 66 (.mv (.t 12)),o 67 (.ixs 1 (.t 65) (.t 66)),o 68 (.load false 1 (.t 67)),o 69 (.bin .add (.t 64) (.t 68)),o 8 (.mv (.t 69))]))) (.ops [o 70 (.bin .add (.t 52) (.k (.int .i64 1))),o 52 (.mv (.t 70))])))
def f_twin_known_run_1_k2:SC:=.seq (.feet [0,0,0,4,0,28,60,127,255] [o 71 (.load false 1 (.t 1)),o 72 (.mv (.t 0)),o 73 (.fad 3 (.t 7)),o 74 (.load false 1 (.t 73)),o 75 (.mv (.t 8)),o 76 (.ixs 1 (.t 74) (.t 75)),o 77 (.load false 1 (.t 76)),o 78 (.ixs 1 (.t 71) (.t 72)),oz (.store 1 (.t 78) (.t 77))]) (.seq (.ops [o 79 (.load false 1 (.t 1)),o 80 (.mv (.t 0)),o 81 (.ixs 1 (.t 79) (.t 80)),o 82 (.load false 1 (.t 81)),o 6 (.mv (.t 82))]) (.ret))
def f_twin_known_run_1_k3:SC:=.seq (.seq (.ops [o 49 (.fad 2 (.t 7)),o 50 (.load false 1 (.t 49)),o 51 (.len .slice (.t 50)),o 52 (.mv (.k (.int .i64 0)))]) (.blk 2 (.loop f_twin_known_run_1_b1))) f_twin_known_run_1_k2
def f_twin_known_run_1:SF:=⟨83,[.tm 6],.seq (.ops [o 6 (.mv (.k (.int .i64 0)))]) (.seq (.seq (.ops [o 13 (.load false 1 (.t 1)),o 14 (.mv (.t 0)),o 15 (.ixs 1 (.t 13) (.t 14)),o 16 (.load false 1 (.t 15)),o 17 (.bin .geq (.t 16) (.k (.int .i64 0)))]) (.cond (.t 17) (.seq (.ops [o 18 (.load false 1 (.t 1)),o 19 (.mv (.t 0)),o 20 (.ixs 1 (.t 18) (.t 19)),o 21 (.load false 1 (.t 20)),o 6 (.mv (.t 21))]) (.ret)) (.skip))) (.seq (.ops [o 22 (.fad 0 (.t 2)),o 23 (.fad 2 (.t 22)),o 24 (.load false 1 (.t 23)),o 25 (.mv (.t 0)),o 26 (.ixs 4 (.t 24) (.t 25)),o 27 (.load true 4 (.t 26)),o 7 (.alloc [.int .i64 0,.nils,.nils,.nils]),oz (.store 4 (.t 7) (.t 27))]) (.seq (.ops [o 8 (.mv (.k (.int .i64 0)))]) (.seq (.seq (.ops [o 28 (.fad 1 (.t 7)),o 29 (.load false 1 (.t 28)),o 30 (.len .slice (.t 29)),o 31 (.mv (.k (.int .i64 0)))]) (.blk 0 (.loop f_twin_known_run_1_b0))) f_twin_known_run_1_k3))))⟩
def f_frac_Make_1_r:SC:=.seq (.quiet [o 4 (.load false 1 (.t 0)),o 5 (.call N.frac_size [.t 4]),o 6 (.load false 1 (.t 1)),o 7 (.call N.frac_size [.t 6]),o 8 (.call N.frac_common [.t 5,.t 7]),o 3 (.mv (.t 8))]) (.seq (.feet [0,1,0,4,15,0,32,0,224,480,0,1120,0,7264,15456,32767,65535] [o 9 (.load false 1 (.t 0)),o 10 (.bin .lss (.t 9) (.k (.int .i64 0))),o 11 (.load false 1 (.t 1)),o 12 (.bin .lss (.t 11) (.k (.int .i64 0))),o 13 (.eq true .bool (.t 10) (.t 12)),o 14 (.load false 1 (.t 0)),o 15 (.call N.frac_size [.t 14]),o 16 (.mv (.t 3)),o 17 (.bin .quo (.t 15) (.t 16)),o 18 (.build [.int .u64 0,.int .u64 0] [(0,1),(1,1)] [.k (.int .u64 0),.t 17]),o 19 (.load false 1 (.t 1)),o 20 (.call N.frac_size [.t 19]),o 21 (.mv (.t 3)),o 22 (.bin .quo (.t 20) (.t 21)),o 23 (.build [.int .u64 0,.int .u64 0] [(0,1),(1,1)] [.k (.int .u64 0),.t 22]),o 24 (.call N.frac_fit [.t 13,.t 18,.t 23]),oz (.store 2 (.t 2) (.t 24))]) (.ret))
def f_frac_Make_1:SF:=⟨25,[.cell true 2 2],.seq (.ops [o 2 (.alloc [.int .i64 0,.int .i64 0])]) f_frac_Make_1_r⟩
def f_frac_common_b0:SC:=.seq (.seq (.ops [o 5 (.mv (.t 1)),o 6 (.bin .neq (.t 5) (.k (.int .u64 0)))]) (.cond (.t 6) (.skip) (.exit 0))) (.blk 1 (.quiet [o 7 (.mv (.t 1)),o 8 (.mv (.t 0)),o 9 (.mv (.t 1)),o 10 (.bin .rem (.t 8) (.t 9)),o 0 (.mv (.t 7)),o 1 (.mv (.t 10))]))
def f_frac_common_k1:SC:=.seq (.ops [o 11 (.mv (.t 0)),o 4 (.mv (.t 11))]) (.ret)
def f_frac_common:SF:=⟨12,[.tm 4],.seq (.ops [o 4 (.mv (.k (.int .u64 0)))]) (.seq (.blk 0 (.loop f_frac_common_b0)) f_frac_common_k1)⟩
def f_frac_size:SF:=⟨10,[.tm 2],.seq (.ops [o 2 (.mv (.k (.int .u64 0)))]) (.seq (.seq (.ops [o 3 (.mv (.t 0)),o 4 (.bin .lss (.t 3) (.k (.int .i64 0)))]) (.cond (.t 4) (.seq (.ops [o 5 (.mv (.t 0)),o 6 (.conv .u64 (.t 5)),o 7 (.un .neg (.t 6)),o 2 (.mv (.t 7))]) (.ret)) (.skip))) (.seq (.ops [o 8 (.mv (.t 0)),o 9 (.conv .u64 (.t 8)),o 2 (.mv (.t 9))]) (.ret)))⟩
def f_mathbits_Mul64:SF:=⟨51,[.tm 4,.tm 5],.seq (.ops [o 4 (.mv (.k (.int .u64 0))),o 5 (.mv (.k (.int .u64 0)))]) (.seq (.ops [o 14 (.mv (.t 0)),o 15 (.bin .and (.t 14) (.k (.int .u64 4294967295))),o 6 (.mv (.t 15))]) (.seq (.ops [o 16 (.mv (.t 0)),o 17 (.bin .shr (.t 16) (.k (.int .u64 32))),o 7 (.mv (.t 17))]) (.seq (.ops [o 18 (.mv (.t 1)),o 19 (.bin .and (.t 18) (.k (.int .u64 4294967295))),o 8 (.mv (.t 19))]) (.seq (.ops [o 20 (.mv (.t 1)),o 21 (.bin .shr (.t 20) (.k (.int .u64 32))),o 9 (.mv (.t 21))]) (.seq (.ops [o 22 (.mv (.t 6)),o 23 (.mv (.t 8)),o 24 (.bin .mul (.t 22) (.t 23)),o 10 (.mv (.t 24))]) (.seq (.ops [o 25 (.mv (.t 7)),o 26 (.mv (.t 8)),o 27 (.bin .mul (.t 25) (.t 26)),o 28 (.mv (.t 10)),o 29 (.bin .shr (.t 28) (.k (.int .u64 32))),o 30 (.bin .add (.t 27) (.t 29)),o 11 (.mv (.t 30))]) (.seq (.ops [o 31 (.mv (.t 11)),o 32 (.bin .and (.t 31) (.k (.int .u64 4294967295))),o 12 (.mv (.t 32))]) (.seq (.ops [o 33 (.mv (.t 11)),o 34 (.bin .shr (.t 33) (.k (.int .u64 32))),o 13 (.mv (.t 34))]) (.seq (.ops [o 35 (.mv (.t 12)),o 36 (.mv (.t 6)),o 37 (.mv (.t 9)),o 38 (.bin .mul (.t 36) (.t 37)),o 39 (.bin .add (.t 35) (.t 38)),o 12 (.mv (.t 39))]) (.seq (.ops [o 40 (.mv (.t 7)),o 41 (.mv (.t 9)),o 42 (.bin .mul (.t 40) (.t 41)),o 43 (.mv (.t 13)),o 44 (.bin .add (.t 42) (.t 43)),o 45 (.mv (.t 12)),o 46 (.bin .shr (.t 45) (.k (.int .u64 32))),o 47 (.bin .add (.t 44) (.t 46)),o 4 (.mv (.t 47))]) (.seq (.ops [o 48 (.mv (.t 0)),o 49 (.mv (.t 1)),o 50 (.bin .mul (.t 48) (.t 49)),o 5 (.mv (.t 50))]) (.ret))))))))))))⟩
def f_frac_Check_r:SC:=.seq (.seq (.ops [o 3 (.fad 1 (.t 1)),o 4 (.load false 1 (.t 3)),o 5 (.bin .lss (.t 4) (.k (.int .i64 1))),o 6 (.mv (.t 5)),og 7 6 false (.fad 1 (.t 1)),og 8 6 false (.load false 1 (.t 7)),og 9 6 false (.bin .gtr (.t 8) (.k (.int .i64 4611686018427387903))),o 10 (.pick (.t 6) (.k (.bool true)) (.t 9)),o 11 (.mv (.t 10)),og 12 11 false (.fad 0 (.t 1)),og 13 11 false (.load false 1 (.t 12)),og 14 11 false (.bin .lss (.t 13) (.k (.int .i64 (-4611686018427387903)))),o 15 (.pick (.t 11) (.k (.bool true)) (.t 14)),o 16 (.mv (.t 15)),og 17 16 false (.fad 0 (.t 1)),og 18 16 false (.load false 1 (.t 17)),og 19 16 false (.bin .gtr (.t 18) (.k (.int .i64 4611686018427387903))),o 20 (.pick (.t 16) (.k (.bool true)) (.t 19))]) (.cond (.t 20) (.seq (.ops [o 2 (.mv (.k (.int .i64 5)))]) (.ret)) (.skip))) (.seq (.seq (.quiet [o 21 (.fad 0 (.t 1)),o 22 (.load false 1 (.t 21)),o 23 (.call N.frac_size [.t 22]),o 24 (.fad 1 (.t 1)),o 25 (.load false 1 (.t 24)),o 26 (.conv .u64 (.t 25)),o 27 (.call N.frac_common [.t 23,.t 26]),o 28 (.bin .neq (.t 27) (.k (.int .u64 1)))]) (.cond (.t 28) (.seq (.ops [o 2 (.mv (.k (.int .i64 5)))]) (.ret)) (.skip))) (.seq (.ops [o 2 (.mv (.k (.int .i64 0)))]) (.ret)))
def f_frac_Check:SF:=⟨29,[.tm 2],.seq (.ops [o 1 (.box (.t 0)),o 2 (.mv (.k (.int .i64 0)))]) f_frac_Check_r⟩
def f_frac_bothapi_Q_1_r:SC:=.seq (.ops [o 4 (.load false 1 (.t 0)),o 5 (.load true 2 (.t 1)),o 6 (.load true 2 (.t 2)),o 7 (.dyn (.t 4) [.t 5,.t 6]),oz (.store 2 (.t 3) (.t 7))]) (.ret)
def f_frac_bothapi_Q_1:SF:=⟨8,[.cell true 2 3],.seq (.ops [o 3 (.alloc [.int .i64 0,.int .i64 0])]) f_frac_bothapi_Q_1_r⟩
def f_frac_times_r:SC:=.seq (.ops [o 8 (.mv (.t 0)),o 9 (.mv (.t 1)),o 10 (.call N.mathbits_Mul64 [.t 8,.t 9]),o 7 (.mv (.t 10)),o 11 (.ext (.t 7) 0),o 12 (.ext (.t 7) 1),o 5 (.mv (.t 11)),o 6 (.mv (.t 12))]) (.seq (.ops [o 13 (.mv (.t 5)),o 14 (.mv (.t 6)),o 15 (.build [.int .u64 0,.int .u64 0] [(0,1),(1,1)] [.t 13,.t 14]),oz (.store 2 (.t 4) (.t 15))]) (.ret))
def f_frac_times:SF:=⟨16,[.cell true 2 4],.seq (.ops [o 4 (.alloc [.int .u64 0,.int .u64 0])]) f_frac_times_r⟩
theorem eq_twin_Check:nFn C0 N.twin_Check=some f_twin_Check:=by kernel_rfl
theorem call_twin_Check (d:Nat)(xs:List AV)(g:G):callV C0 d N.twin_Check xs g=isoCall (I C0) d g N.twin_Check xs:=by kernel_rfl
theorem eq_ref33_Draft_Model:nFn C0 N.ref33_Draft_Model=some f_ref33_Draft_Model:=by kernel_rfl
theorem call_ref33_Draft_Model (d:Nat)(xs:List AV)(g:G):callV C0 d N.ref33_Draft_Model xs g=isoCall (I C0) d g N.ref33_Draft_Model xs:=by kernel_rfl
theorem eq_ref33_Known_Of:nFn C0 N.ref33_Known_Of=some f_ref33_Known_Of:=by kernel_rfl
theorem call_ref33_Known_Of (d:Nat)(xs:List AV)(g:G):callV C0 d N.ref33_Known_Of xs g=isoCall (I C0) d g N.ref33_Known_Of xs:=by kernel_rfl
theorem eq_twin_Effect:nFn C0 N.twin_Effect=some f_twin_Effect:=by kernel_rfl
theorem call_twin_Effect (d:Nat)(xs:List AV)(g:G):callV C0 d N.twin_Effect xs g=isoCall (I C0) d g N.twin_Effect xs:=by kernel_rfl
theorem eq_twin_Counter:nFn C0 N.twin_Counter=some f_twin_Counter:=by kernel_rfl
theorem foot_twin_Counter (t:T)(g:G)(xs:List Od):SO.foot C0 t g (.call N.twin_Counter xs)=rdLook ((gets t xs).flatMap (snapIds g.h depthA)):=by kernel_rfl
theorem call_twin_Counter (d:Nat)(xs:List AV)(g:G):callV C0 d N.twin_Counter xs g=isoCall (I C0) d g N.twin_Counter xs:=by kernel_rfl
theorem eq_law33_is:nFn C0 N.law33_is=some f_law33_is:=by kernel_rfl
theorem foot_law33_is (t:T)(g:G)(xs:List Od):SO.foot C0 t g (.call N.law33_is xs)=rdLook ((gets t xs).flatMap (snapIds g.h depthA)):=by kernel_rfl
theorem call_law33_is (d:Nat)(xs:List AV)(g:G):callV C0 d N.law33_is xs g=isoCall (I C0) d g N.law33_is xs:=by kernel_rfl
theorem eq_slices_Cloneintint:nFn C0 N.slices_Cloneintint=some f_slices_Cloneintint:=by kernel_rfl
theorem call_slices_Cloneintint (d:Nat)(xs:List AV)(g:G):callV C0 d N.slices_Cloneintint xs g=orF ((I C0).call d N.slices_Cloneintint xs g):=by kernel_rfl
theorem eq_frac_Mul:nFn C0 N.frac_Mul=some f_frac_Mul:=by kernel_rfl
theorem foot_frac_Mul (t:T)(g:G)(xs:List Od):SO.foot C0 t g (.call N.frac_Mul xs)=rdLook ((gets t xs).flatMap (snapIds g.h depthA)):=by kernel_rfl
theorem call_frac_Mul (d:Nat)(xs:List AV)(g:G):callV C0 d N.frac_Mul xs g=isoCall (I C0) d g N.frac_Mul xs:=by kernel_rfl
theorem eq_twin_within:nFn C0 N.twin_within=some f_twin_within:=by kernel_rfl
theorem call_twin_within (d:Nat)(xs:List AV)(g:G):callV C0 d N.twin_within xs g=isoCall (I C0) d g N.twin_within xs:=by kernel_rfl
theorem eq_twin_rootsRight:nFn C0 N.twin_rootsRight=some f_twin_rootsRight:=by kernel_rfl
theorem call_twin_rootsRight (d:Nat)(xs:List AV)(g:G):callV C0 d N.twin_rootsRight xs g=isoCall (I C0) d g N.twin_rootsRight xs:=by kernel_rfl
theorem eq_twin_nodesRight:nFn C0 N.twin_nodesRight=some f_twin_nodesRight:=by kernel_rfl
theorem call_twin_nodesRight (d:Nat)(xs:List AV)(g:G):callV C0 d N.twin_nodesRight xs g=isoCall (I C0) d g N.twin_nodesRight xs:=by kernel_rfl
theorem eq_twin_acyclic:nFn C0 N.twin_acyclic=some f_twin_acyclic:=by kernel_rfl
theorem call_twin_acyclic (d:Nat)(xs:List AV)(g:G):callV C0 d N.twin_acyclic xs g=isoCall (I C0) d g N.twin_acyclic xs:=by kernel_rfl
theorem eq_ref02_Draft_Permutation:nFn C0 N.ref02_Draft_Permutation=some f_ref02_Draft_Permutation:=by kernel_rfl
theorem foot_ref02_Draft_Permutation (t:T)(g:G)(xs:List Od):SO.foot C0 t g (.call N.ref02_Draft_Permutation xs)=rdLook ((gets t xs).flatMap (snapIds g.h depthA)):=by kernel_rfl
theorem call_ref02_Draft_Permutation (d:Nat)(xs:List AV)(g:G):callV C0 d N.ref02_Draft_Permutation xs g=isoCall (I C0) d g N.ref02_Draft_Permutation xs:=by kernel_rfl
theorem eq_ref33_listed:nFn C0 N.ref33_listed=some f_ref33_listed:=by kernel_rfl
theorem call_ref33_listed (d:Nat)(xs:List AV)(g:G):callV C0 d N.ref33_listed xs g=orF ((I C0).call d N.ref33_listed xs g):=by kernel_rfl
theorem eq_ref33_weights:nFn C0 N.ref33_weights=some f_ref33_weights:=by kernel_rfl
theorem foot_ref33_weights (t:T)(g:G)(xs:List Od):SO.foot C0 t g (.call N.ref33_weights xs)=rdLook ((gets t xs).flatMap (snapIds g.h depthA)):=by kernel_rfl
theorem call_ref33_weights (d:Nat)(xs:List AV)(g:G):callV C0 d N.ref33_weights xs g=isoCall (I C0) d g N.ref33_weights xs:=by kernel_rfl
theorem eq_ref33_numbers_next:nFn C0 N.ref33_numbers_next=some f_ref33_numbers_next:=by kernel_rfl
theorem foot_ref33_numbers_next (t:T)(g:G)(xs:List Od):SO.foot C0 t g (.call N.ref33_numbers_next xs)=bigLook:=by kernel_rfl
theorem call_ref33_numbers_next (d:Nat)(xs:List AV)(g:G):callV C0 d N.ref33_numbers_next xs g=orF ((I C0).call d N.ref33_numbers_next xs g):=by kernel_rfl
theorem eq_ref02_All:nFn C0 N.ref02_All=some f_ref02_All:=by kernel_rfl
theorem call_ref02_All (d:Nat)(xs:List AV)(g:G):callV C0 d N.ref02_All xs g=isoCall (I C0) d g N.ref02_All xs:=by kernel_rfl
theorem eq_ref33_sizes:nFn C0 N.ref33_sizes=some f_ref33_sizes:=by kernel_rfl
theorem call_ref33_sizes (d:Nat)(xs:List AV)(g:G):callV C0 d N.ref33_sizes xs g=isoCall (I C0) d g N.ref33_sizes xs:=by kernel_rfl
theorem eq_ref33_Lengths:nFn C0 N.ref33_Lengths=some f_ref33_Lengths:=by kernel_rfl
theorem foot_ref33_Lengths (t:T)(g:G)(xs:List Od):SO.foot C0 t g (.call N.ref33_Lengths xs)=rdLook ((gets t xs).flatMap (snapIds g.h depthA)):=by kernel_rfl
theorem call_ref33_Lengths (d:Nat)(xs:List AV)(g:G):callV C0 d N.ref33_Lengths xs g=isoCall (I C0) d g N.ref33_Lengths xs:=by kernel_rfl
theorem eq_twin_read:nFn C0 N.twin_read=some f_twin_read:=by kernel_rfl
theorem call_twin_read (d:Nat)(xs:List AV)(g:G):callV C0 d N.twin_read xs g=isoCall (I C0) d g N.twin_read xs:=by kernel_rfl
theorem eq_twin_known_worlds:nFn C0 N.twin_known_worlds=some f_twin_known_worlds:=by kernel_rfl
theorem call_twin_known_worlds (d:Nat)(xs:List AV)(g:G):callV C0 d N.twin_known_worlds xs g=isoCall (I C0) d g N.twin_known_worlds xs:=by kernel_rfl
theorem eq_twin_known_run:nFn C0 N.twin_known_run=some f_twin_known_run:=by kernel_rfl
theorem call_twin_known_run (d:Nat)(xs:List AV)(g:G):callV C0 d N.twin_known_run xs g=isoCall (I C0) d g N.twin_known_run xs:=by kernel_rfl
theorem eq_ref33_Cards:nFn C0 N.ref33_Cards=some f_ref33_Cards:=by kernel_rfl
theorem foot_ref33_Cards (t:T)(g:G)(xs:List Od):SO.foot C0 t g (.call N.ref33_Cards xs)=rdLook ((gets t xs).flatMap (snapIds g.h depthA)):=by kernel_rfl
theorem call_ref33_Cards (d:Nat)(xs:List AV)(g:G):callV C0 d N.ref33_Cards xs g=isoCall (I C0) d g N.ref33_Cards xs:=by kernel_rfl
theorem eq_ref02_At:nFn C0 N.ref02_At=some f_ref02_At:=by kernel_rfl
theorem foot_ref02_At (t:T)(g:G)(xs:List Od):SO.foot C0 t g (.call N.ref02_At xs)=bigLook:=by kernel_rfl
theorem call_ref02_At (d:Nat)(xs:List AV)(g:G):callV C0 d N.ref02_At xs g=orF ((I C0).call d N.ref02_At xs g):=by kernel_rfl
theorem eq_twin_matches:nFn C0 N.twin_matches=some f_twin_matches:=by kernel_rfl
theorem call_twin_matches (d:Nat)(xs:List AV)(g:G):callV C0 d N.twin_matches xs g=isoCall (I C0) d g N.twin_matches xs:=by kernel_rfl
theorem eq_frac_Make:nFn C0 N.frac_Make=some f_frac_Make:=by kernel_rfl
theorem call_frac_Make (d:Nat)(xs:List AV)(g:G):callV C0 d N.frac_Make xs g=isoCall (I C0) d g N.frac_Make xs:=by kernel_rfl
theorem eq_twin_known_free:nFn C0 N.twin_known_free=some f_twin_known_free:=by kernel_rfl
theorem call_twin_known_free (d:Nat)(xs:List AV)(g:G):callV C0 d N.twin_known_free xs g=isoCall (I C0) d g N.twin_known_free xs:=by kernel_rfl
theorem eq_twin_setOf:nFn C0 N.twin_setOf=some f_twin_setOf:=by kernel_rfl
theorem call_twin_setOf (d:Nat)(xs:List AV)(g:G):callV C0 d N.twin_setOf xs g=isoCall (I C0) d g N.twin_setOf xs:=by kernel_rfl
theorem eq_law33_is_1:nFn C0 N.law33_is_1=some f_law33_is_1:=by kernel_rfl
theorem eq_frac_bothapi_Q:nFn C0 N.frac_bothapi_Q=some f_frac_bothapi_Q:=by kernel_rfl
theorem call_frac_bothapi_Q (d:Nat)(xs:List AV)(g:G):callV C0 d N.frac_bothapi_Q xs g=isoCall (I C0) d g N.frac_bothapi_Q xs:=by kernel_rfl
theorem eq_frac_product:nFn C0 N.frac_product=some f_frac_product:=by kernel_rfl
theorem call_frac_product (d:Nat)(xs:List AV)(g:G):callV C0 d N.frac_product xs g=isoCall (I C0) d g N.frac_product xs:=by kernel_rfl
theorem eq_twin_increasing:nFn C0 N.twin_increasing=some f_twin_increasing:=by kernel_rfl
theorem call_twin_increasing (d:Nat)(xs:List AV)(g:G):callV C0 d N.twin_increasing xs g=isoCall (I C0) d g N.twin_increasing xs:=by kernel_rfl
theorem eq_twin_sizes:nFn C0 N.twin_sizes=some f_twin_sizes:=by kernel_rfl
theorem call_twin_sizes (d:Nat)(xs:List AV)(g:G):callV C0 d N.twin_sizes xs g=isoCall (I C0) d g N.twin_sizes xs:=by kernel_rfl
theorem eq_ref02_Draft_Cards:nFn C0 N.ref02_Draft_Cards=some f_ref02_Draft_Cards:=by kernel_rfl
theorem call_ref02_Draft_Cards (d:Nat)(xs:List AV)(g:G):callV C0 d N.ref02_Draft_Cards xs g=isoCall (I C0) d g N.ref02_Draft_Cards xs:=by kernel_rfl
theorem eq_ref02_Next:nFn C0 N.ref02_Next=some f_ref02_Next:=by kernel_rfl
theorem call_ref02_Next (d:Nat)(xs:List AV)(g:G):callV C0 d N.ref02_Next xs g=isoCall (I C0) d g N.ref02_Next xs:=by kernel_rfl
theorem eq_twin_known_worlds_1:nFn C0 N.twin_known_worlds_1=some f_twin_known_worlds_1:=by kernel_rfl
theorem eq_twin_known_run_1:nFn C0 N.twin_known_run_1=some f_twin_known_run_1:=by kernel_rfl
theorem eq_frac_Make_1:nFn C0 N.frac_Make_1=some f_frac_Make_1:=by kernel_rfl
theorem eq_frac_common:nFn C0 N.frac_common=some f_frac_common:=by kernel_rfl
theorem call_frac_common (d:Nat)(xs:List AV)(g:G):callV C0 d N.frac_common xs g=isoCall (I C0) d g N.frac_common xs:=by kernel_rfl
theorem eq_frac_size:nFn C0 N.frac_size=some f_frac_size:=by kernel_rfl
theorem foot_frac_size (t:T)(g:G)(xs:List Od):SO.foot C0 t g (.call N.frac_size xs)=rdLook ((gets t xs).flatMap (snapIds g.h depthA)):=by kernel_rfl
theorem call_frac_size (d:Nat)(xs:List AV)(g:G):callV C0 d N.frac_size xs g=isoCall (I C0) d g N.frac_size xs:=by kernel_rfl
theorem eq_mathbits_Mul64:nFn C0 N.mathbits_Mul64=some f_mathbits_Mul64:=by kernel_rfl
theorem call_mathbits_Mul64 (d:Nat)(xs:List AV)(g:G):callV C0 d N.mathbits_Mul64 xs g=isoCall (I C0) d g N.mathbits_Mul64 xs:=by kernel_rfl
theorem eq_frac_Check:nFn C0 N.frac_Check=some f_frac_Check:=by kernel_rfl
theorem call_frac_Check (d:Nat)(xs:List AV)(g:G):callV C0 d N.frac_Check xs g=isoCall (I C0) d g N.frac_Check xs:=by kernel_rfl
theorem eq_frac_bothapi_Q_1:nFn C0 N.frac_bothapi_Q_1=some f_frac_bothapi_Q_1:=by kernel_rfl
theorem eq_frac_times:nFn C0 N.frac_times=some f_frac_times:=by kernel_rfl
theorem foot_frac_times (t:T)(g:G)(xs:List Od):SO.foot C0 t g (.call N.frac_times xs)=rdLook ((gets t xs).flatMap (snapIds g.h depthA)):=by kernel_rfl
theorem call_frac_times (d:Nat)(xs:List AV)(g:G):callV C0 d N.frac_times xs g=isoCall (I C0) d g N.frac_times xs:=by kernel_rfl
end
end Hx
end
section
namespace Hx
open Go
set_option maxRecDepth 100000
noncomputable section
def f_frac_guardapi_Q_r:SC:=.seq (.ops [o 4 (.mkf N.frac_guardapi_Q_1 [] [.t 2,.t 3]),oz (.raw (.defer ⟨.value (.tmp 4),#[],#[]⟩))]) (.seq (.ops [o 5 (.mv (.t 0)),o 6 (.dyn (.t 5) []),oz (.store 2 (.t 2) (.t 6)),oz (.store 1 (.t 3) (.k (.int .i64 0)))]) (.ret))
def f_frac_guardapi_Q:SF:=⟨7,[.cell true 2 2,.cell false 1 3],.seq (.ops [o 2 (.alloc [.int .i64 0,.int .i64 0]),o 3 (.alloc [.int .i64 0])]) f_frac_guardapi_Q_r⟩
def f_frac_guardapi_Q_1:SF:=⟨6,[],.seq (.ops [o 3 (.raw (.call ⟨.builtin .recover,#[],#[]⟩)),o 4 (.eq true (.iface true) (.t 3) (.k (.nili)))]) (.cond (.t 4) (.seq (.ops [o 2 (.alloc [.int .i64 0,.int .i64 0])]) (.ops [o 5 (.load true 2 (.t 2)),oz (.store 2 (.t 0) (.t 5)),oz (.store 1 (.t 1) (.k (.int .i64 6)))])) (.skip))⟩
def f_frac_fit_k0:SC:=.seq (.seq (.ops [o 27 (.mv (.t 0))]) (.cond (.t 27) (.seq (.ops [o 28 (.ixa 2 1 (.t 4) (.k (.int .i64 1))),o 29 (.load false 1 (.t 28)),o 30 (.conv .i64 (.t 29)),o 31 (.un .neg (.t 30)),o 32 (.ixa 2 1 (.t 5) (.k (.int .i64 1))),o 33 (.load false 1 (.t 32)),o 34 (.conv .i64 (.t 33)),o 35 (.build [.int .i64 0,.int .i64 0] [(0,1),(1,1)] [.t 31,.t 34]),oz (.store 2 (.t 6) (.t 35))]) (.ret)) (.skip))) (.seq (.ops [o 36 (.ixa 2 1 (.t 4) (.k (.int .i64 1))),o 37 (.load false 1 (.t 36)),o 38 (.conv .i64 (.t 37)),o 39 (.ixa 2 1 (.t 5) (.k (.int .i64 1))),o 40 (.load false 1 (.t 39)),o 41 (.conv .i64 (.t 40)),o 42 (.build [.int .i64 0,.int .i64 0] [(0,1),(1,1)] [.t 38,.t 41]),oz (.store 2 (.t 6) (.t 42))]) (.ret))
def f_frac_fit_r:SC:=.seq (.seq (.ops [o 7 (.ixa 2 1 (.t 4) (.k (.int .i64 0))),o 8 (.load false 1 (.t 7)),o 9 (.bin .neq (.t 8) (.k (.int .u64 0))),o 10 (.mv (.t 9)),og 11 10 false (.ixa 2 1 (.t 4) (.k (.int .i64 1))),og 12 10 false (.load false 1 (.t 11)),og 13 10 false (.bin .gtr (.t 12) (.k (.int .u64 4611686018427387903))),o 14 (.pick (.t 10) (.k (.bool true)) (.t 13)),o 15 (.mv (.t 14)),og 16 15 false (.ixa 2 1 (.t 5) (.k (.int .i64 0))),og 17 15 false (.load false 1 (.t 16)),og 18 15 false (.bin .neq (.t 17) (.k (.int .u64 0))),o 19 (.pick (.t 15) (.k (.bool true)) (.t 18)),o 20 (.mv (.t 19)),og 21 20 false (.ixa 2 1 (.t 5) (.k (.int .i64 1))),og 22 20 false (.load false 1 (.t 21)),og 23 20 false (.bin .gtr (.t 22) (.k (.int .u64 4611686018427387903))),o 24 (.pick (.t 20) (.k (.bool true)) (.t 23))]) (.cond (.t 24) (.ops [o 25 (.build [] [] []),o 26 (.raw (.makeInterface 183 (.tmp 25))),oz (.raw (.panic (.tmp 26)))]) (.skip))) f_frac_fit_k0
def f_frac_fit:SF:=⟨43,[.cell true 2 6],.seq (.ops [o 4 (.box (.t 1)),o 5 (.box (.t 2)),o 6 (.alloc [.int .i64 0,.int .i64 0])]) f_frac_fit_r⟩
theorem eq_frac_guardapi_Q:nFn C0 N.frac_guardapi_Q=some f_frac_guardapi_Q:=by kernel_rfl
theorem call_frac_guardapi_Q (d:Nat)(xs:List AV)(g:G):callV C0 d N.frac_guardapi_Q xs g=isoCall (I C0) d g N.frac_guardapi_Q xs:=by kernel_rfl
theorem eq_frac_guardapi_Q_1:nFn C0 N.frac_guardapi_Q_1=some f_frac_guardapi_Q_1:=by kernel_rfl
theorem eq_frac_fit:nFn C0 N.frac_fit=some f_frac_fit:=by kernel_rfl
theorem foot_frac_fit (t:T)(g:G)(xs:List Od):SO.foot C0 t g (.call N.frac_fit xs)=rdLook ((gets t xs).flatMap (snapIds g.h depthA)):=by kernel_rfl
theorem call_frac_fit (d:Nat)(xs:List AV)(g:G):callV C0 d N.frac_fit xs g=isoCall (I C0) d g N.frac_fit xs:=by kernel_rfl
end
end Hx
end
section
namespace Hx
open Go
noncomputable section
def kR (J:PT)(b:Nat)(Q:QT):QT:=fun e t df g=>match e with
 | .norm=>J t df g
 | .exit x=>if x=b then J t df g else Q (.exit x) t df g
 | .ret=>Q .ret t df g
theorem kR_norm (J:PT)(b:Nat)(Q:QT)(t:T)(df:List ADf)(g:G):kR J b Q .norm t df g=J t df g:=rfl
theorem kR_exit (J:PT)(b x:Nat)(Q:QT)(t:T)(df:List ADf)(g:G):kR J b Q (.exit x) t df g=if x=b then J t df g else Q (.exit x) t df g:=rfl
theorem kR_ret (J:PT)(b:Nat)(Q:QT)(t:T)(df:List ADf)(g:G):kR J b Q .ret t df g=Q .ret t df g:=rfl
variable {C:Cfg}{d:Nat}{rd:Option Nat}
theorem wp_mono:∀(s:SC){Q Q':QT}{t:T}{df:List ADf}{g:G},wp C d rd s Q t df g→(∀e t df g,Q e t df g→Q' e t df g)→wp C d rd s Q' t df g:=by
 have hO:∀(l:List SI) {Q Q':PT} {t:T} {df:List ADf} {g:G},wpO C d rd l Q t df g→(∀t df g,Q t df g→Q' t df g)→wpO C d rd l Q' t df g:=by
  intro l
  induction l with
  | nil=>intro Q Q' t df g h hq;exact hq _ _ _ h
  | cons i r ih =>
   intro Q Q' t df g h hq
   have run:∀t df g,runP C d rd i (wpO C d rd r Q) t df g→runP C d rd i (wpO C d rd r Q') t df g:=fun t df g h =>
    OR.sat_mono h (fun v g' h=>ih h hq) (fun a h=>ih h hq)
   have skp:∀t df g,skipP i (wpO C d rd r Q) t df g→skipP i (wpO C d rd r Q') t df g:=fun t df g h=>ih h hq
   unfold wpO at h ⊢
   split at h
   ·exact run _ _ _ h
   ·rename_i s w hg
    unfold gdP at h ⊢
    split at h
    ·rw[bif'_eq] at h ⊢
     split at h
     ·rename_i hw;rw[if_pos hw];exact ⟨fun q=>run _ _ _ (h.1 q),fun q=>skp _ _ _ (h.2 q)⟩
     ·rename_i hw;rw[if_neg hw];exact ⟨fun q=>skp _ _ _ (h.1 q),fun q=>run _ _ _ (h.2 q)⟩
    ·exact skp _ _ _ h
    ·exact h
 have hF:∀(pm:List Nat) (l:List SI) {Q Q':PT} {t:T} {df:List ADf} {g:G} {fs:List Foot},wpF C d rd pm l Q t df g fs→(∀t df g,Q t df g→Q' t df g)→wpF C d rd pm l Q' t df g fs:=by
  intro pm l
  induction l with
  | nil=>intro Q Q' t df g fs h hq;exact ⟨h.1,hq _ _ _ h.2⟩
  | cons i r ih =>
   intro Q Q' t df g fs h hq
   have run:∀t df g,runF C d rd i (wpF C d rd pm r Q) fs t df g→runF C d rd i (wpF C d rd pm r Q') fs t df g:=fun t df g h =>
    OR.sat_mono h (fun v g' h=>ih h hq) (fun a h=>h)
   have skp:∀t df g,skipF i (wpF C d rd pm r Q) fs t df g→skipF i (wpF C d rd pm r Q') fs t df g:=fun t df g h=>ih h hq
   unfold wpF at h ⊢
   split at h
   ·exact run _ _ _ h
   ·rename_i s w hg
    unfold gdP at h ⊢
    split at h
    ·rw[bif'_eq] at h ⊢
     split at h
     ·rename_i hw;rw[if_pos hw];exact ⟨fun q=>run _ _ _ (h.1 q),fun q=>skp _ _ _ (h.2 q)⟩
     ·rename_i hw;rw[if_neg hw];exact ⟨fun q=>skp _ _ _ (h.1 q),fun q=>run _ _ _ (h.2 q)⟩
    ·exact skp _ _ _ h
    ·exact h
 intro s
 induction s with
 | skip=>intro Q Q' t df g h hq;exact hq _ _ _ _ h
 | ops l=>intro Q Q' t df g h hq;exact hO l h (hq _)
 | quiet l=>intro Q Q' t df g h hq;exact hO l h (fun t df g' h=>⟨h.1,h.2.1,hq _ _ _ _ h.2.2⟩)
 | feet pm l=>intro Q Q' t df g h hq;exact hF pm l h (hq _)
 | seq a b iha ihb =>
  intro Q Q' t df g h hq
  refine iha h fun e t df g h=>?_
  cases e with
  | norm=>exact ihb h hq
  | exit x=>exact hq _ _ _ _ h
  | ret=>exact hq _ _ _ _ h
 | cond c a b iha ihb =>
  intro Q Q' t df g h hq
  have h:wpC (c.get t) (wp C d rd a Q) (wp C d rd b Q) t df g:=h
  show wpC (c.get t) (wp C d rd a Q') (wp C d rd b Q') t df g
  unfold wpC at h ⊢
  split at h
  ·exact ⟨fun q=>iha (h.1 q) hq,fun q=>ihb (h.2 q) hq⟩
  ·exact h
 | blk id b ih =>
  intro Q Q' t df g h hq
  refine ih h fun e t df g h=>?_
  cases e with
  | norm=>exact hq _ _ _ _ h
  | exit x =>
   rw[kB_exit] at h ⊢
   split at h
   ·rename_i e;rw[if_pos e];exact hq _ _ _ _ h
   ·rename_i e;rw[if_neg e];exact hq _ _ _ _ h
  | ret=>exact hq _ _ _ _ h
 | loop b ih =>
  intro Q Q' t df g h hq
  obtain ⟨Inv,hk,hs⟩:=h
  refine ⟨Inv,hk,fun k t df g hi=>ih (hs k t df g hi) fun e t df g h=>?_⟩
  cases e with
  | norm=>exact h
  | exit x=>exact hq _ _ _ _ h
  | ret=>exact hq _ _ _ _ h
 | exit id=>intro Q Q' t df g h hq;exact hq _ _ _ _ h
 | ret=>intro Q Q' t df g h hq;exact hq _ _ _ _ h
 | rng nt f ps a b _ _=>intro Q Q' t df g h hq assign body ha hb;exact CR.sat_mono (h assign body ha hb) hq
 | raw nt c=>intro Q Q' t df g h hq;exact CR.sat_mono h hq
theorem wpL_range {body:SC}{c ti tn k B b:Nat}{Q:QT}{m:Nat}(hm:m<9223372036854775808)(J:Nat→PT){t:T}{df:List ADf}{g:G}
  (h0:J 0 t df g) (hi:tat t ti=.int .i64 0) (hn:tat t tn=.int .i64 (m:Int)) (hc:c≠ti∧c≠tn∧k≠tn∧ti≠tn∧b≠B)
  (hJ:∀j t df g v s,s=c∨s=ti∨s=k→J j t df g→J j (tset t s v) df g)
  (step:∀j t df g,j<m→J j t df g→tat t ti=.int .i64 (j:Int)→tat t tn=.int .i64 (m:Int) →
   wp C d rd body (kR (fun t df g=>J (j+1) t df g∧tat t ti=.int .i64 (j:Int)∧tat t tn=.int .i64 (m:Int)) b Q) t df g)
  (fin:∀t df g,J m t df g→Q (.exit B) t df g) :
  wpL (wp C d rd (.seq (.ops [o c (.bin .lss (.t ti) (.t tn))]) (.seq (.cond (.t c) .skip (.exit B)) (.seq (.blk b body) (.ops [o k (.bin .add (.t ti) (.k (.int .i64 1))),o ti (.mv (.t k))]))))) Q t df g:=by
 obtain ⟨c1,c2,c3,c4,c5⟩:=hc
 refine wpL_mk (fun n t df g=>∃j:Nat,n=m - j∧j≤m∧J j t df g∧tat t ti=.int .i64 (j:Int)∧tat t tn=.int .i64 (m:Int)) m ⟨0,by omega,by omega,h0,hi,hn⟩ ?_
 rintro n t df g ⟨j,rfl,hj,hjj,h1,h2⟩
 simp only[sx,SO.run,↓reduceIte,h1,h2]
 refine ⟨fun hq=>?_,fun hq=>?_⟩
 ·have hlt:j<m:=by simpa using hq
  simp only[sx]
  refine wp_mono _ (step j _ df g hlt (hJ _ _ _ _ _ _ (.inl rfl) hjj) (by simp only[tat_tset];rw[if_neg (Ne.symm c1),h1]) (by simp only[tat_tset];rw[if_neg (Ne.symm c2),h2])) fun e t df g h=>?_
  have key:J (j+1) t df g∧tat t ti=.int .i64 (j:Int)∧tat t tn=.int .i64 (m:Int)→wp C d rd (.ops [o k (.bin .add (.t ti) (.k (.int .i64 1))),o ti (.mv (.t k))])
    (kL (fun n t df g=>∃j:Nat,n=m - j∧j≤m∧J j t df g∧tat t ti=.int .i64 (j:Int)∧tat t tn=.int .i64 (m:Int)) (m - j) Q) t df g:=by
   rintro ⟨a1,a2,a3⟩
   simp only[sx,SO.run,a2,↓reduceIte]
   refine ⟨_,?_,j+1,rfl,by omega,hJ _ _ _ _ _ _ (.inr (.inl rfl)) (hJ _ _ _ _ _ _ (.inr (.inr rfl)) a1),?_,?_⟩
   ·omega
   ·rw[wrap64 (by omega) (by omega)];rfl
   ·rw[if_neg (Ne.symm c4),if_neg (Ne.symm c3),a3]
  cases e with
  | norm=>exact key h
  | ret=>exact h
  | exit x =>
   rw[kR_exit] at h
   rw[kB_exit]
   split at h
   ·rename_i e;rw[if_pos e];exact key h
   ·rename_i e;rw[if_neg e];exact h
 ·have:j=m:=by simp at hq;omega
  subst this
  simp only[sx]
  exact fin _ _ _ (hJ _ _ _ _ _ _ (.inl rfl) hjj)
theorem wpL_for {Hd body inc:SC}{c B b:Nat}{Q:QT}{m:Nat}(J:Nat→PT){t:T}{df:List ADf}{g:G}(h0:J 0 t df g)
  (hd:∀j t df g,j≤m→J j t df g→wp C d rd Hd (fun e t df g=>e=.norm∧tat t c=.bool (decide (j<m))∧J j t df g) t df g)
  (step:∀j t df g,j<m→J j t df g→wp C d rd body (kR (fun t df g=>wp C d rd inc (fun e t df g=>e=.norm∧J (j+1) t df g) t df g) b Q) t df g)
  (fin:∀t df g,J m t df g→Q (.exit B) t df g) :
  wpL (wp C d rd (.seq (.seq Hd (.cond (.t c) .skip (.exit B))) (.seq (.blk b body) inc))) Q t df g:=by
 refine wpL_mk (fun n t df g=>∃j:Nat,n=m - j∧j≤m∧J j t df g) m ⟨0,by omega,by omega,h0⟩ ?_
 rintro n t df g ⟨j,rfl,hj,hjj⟩
 simp only[wp_seq]
 refine wp_mono _ (hd j t df g hj hjj) ?_
 rintro e t df g ⟨rfl,hq,hjj⟩
 simp only[sx,hq]
 refine ⟨fun hq=>?_,fun hq=>?_⟩
 ·have hlt:j<m:=by simpa using hq
  simp only[sx]
  refine wp_mono _ (step j t df g hlt hjj) fun e t df g h=>?_
  have key:wp C d rd inc (fun e t df g=>e=.norm∧J (j+1) t df g) t df g→wp C d rd inc (kL (fun n t df g=>∃j:Nat,n=m - j∧j≤m∧J j t df g) (m - j) Q) t df g:=by
   intro h
   refine wp_mono _ h ?_
   rintro e t df g ⟨rfl,h⟩
   exact ⟨_,by omega,j+1,rfl,by omega,h⟩
  cases e with
  | norm=>exact key h
  | ret=>exact h
  | exit x =>
   rw[kR_exit] at h
   rw[kB_exit]
   split at h
   ·rename_i e;rw[if_pos e];exact key h
   ·rename_i e;rw[if_neg e];exact h
 ·have:j=m:=by simp at hq;omega
  subst this
  simp only[sx]
  exact fin _ _ _ hjj
theorem wpL_len {body:SC}{a b' e c ti sl x y B b:Nat}{Q:QT}{v:AV}{m:Nat}(hm:m<9223372036854775808)(hlen:∀g,lenF .slice v g=.val (.int .i64 (m:Int)))(J:Nat→PT){t:T}{df:List ADf}{g:G}
  (h0:J 0 t df g) (hi:tat t ti=.int .i64 0) (hs:tat t sl=v)
  (hc:(a≠ti∧b'≠ti∧e≠ti∧c≠ti)∧(a≠sl∧b'≠sl∧e≠sl∧c≠sl∧x≠sl∧y≠sl∧ti≠sl)∧a≠b'∧a≠e∧x≠y)
  (hJ:∀j t df g v s,s=a∨s=b'∨s=e∨s=c∨s=ti∨s=x∨s=y→J j t df g→J j (tset t s v) df g)
  (step:∀j t df g,j<m→J j t df g→tat t ti=.int .i64 (j:Int)→tat t sl=v →
   wp C d rd body (kR (fun t df g=>J (j+1) t df g∧tat t ti=.int .i64 (j:Int)∧tat t sl=v) b Q) t df g)
  (fin:∀t df g,J m t df g→tat t sl=v→Q (.exit B) t df g) :
  wpL (wp C d rd (.seq (.seq (.ops [o a (.mv (.t ti)),o b' (.mv (.t sl)),o e (.len .slice (.t b')),o c (.bin .lss (.t a) (.t e))]) (.cond (.t c) .skip (.exit B))) (.seq (.blk b body)
   (.ops [o x (.mv (.t ti)),o y (.bin .add (.t x) (.k (.int .i64 1))),o ti (.mv (.t y))])))) Q t df g:=by
 obtain ⟨⟨q1,q2,q3,q4⟩,⟨r1,r2,r3,r4,r5,r6,r7⟩,p1,p2,p3⟩:=hc
 refine wpL_for (m:=m) (fun j t df g=>J j t df g∧tat t ti=.int .i64 (j:Int)∧tat t sl=v) ⟨h0,hi,hs⟩ ?_ ?_ (fun t df g h=>fin t df g h.1 h.2.2)
 ·rintro j t df g hj ⟨h1,h2,h3⟩
  simp only[sx,SO.run,h2,h3,hlen,p1,p2,Ne.symm r1,Ne.symm p1,↓reduceIte,q1,q2,q3,q4,Ne.symm q1,Ne.symm q2,Ne.symm q3,Ne.symm q4,Ne.symm r2,Ne.symm r3,Ne.symm r4,true_and,and_true]
  refine ⟨by congr 1;simp,hJ _ _ _ _ _ _ (.inr (.inr (.inr (.inl rfl)))) (hJ _ _ _ _ _ _ (.inr (.inr (.inl rfl))) (hJ _ _ _ _ _ _ (.inr (.inl rfl)) (hJ _ _ _ _ _ _ (.inl rfl) h1)))⟩
 ·rintro j t df g hj ⟨h1,h2,h3⟩
  refine wp_mono _ (step j t df g hj h1 h2 h3) fun e t df g h=>?_
  have key:J (j+1) t df g∧tat t ti=.int .i64 (j:Int)∧tat t sl=v→wp C d rd (.ops [o x (.mv (.t ti)),o y (.bin .add (.t x) (.k (.int .i64 1))),o ti (.mv (.t y))])
    (fun e t df g=>e=.norm∧J (j+1) t df g∧tat t ti=.int .i64 ((j+1:Nat):Int)∧tat t sl=v) t df g:=by
   rintro ⟨h1,h2,h3⟩
   simp only[sx,SO.run,h2,↓reduceIte,Ne.symm r5,Ne.symm r6,Ne.symm r7,h3,true_and,and_true]
   refine ⟨hJ _ _ _ _ _ _ (.inr (.inr (.inr (.inr (.inl rfl))))) (hJ _ _ _ _ _ _ (.inr (.inr (.inr (.inr (.inr (.inr rfl)))))) (hJ _ _ _ _ _ _ (.inr (.inr (.inr (.inr (.inr (.inl rfl)))))) h1)),?_⟩
   rw[wrap64 (by omega) (by omega)];rfl
  cases e with
  | norm=>exact key h
  | ret=>exact h
  | exit x =>
   rw[kR_exit] at h ⊢
   split at h
   ·rename_i e;rw[if_pos e];exact key h
   ·rename_i e;rw[if_neg e];exact h
theorem wpL_down {body:SC}{a c ti x y B b:Nat}{Q:QT}{m:Nat}(hm:m<9223372036854775808)(J:Nat→PT){t:T}{df:List ADf}{g:G}
  (h0:J m t df g) (hi:tat t ti=.int .i64 ((m:Int) - 1)) (hc:a≠ti∧c≠ti∧x≠ti)
  (hJ:∀j t df g v s,s=a∨s=c∨s=ti∨s=x∨s=y→J j t df g→J j (tset t s v) df g)
  (step:∀j t df g,j<m→J (j+1) t df g→tat t ti=.int .i64 (j:Int)→wp C d rd body (kR (fun t df g=>J j t df g∧tat t ti=.int .i64 (j:Int)) b Q) t df g)
  (fin:∀t df g,J 0 t df g→Q (.exit B) t df g) :
  wpL (wp C d rd (.seq (.seq (.ops [o a (.mv (.t ti)),o c (.bin .geq (.t a) (.k (.int .i64 0)))]) (.cond (.t c) .skip (.exit B))) (.seq (.blk b body)
   (.ops [o x (.mv (.t ti)),o y (.bin .sub (.t x) (.k (.int .i64 1))),o ti (.mv (.t y))])))) Q t df g:=by
 obtain ⟨c1,c2,c3⟩:=hc
 refine wpL_mk (fun n t df g=>n≤m∧J n t df g∧tat t ti=.int .i64 ((n:Int) - 1)) m ⟨Nat.le_refl _,h0,hi⟩ ?_
 rintro n t df g ⟨hn,hj,h1⟩
 simp only[sx,SO.run,↓reduceIte,h1]
 refine ⟨fun hq=>?_,fun hq=>?_⟩
 ·obtain ⟨j,rfl⟩:∃j,n=j+1:=⟨n - 1,by simp at hq;omega⟩
  simp only[sx]
  refine wp_mono _ (step j _ df g (by omega) (hJ _ _ _ _ _ _ (.inr (.inl rfl)) (hJ _ _ _ _ _ _ (.inl rfl) hj)) (by simp only[tat_tset];rw[if_neg (Ne.symm c2),if_neg (Ne.symm c1),h1];congr 1;omega)) fun e t df g h=>?_
  have key:J j t df g∧tat t ti=.int .i64 (j:Int)→wp C d rd (.ops [o x (.mv (.t ti)),o y (.bin .sub (.t x) (.k (.int .i64 1))),o ti (.mv (.t y))])
    (kL (fun n t df g=>n≤m∧J n t df g∧tat t ti=.int .i64 ((n:Int) - 1)) (j+1) Q) t df g:=by
   rintro ⟨a1,a2⟩
   simp only[sx,SO.run,a2,↓reduceIte]
   refine ⟨j,by omega,by omega,hJ _ _ _ _ _ _ (.inr (.inr (.inl rfl))) (hJ _ _ _ _ _ _ (.inr (.inr (.inr (.inr rfl)))) (hJ _ _ _ _ _ _ (.inr (.inr (.inr (.inl rfl)))) a1)),?_⟩
   rw[wrap64 (by omega) (by omega)]
  cases e with
  | norm=>exact key h
  | ret=>exact h
  | exit x =>
   rw[kR_exit] at h
   rw[kB_exit]
   split at h
   ·rename_i e;rw[if_pos e];exact key h
   ·rename_i e;rw[if_neg e];exact h
 ·have:n=0:=by simp at hq;omega
  subst this
  simp only[sx]
  exact fin _ _ _ (hJ _ _ _ _ _ _ (.inr (.inl rfl)) (hJ _ _ _ _ _ _ (.inl rfl) hj))
theorem wpL_cnt {Hd:List SI}{body:SC}{c ti x y B b:Nat}{Q:QT}(m:Nat)(hm:m<9223372036854775808)(J:Nat→PT){t:T}{df:List ADf}{g:G}
  (h0:J 0 t df g) (hi:tat t ti=.int .i64 0) (hx:x≠ti)
  (hJ:∀j t df g v s,s=ti∨s=x∨s=y→J j t df g→J j (tset t s v) df g)
  (hd:∀j t df g,j≤m→J j t df g→tat t ti=.int .i64 (j:Int)→wpO C d rd Hd (fun t df g=>tat t c=.bool (decide ((j:Int)<(m:Int)))∧J j t df g∧tat t ti=.int .i64 (j:Int)) t df g)
  (step:∀j t df g,j<m→J j t df g→tat t ti=.int .i64 (j:Int)→wp C d rd body (kR (fun t df g=>J (j+1) t df g∧tat t ti=.int .i64 (j:Int)) b Q) t df g)
  (fin:∀t df g,J m t df g→Q (.exit B) t df g) :
  wpL (wp C d rd (.seq (.seq (.ops Hd) (.cond (.t c) .skip (.exit B))) (.seq (.blk b body)
   (.ops [o x (.mv (.t ti)),o y (.bin .add (.t x) (.k (.int .i64 1))),o ti (.mv (.t y))])))) Q t df g:=by
 refine wpL_for (m:=m) (fun j t df g=>J j t df g∧tat t ti=.int .i64 (j:Int)) ⟨h0,hi⟩ ?_ ?_ (fun t df g h=>fin t df g h.1)
 ·rintro j t df g hj ⟨h1,h2⟩
  have:=hd j t df g hj h1 h2
  refine wp_mono (.ops Hd) (Q:=fun e t df g=>e=.norm∧tat t c=.bool (decide ((j:Int)<(m:Int)))∧J j t df g∧tat t ti=.int .i64 (j:Int)) (by rw[wp_ops];simpa using this) ?_
  rintro e t df g ⟨rfl,a1,a2,a3⟩
  refine ⟨rfl,?_,a2,a3⟩
  rw[a1];congr 1;simp
 ·rintro j t df g hj ⟨h1,h2⟩
  refine wp_mono _ (step j t df g hj h1 h2) fun e t df g h=>?_
  have key:J (j+1) t df g∧tat t ti=.int .i64 (j:Int)→wp C d rd (.ops [o x (.mv (.t ti)),o y (.bin .add (.t x) (.k (.int .i64 1))),o ti (.mv (.t y))])
    (fun e t df g=>e=.norm∧J (j+1) t df g∧tat t ti=.int .i64 ((j+1:Nat):Int)) t df g:=by
   rintro ⟨h1,h2⟩
   simp only[sx,SO.run,h2,↓reduceIte,true_and]
   refine ⟨hJ _ _ _ _ _ _ (.inl rfl) (hJ _ _ _ _ _ _ (.inr (.inr rfl)) (hJ _ _ _ _ _ _ (.inr (.inl rfl)) h1)),?_⟩
   rw[wrap64 (by omega) (by omega)];rfl
  cases e with
  | norm=>exact key h
  | ret=>exact h
  | exit x =>
   rw[kR_exit] at h ⊢
   split at h
   ·rename_i e;rw[if_pos e];exact key h
   ·rename_i e;rw[if_neg e];exact h
end
end Hx
end
