/- A part of the proof. -/
import Derived.KernelRfl
import Derived.Test.YtikpmbiklokdiaaGreatHx8
set_option linter.all false
set_option maxRecDepth 20000
set_option maxHeartbeats 8000000
namespace Hx
open Go
noncomputable section
variable {v:AV}
end
end Hx
section
namespace Go.Proofs.YtikpmbiklokdiaaGreat.Gen
open Hx
noncomputable def t69:=J3 3 Tab.D3.VI (J3 4 Tab.D4.VI (Qr q0 20000 69))
theorem e69:Zm q0 69 t69:=Es R7 Tab.D3.XS (Es R7 Tab.D4.XS (D_ R7))
noncomputable def t78:=J3 3 Tab.D3.XT (J3 4 Tab.D4.XT (Qr q0 20000 78))
theorem e78:Zm q0 78 t78:=Es R7 Tab.D3.VJ (Es R7 Tab.D4.VJ (D_ R7))
noncomputable def q1:ZO:=q0.add 69 t69
theorem q1Ok:ZK q1:=R7.add e69
noncomputable def q2:ZO:=q1.add 78 t78
theorem T7:ZK q2:=q1Ok.add (Zm.XR (C:=q0) (C':=q1) rfl rfl e78)
noncomputable def p1:ZO:=q2.add 11 (SU q2 1000 1000 11)
theorem p1Ok:ZK p1:=T7.add (Ea T7)
noncomputable def p2:ZO:=p1.add 13 (SU q2 1000 1000 13)
theorem p2Ok:ZK p2:=p1Ok.add (Zm.XR (C:=q2) (C':=p1) rfl rfl (Ea T7))
noncomputable def p3:ZO:=p2.add 15 (SU q2 1000 1000 15)
theorem p3Ok:ZK p3:=p2Ok.add (Zm.XR (C:=q2) (C':=p2) rfl rfl (Ea T7))
noncomputable def p4:ZO:=p3.add 19 (SU q2 1000 1000 19)
theorem p4Ok:ZK p4:=p3Ok.add (Zm.XR (C:=q2) (C':=p3) rfl rfl (Ea T7))
theorem PV:af (Qu p4 20000) 1 G.empty 18 []=.val (.bool true):=by kernel_rfl
noncomputable def XL:ZO:=XR.add 18 (E7 (.bool true))
theorem MU:ZK XL:=Sg.add (Zm.XR (C:=p4) (C':=XR) rfl rfl (PO p4Ok PV))
end Go.Proofs.YtikpmbiklokdiaaGreat.Gen
end
namespace Hx
open Go
noncomputable section
variable {v:AV}
@[match_pattern,reducible] def Z_(x:Int):AV:=.int .i64 x
@[match_pattern,reducible] def ZZ(i:Nat):AV:=.ZD i 0 0 0
@[match_pattern,reducible] def ZW(x:Int):AV:=.int .u64 x
@[reducible] def afB (d:Nat)(p:BinOp)(a b:Nat):SI:=o d (.bin p (.t a) (.t b))
@[reducible] def RW (d:Nat)(p:BinOp)(a:Nat)(z:Int):SI:=o d (.bin p (.t a) (qI z))
@[reducible] def afD (d n a:Nat):SI:=o d (.load true n (.t a))
@[reducible] def Vz (d a i:Nat):SI:=o d (.ext (.t a) i)
@[reducible] def Xr (n a b:Nat):SI:=oz (.store n (.t a) (.t b))
@[reducible] def U3 (d a:Nat):SI:=o d (.SX (.t a))
@[reducible] def afH (d a b:Nat):SI:=o d (.pick (.t a) (.k (.bool true)) (.t b))
@[reducible] def afI (d a b:Nat):SI:=o d (.pick (.t a) (.t b) (.k (.bool false)))
@[reducible] def YI (d n a b:Nat):SI:=o d (.SG n (.t a) (.t b))
@[reducible] def afK (d s:Nat)(w:Bool)(a:Nat):SI:=og d s w (.mv (.t a))
@[reducible] def afL (d s:Nat)(w:Bool)(a:Nat):SI:=og d s w (.load false 1 (.t a))
@[reducible] def afM (d s:Nat)(w:Bool)(n a:Nat):SI:=og d s w (.fad n (.t a))
@[reducible] def afN (d s:Nat)(w:Bool)(p:BinOp)(a b:Nat):SI:=og d s w (.bin p (.t a) (.t b))
@[reducible] def afO (d s:Nat)(w:Bool)(p:BinOp)(a:Nat)(z:Int):SI:=og d s w (.bin p (.t a) (qI z))
@[reducible] def afP (d s:Nat)(w:Bool)(a:Nat):SI:=og d s w (.len .slice (.t a))
@[reducible] def TX(d f a:Nat):SI:=o d (.call f [.t a])
@[reducible] def afW(d f a b:Nat):SI:=o d (.call f [.t a,.t b])
@[reducible] def afX(d f a b c:Nat):SI:=o d (.call f [.t a,.t b,.t c])
@[reducible] def afY(d f a b c e:Nat):SI:=o d (.call f [.t a,.t b,.t c,.t e])
@[reducible] def Wm(d m n a b:Nat):SI:=o d (.app m n (.t a) (.t b))
@[reducible] def af0(d:Nat)(b:Bool):SI:=o d (.mv (.k (.bool b)))
@[reducible] def af1(d:Nat):SI:=o d (.mv (.k .Z6))
@[reducible] def af2(d:Nat)(p:BinOp)(a:Nat)(k:IntKind)(z:Int):SI:=o d (.bin p (.t a) (.k (.int k z)))
@[reducible] def af3(d a:Nat):SI:=o d (.not (.t a))
@[reducible] def af4(d:Nat)(k:IntKind)(a:Nat):SI:=o d (.conv k (.t a))
@[reducible] def af5(d s:Nat)(w:Bool)(n a b:Nat):SI:=og d s w (.SG n (.t a) (.t b))
@[reducible] def QE(d a:Nat):SI:=o d (.XD 1 1 [Z_ 0] [0] [.t a])
@[reducible] def af7(d a:Nat):SI:=o d (.XD 1 1 [.Z6] [0] [.t a])
@[reducible] def af8(d a:Nat):SI:=o d (.box (.t a))
@[reducible] def af9(d m n a b:Nat):SI:=o d (.ixa m n (.t a) (.t b))
@[reducible] def af_(a b c d e f:Nat):SC:=.ops [oM a b,oA c d,oM e f]
@[reducible] def aga(a b:Nat):SC:=.cond (.t a) .skip (.exit b)
@[reducible] def agb(a:Nat)(x y:SC):SC:=.cond (.t a) x y
@[reducible] def agc(x y:SC):SC:=.seq x y
class Z0 where
 xo:Nat->Option (Nat->List AV->G->OR)
 so:Nat->List AV->G->OR
def C0[i:Z0]:ZO:={ Go.Proofs.YtikpmbiklokdiaaGreat.Gen.XL with ext:=λk=>ap (Nat.beq k 85) (some i.so) (ap (Nat.testBit 567296 k) (i.xo k) (Go.Proofs.YtikpmbiklokdiaaGreat.Gen.XL.ext k)) }
abbrev Th:Nat:=200
@[reducible] def cN (n:Nat):SF:=cG (ZE Go.Proofs.YtikpmbiklokdiaaGreat.Gen.XL n)
@[reducible] def ZQ (n p:Nat) {b:SC} (h:(((cN n).code.gA p).gL [])=b:=by conv=>lhs;reduce;try simp only[Int.reduceOfNat,Int.reduceNegSucc]):SC:=b
@[reducible] def YT (n:Nat) {b:SF} (h:((cN n).gF [])=b:=by conv=>lhs;reduce;try simp only[Int.reduceOfNat,Int.reduceNegSucc]):SF:=b
@[reducible] def Vj (n p:Nat) (q0:Nat) (c0:SC) {b:SC->SC} (h:(λx0=>((cN n).code.gA p).gL [(q0,x0)])=b:=by conv=>lhs;reduce;try simp only[Int.reduceOfNat,Int.reduceNegSucc]):SC:=b c0
@[reducible] def YG (n:Nat) (q0:Nat) (c0:SC) {b:SC->SF} (h:(λx0=>(cN n).gF [(q0,x0)])=b:=by conv=>lhs;reduce;try simp only[Int.reduceOfNat,Int.reduceNegSucc]):SF:=b c0
@[reducible] def Wt (n p:Nat) (q0 q1:Nat) (c0 c1:SC) {b:SC->SC->SC} (h:(λx0 x1=>((cN n).code.gA p).gL [(q0,x0),(q1,x1)])=b:=by conv=>lhs;reduce;try simp only[Int.reduceOfNat,Int.reduceNegSucc]):SC:=b c0 c1
@[reducible] def UR (n:Nat) (q0 q1:Nat) (c0 c1:SC) {b:SC->SC->SF} (h:(λx0 x1=>(cN n).gF [(q0,x0),(q1,x1)])=b:=by conv=>lhs;reduce;try simp only[Int.reduceOfNat,Int.reduceNegSucc]):SF:=b c0 c1
@[reducible] def Qy (n p:Nat) (q0 q1 q2:Nat) (c0 c1 c2:SC) {b:SC->SC->SC->SC} (h:(λx0 x1 x2=>((cN n).code.gA p).gL [(q0,x0),(q1,x1),(q2,x2)])=b:=by conv=>lhs;reduce;try simp only[Int.reduceOfNat,Int.reduceNegSucc]):SC:=b c0 c1 c2
def fN:SC:=ZQ 3 10307921503
def kA:SC:=ZQ 3 510027359
def fO:SC:=Wt 3 40265311 307 15 fN kA
def kC:SC:=ZQ 3 1992287
def fP:SC:=Wt 3 157279 307 15 fO kC
def kG:SC:=ZQ 3 7775
def kw:SC:=Wt 3 607 307 15 fP kG
def kH:SC:=ZQ 3 127
def lF:SC:=Wt 3 3 303 63 kw kH
def iI:SF:=YG 3 3 lF
def xw:SC:=ZQ 7 127583
def xx:SC:=Vj 7 29279 7 xw
def mZ:SC:=ZQ 7 3679
def gZ:SC:=Wt 7 607 57 7 xx mZ
def m6:SC:=ZQ 7 479388863
def g_:SC:=Vj 7 76735679 7 m6
def m7:SC:=ZQ 7 7529663
def hZ:SC:=Wt 7 1238207 73 7 g_ m7
def h_:SC:=ZQ 7 1303743
def m8:SC:=Vj 7 255167 9 h_
def lJ:SC:=Wt 7 58559 37 7 hZ m8
def lK:SC:=ZQ 7 7359
def gy:SC:=Wt 7 1215 57 7 lJ lK
def lL:SC:=ZQ 7 255
def lM:SC:=Wt 7 127 18 3 gy lL
def oB:SC:=Wt 7 3 303 63 gZ lM
def lf:SF:=YG 7 3 oB
def r_:SF:=YT 8
def iO:SC:=ZQ 9 3659
def zb:SC:=ZQ 9 459
def za:SC:=Wt 9 75 57 7 iO zb
def oE:SC:=ZQ 9 15
def pW:SC:=Wt 9 3 37 7 za oE
def me:SF:=YG 9 3 pW
def jl:SC:=ZQ 10 38475
def pU:SC:=ZQ 10 7755
def pV:SC:=ZQ 10 459
def jn:SC:=Qy 10 75 601 121 7 jl pU pV
def fR:SC:=ZQ 10 80530635519
def fS:SC:=ZQ 10 1023
def jp:SC:=Wt 10 511 314572794 3 fR fS
def jq:SC:=Vj 10 15 63 jp
def qV:SC:=Wt 10 3 37 7 jn jq
def nS:SF:=YG 10 3 qV
def te:SC:=ZQ 11 3
def pL:SF:=YG 11 3 te
def vQ:SC:=ZQ 12 3
def se:SF:=YG 12 3 vQ
def qO:SC:=ZQ 13 3
def nN:SF:=YG 13 3 qO
def qY:SC:=ZQ 14 303
def qZ:SC:=ZQ 14 63
def tK:SC:=Wt 14 3 151 31 qY qZ
def qd:SF:=YG 14 3 tK
def vG:SC:=ZQ 15 3
def rR:SF:=YG 15 3 vG
def vO:SC:=ZQ 16 303
def vP:SC:=ZQ 16 63
def xJ:SC:=Wt 16 3 151 31 vO vP
def uJ:SF:=YG 16 3 xJ
def oH:SC:=ZQ 17 75
def oI:SC:=ZQ 17 15
def mi:SF:=UR 17 75 15 oH oI
def dw:SC:=ZQ 29 3659
def nQ:SC:=ZQ 29 459
def nP:SC:=Wt 29 75 57 7 dw nQ
def gi:SC:=ZQ 29 15
def gK:SC:=Wt 29 3 37 7 nP gi
def ea:SF:=YG 29 3 gK
def DF:SC:=ZQ 30 75
def vI:SC:=ZQ 30 15
def uG:SF:=UR 30 75 15 DF vI
def lN:SC:=ZQ 31 3
def iP:SF:=YG 31 3 lN
def xB:SC:=ZQ 32 3223
def xC:SC:=ZQ 32 919
def qb:SC:=Wt 32 151 25 7 xB xC
def xD:SC:=ZQ 32 12895
def xE:SC:=ZQ 32 3679
def qc:SC:=Wt 32 607 25 7 xD xE
def xF:SC:=ZQ 32 127
def xG:SC:=Wt 32 31 37 7 qc xF
def xA:SF:=UR 32 151 31 qb xG
def uN:SF:=YT 33
def mX:SC:=ZQ 34 3
def jj:SF:=YG 34 3 mX
def l9:SF:=YT 35
def oo:SC:=ZQ 36 29487
def y9:SC:=ZQ 36 3887
def ol:SC:=Wt 36 303 115 15 oo y9
def y_:SC:=ZQ 36 7775
def om:SC:=Vj 36 607 15 y_
def oq:SC:=ZQ 36 127
def ox:SC:=Wt 36 63 18 3 om oq
def iL:SC:=Wt 36 15 37 7 ol ox
def oy:SC:=Vj 36 7 3 iL
def pM:SC:=Vj 36 3 3 oy
def l_:SF:=YG 36 3 pM
def gG:SC:=ZQ 37 7
def gX:SC:=Vj 37 3 3 gG
def eM:SF:=YG 37 3 gX
def gg:SC:=ZQ 38 7
def d_:SF:=YG 38 7 gg
def ge:SC:=ZQ 39 63
def gf:SC:=Vj 39 15 7 ge
def gH:SC:=Vj 39 3 7 gf
def bH:SF:=YG 39 3 gH
def gE:SC:=ZQ 40 3
def d8:SF:=YG 40 3 gE
def tP:SC:=ZQ 41 3
def qf:SF:=YG 41 3 tP
def v7:SC:=ZQ 42 3
def sj:SF:=YG 42 3 v7
def tM:SC:=ZQ 43 459
def tL:SC:=Vj 43 75 7 tM
def tN:SC:=ZQ 43 15
def sg:SF:=UR 43 75 15 tL tN
def mY:SC:=ZQ 44 3
def jk:SF:=YG 44 3 mY
def kT:SF:=YT 45
def eP:SC:=ZQ 46 75
def eQ:SC:=ZQ 46 107
def eR:SC:=ZQ 46 15
def fk:SC:=Qy 46 3 37 53 7 eP eQ eR
def be:SF:=YG 46 3 fk
def iz:SC:=ZQ 47 151
def iA:SC:=ZQ 47 9559
def d9:SC:=ZQ 47 13655
def iC:SC:=ZQ 47 1879
def iB:SC:=Qy 47 215 74 106 14 iA d9 iC
def iD:SC:=ZQ 47 31
def iW:SC:=Qy 47 3 75 107 15 iz iB iD
def bX:SF:=YG 47 3 iW
def iK:SF:=YT 48
def jg:SC:=ZQ 49 29259
def nU:SC:=Vj 49 4683 7 jg
def v_:SC:=ZQ 49 459
def v8:SC:=Wt 49 75 73 7 nU v_
def we:SC:=ZQ 49 15
def uL:SF:=UR 49 75 15 v8 we
def tR:SC:=ZQ 50 117323
def mj:SC:=Vj 50 19019 7 tR
def tS:SC:=ZQ 50 3659
def tT:SC:=ZQ 50 459
def tQ:SC:=Qy 50 75 297 57 7 mj tS tT
def tU:SC:=ZQ 50 15
def sn:SF:=UR 50 75 15 tQ tU
def nM:SF:=YT 51
def kP:SF:=YT 52
def vY:SC:=ZQ 60 151
def vZ:SC:=ZQ 60 31
def dS:SC:=Wt 60 3 75 15 vY vZ
def eF:SF:=YG 60 3 dS
def vL:SC:=ZQ 61 459
def vK:SC:=Vj 61 75 7 vL
def vM:SC:=ZQ 61 15
def xy:SC:=Wt 61 3 37 7 vK vM
def uH:SF:=YG 61 3 xy
def vV:SC:=ZQ 62 459
def vT:SC:=Vj 62 75 7 vV
def vX:SC:=ZQ 62 15
def uK:SF:=UR 62 75 15 vT vX
def zi:SC:=ZQ 65 3
def wZ:SF:=YG 65 3 zi
def xe:SC:=ZQ 66 151
def pH:SC:=ZQ 66 648799
def xf:SC:=ZQ 66 7775
def pI:SC:=Wt 66 607 1267 15 pH xf
def xg:SC:=ZQ 66 127
def xh:SC:=Wt 66 31 37 7 pI xg
def zl:SC:=Wt 66 3 75 15 xe xh
def xd:SF:=YG 66 3 zl
def iT:SC:=ZQ 68 75
def iU:SC:=ZQ 68 107
def iV:SC:=ZQ 68 15
def jG:SC:=Qy 68 3 37 53 7 iT iU iV
def gw:SF:=YG 68 3 jG
def oh:SC:=ZQ 69 3
def ku:SF:=YG 69 3 oh
def A_:SC:=ZQ 70 3
def z_:SF:=YG 70 3 A_
def uF:SC:=ZQ 71 75
def k_:SC:=ZQ 71 15
def lI:SC:=Wt 71 3 37 7 uF k_
def iM:SF:=YG 71 3 lI
def Hq:SC:=ZQ 72 75
def zq:SC:=ZQ 72 15
def Ae:SF:=UR 72 75 15 Hq zq
def tx:SC:=ZQ 73 75
def tz:SC:=ZQ 73 15
def vJ:SC:=Wt 73 3 37 7 tx tz
def rY:SF:=YG 73 3 vJ
def jP:SC:=ZQ 74 59
def c_:SF:=YG 74 59 jP
def zm:SC:=ZQ 75 3
def xi:SF:=YG 75 3 zm
def kI:SC:=ZQ 76 303
def kJ:SC:=ZQ 76 63
def lG:SC:=Wt 76 3 151 31 kI kJ
def iJ:SF:=YG 76 3 lG
def cY:SC:=ZQ 77 3
def cV:SF:=YG 77 3 cY
def xa:SC:=ZQ 78 3
def uB:SF:=YG 78 3 xa
def iY:SC:=ZQ 79 971
def iX:SC:=Vj 79 75 15 iY
def iZ:SC:=ZQ 79 15
def gx:SF:=UR 79 75 15 iX iZ
def eh:SC:=ZQ 80 3
def eN:SF:=YG 80 3 eh
def zp:SC:=ZQ 81 3
def xk:SF:=YG 81 3 zp
def m_:SC:=ZQ 82 15511
def xI:SC:=ZQ 82 919
def xH:SC:=Wt 82 151 121 7 m_ xI
def nc:SC:=ZQ 82 31
def oG:SC:=Wt 82 3 75 15 xH nc
def li:SF:=YG 82 3 oG
def jQ:SC:=ZQ 83 59
def da:SF:=YG 83 59 jQ
def pN:SC:=ZQ 84 3
def ma:SF:=YG 84 3 pN
def ck:SF:=YT 86
def gU:SF:=YT 87
def wh:SC:=ZQ 88 459
def wg:SC:=Vj 88 75 7 wh
def wi:SC:=ZQ 88 15
def uM:SF:=UR 88 75 15 wg wi
def l8:SF:=YT 90
def tA:SC:=ZQ 91 151
def mf:SC:=ZQ 91 78803551
def mh:SC:=ZQ 91 15888991
def tC:SC:=ZQ 91 946783
def mg:SC:=Qy 91 160351 601 121 7 mf mh tC
def tD:SC:=ZQ 91 3679
def tB:SC:=Wt 91 607 313 7 mg tD
def tE:SC:=ZQ 91 127
def tF:SC:=Wt 91 31 37 7 tB tE
def vN:SC:=Wt 91 3 75 15 tA tF
def rZ:SF:=YG 91 3 vN
def oC:SC:=ZQ 92 75
def oD:SC:=ZQ 92 15
def jr:SC:=Wt 92 3 37 7 oC oD
def iq:SF:=YG 92 3 jr
def tJ:SC:=ZQ 93 3
def qa:SF:=YG 93 3 tJ
def pX:SC:=ZQ 94 37
def pY:SC:=ZQ 94 7
def nT:SF:=UR 94 37 7 pX pY
def tG:SC:=ZQ 95 3
def pZ:SF:=YG 95 3 tG
def qW:SC:=ZQ 96 151
def qX:SC:=ZQ 96 31
def tH:SC:=Wt 96 3 75 15 qW qX
def p_:SF:=YG 96 3 tH
def Ag:SF:=YT 97
def oe:SC:=ZQ 99 3
def kg:SF:=YG 99 3 oe
def vz:SC:=ZQ 100 3
def rJ:SF:=YG 100 3 vz
def ta:SC:=ZQ 101 17
def tb:SC:=ZQ 101 7
def rK:SF:=UR 101 17 7 ta tb
def mW:SF:=YT 102
def zk:SC:=ZQ 103 7
def Ba:SC:=Vj 103 3 3 zk
def Aa:SF:=YG 103 3 Ba
def tc:SC:=ZQ 104 303
def td:SC:=ZQ 104 63
def vA:SC:=Wt 104 3 151 31 tc td
def rL:SF:=YG 104 3 vA
def rM:SC:=ZQ 105 303
def rN:SC:=ZQ 105 1232063
def rP:SC:=ZQ 105 249023
def zn:SC:=ZQ 105 15551
def rO:SC:=Qy 105 1215 1203 243 15 rN rP zn
def rQ:SC:=ZQ 105 255
def zo:SC:=Wt 105 63 37 7 rO rQ
def Bb:SC:=Wt 105 3 151 31 rM zo
def pK:SF:=YG 105 3 Bb
def gD:SC:=ZQ 106 3
def dZ:SF:=YG 106 3 gD
def eZ:SC:=ZQ 107 75
def cR:SC:=ZQ 107 2475
def e_:SC:=Vj 107 107 38 cR
def cS:SC:=ZQ 107 15
def fJ:SC:=Qy 107 3 37 53 7 eZ e_ cS
def dD:SF:=YG 107 3 fJ
def s_:SC:=ZQ 108 3
def pG:SF:=YG 108 3 s_
def wY:SC:=ZQ 109 3
def oS:SF:=YG 109 3 wY
def w_:SC:=ZQ 110 3
def uA:SF:=YG 110 3 w_
def mF:SC:=ZQ 111 3
def mV:SF:=YG 111 3 mF
def pO:SC:=ZQ 112 75
def pP:SC:=ZQ 112 15
def nO:SF:=UR 112 75 15 pO pP
def pQ:SC:=ZQ 113 17
def xr:SC:=ZQ 113 7
def xq:SF:=UR 113 17 7 pQ xr
def kV:SC:=ZQ 114 35
def kW:SC:=ZQ 114 15
def gY:SF:=UR 114 35 15 kV kW
def mc:SC:=ZQ 115 468555
def md:SC:=ZQ 115 58955
def fm:SC:=Wt 115 9803 57 7 mc md
def Cs:SC:=ZQ 115 459
def th:SC:=Wt 115 75 153 7 fm Cs
def tj:SC:=ZQ 115 15
def rU:SF:=UR 115 75 15 th tj
def uI:SF:=YT 116
def Bd:SC:=ZQ 117 3
def Ad:SF:=YG 117 3 Bd
def lH:SC:=ZQ 118 9
def cT:SF:=YG 118 9 lH
def fQ:SF:=YT 122
def Be:SC:=ZQ 123 37
def qT:SC:=ZQ 123 7
def pR:SF:=UR 123 37 7 Be qT
def Af:SC:=ZQ 124 37
def pT:SC:=ZQ 124 7
def nR:SF:=UR 124 37 7 Af pT
def wz:SC:=ZQ 125 19019
def lO:SC:=ZQ 125 3659
def wB:SC:=ZQ 125 459
def wA:SC:=Qy 125 75 297 57 7 wz lO wB
def lP:SC:=ZQ 125 15
def m9:SC:=Wt 125 3 37 7 wA lP
def js:SF:=YG 125 3 m9
def Bf:SC:=ZQ 126 75
def qU:SC:=ZQ 126 15
def pS:SF:=UR 126 75 15 Bf qU
def zt:SC:=ZQ 127 3
def xz:SF:=YG 127 3 zt
def iH:SF:=YT 128
def jH:SC:=ZQ 129 7775
def fe:SC:=Vj 129 607 15 jH
def fd:SC:=ZQ 129 2431
def ff:SC:=ZQ 129 38271
def fg:SC:=Vj 129 3455 18 ff
def jI:SC:=ZQ 129 511
def jJ:SC:=Qy 129 127 37 53 7 fd fg jI
def kK:SC:=Wt 129 3 303 63 fe jJ
def gV:SF:=YG 129 3 kK
def jL:SC:=ZQ 130 75
def jK:SC:=ZQ 130 303
def fj:SC:=ZQ 130 19119
def dl:SC:=ZQ 130 3759
def jM:SC:=Wt 130 431 74 14 fj dl
def jN:SC:=ZQ 130 63
def jO:SC:=Qy 130 15 37 53 7 jK jM jN
def kN:SC:=Wt 130 3 37 7 jL jO
def gW:SF:=YG 130 3 kN
def vC:SC:=ZQ 131 4679
def vE:SC:=ZQ 131 839
def vD:SC:=Wt 131 71 73 13 vC vE
def vF:SC:=ZQ 131 31
def uC:SF:=UR 131 71 31 vD vF
def bV:SC:=ZQ 132 2243
def bW:SC:=ZQ 132 963
def cQ:SC:=ZQ 132 51
def eX:SC:=Qy 132 19 140 60 3 bV bW cQ
def aJ:SF:=YG 132 19 eX
def pJ:SC:=ZQ 133 151
def ji:SC:=ZQ 133 31
def nL:SF:=UR 133 151 31 pJ ji
def dR:SC:=ZQ 134 77003
def gR:SC:=ZQ 134 15563
def gS:SC:=ZQ 134 971
def gQ:SC:=Qy 134 75 1203 243 15 dR gR gS
def gT:SC:=ZQ 134 15
def iy:SC:=Wt 134 3 37 7 gQ gT
def fc:SF:=YG 134 3 iy
def eC:SC:=ZQ 135 75
def eD:SC:=ZQ 135 15
def cZ:SF:=UR 135 75 15 eC eD
def qN:SC:=ZQ 136 3
def nK:SF:=YG 136 3 qN
def l6:SF:=YT 137
def gJ:SC:=ZQ 138 14987871
def kY:SC:=ZQ 138 1880671
def eE:SC:=Wt 138 307807 57 7 gJ kY
def gI:SC:=ZQ 138 586335
def kZ:SC:=ZQ 138 258655
def qQ:SC:=Wt 138 62047 17 7 gI kZ
def qR:SC:=ZQ 138 3679
def qP:SC:=Qy 138 607 601 121 7 eE qQ qR
def qS:SC:=ZQ 138 127
def kX:SF:=UR 138 607 127 qP qS
def xp:SC:=ZQ 139 17
def kU:SC:=ZQ 139 7
def xn:SF:=UR 139 17 7 xp kU
def xl:SC:=ZQ 140 3
def uD:SF:=YG 140 3 xl
def Ht:SC:=ZQ 151 14629
def Hr:SC:=Vj 151 2341 7 Ht
def Hu:SC:=ZQ 151 229
def Hs:SC:=Wt 151 37 73 7 Hr Hu
def zu:SC:=ZQ 151 7
def Ah:SF:=UR 151 37 7 Hs zu
def Cu:SC:=ZQ 152 75
def tw:SC:=ZQ 152 15
def rW:SF:=UR 152 75 15 Cu tw
def fp:SC:=ZQ 153 71
def fu:SC:=ZQ 153 31
def dE:SF:=UR 153 71 31 fp fu
def eG:SF:=YT 155
def Bc:SC:=ZQ 156 3
def Ab:SF:=YG 156 3 Bc
def ko:SF:=YT 157
def mb:SC:=ZQ 158 31895
def ip:SC:=Vj 158 7319 7 mb
def Cr:SC:=ZQ 158 919
def tf:SC:=Wt 158 151 57 7 ip Cr
def tg:SC:=ZQ 158 31
def rT:SF:=UR 158 151 31 tf tg
def vH:SC:=ZQ 159 511
def xu:SC:=Vj 159 3 255 vH
def uE:SF:=YG 159 3 xu
def rI:SF:=YT 165
def lj:SF:=YT 166
def vB:SC:=ZQ 169 9
def io:SF:=YG 169 9 vB
def tu:SC:=ZQ 170 151
def tv:SC:=ZQ 170 31
def rV:SF:=UR 170 151 31 tu tv
def pF:SF:=YT 172
theorem wT[Z0]:ZE C0 3=some iI:=by kernel_rfl
theorem zX[Z0]:ZE C0 7=some lf:=by kernel_rfl
@[reducible] def afT[Z0](f:Nat):Prop:=∀(d:Nat)(xs:List AV)(g:G),ae C0 d f xs g=af (I C0) d g f xs
@[reducible] def M8[Z0](f:Nat):Prop:=∀(t:T)(g:G)(xs:List Od),SO.foot C0 t g (.call f xs)=am ((eH t xs).flatMap (aB g.h aw))
theorem Zn[Z0]{f:Nat}(h:afT f:=by intro _ _ _;kernel_rfl):afT f:=h
theorem Fs[Z0]:ZE C0 8=some r_:=by kernel_rfl
theorem A8[Z0]:ZE C0 9=some me:=by kernel_rfl
theorem Cp[Z0]:ZE C0 10=some nS:=by kernel_rfl
theorem Ds[Z0]:ZE C0 11=some pL:=by kernel_rfl
theorem Ft[Z0]:ZE C0 12=some se:=by kernel_rfl
theorem Cm[Z0]:ZE C0 13=some nN:=by kernel_rfl
theorem DC[Z0]:ZE C0 14=some qd:=by kernel_rfl
theorem Fj[Z0]:ZE C0 15=some rR:=by kernel_rfl
theorem Hj[Z0]:ZE C0 16=some uJ:=by kernel_rfl
theorem A9[Z0]:ZE C0 17=some mi:=by kernel_rfl
theorem pE[Z0]:ZE C0 29=some ea:=by kernel_rfl
theorem nW[Z0]:M8 29:=λ_ _ _=>by kernel_rfl
theorem Hg[Z0]:ZE C0 30=some uG:=by kernel_rfl
theorem wX[Z0]:ZE C0 31=some iP:=by kernel_rfl
theorem Jm[Z0]:ZE C0 32=some xA:=by kernel_rfl
theorem FD[Z0]:M8 32:=λ_ _ _=>by kernel_rfl
theorem Ho[Z0]:ZE C0 33=some uN:=by kernel_rfl
theorem y5[Z0]:ZE C0 34=some jj:=by kernel_rfl
theorem A4[Z0]:ZE C0 35=some l9:=by kernel_rfl
theorem A5[Z0]:ZE C0 36=some l_:=by kernel_rfl
theorem qF[Z0]:ZE C0 37=some eM:=by kernel_rfl
theorem pD[Z0]:ZE C0 38=some d_:=by kernel_rfl
theorem gO[Z0]:ZE C0 39=some bH:=by kernel_rfl
theorem nV[Z0](t:T)(g:G)(xs:List Od):SO.foot C0 t g (.call 39 xs)=dj:=by kernel_rfl
theorem nF[Z0](d:Nat)(xs:List AV)(g:G):ae C0 d 39 xs g=XV ((I C0).call d 39 xs g):=by kernel_rfl
theorem pC[Z0]:ZE C0 40=some d8:=by kernel_rfl
theorem DE[Z0]:ZE C0 41=some qf:=by kernel_rfl
theorem Fv[Z0]:ZE C0 42=some sj:=by kernel_rfl
theorem tW[Z0]:M8 42:=λ_ _ _=>by kernel_rfl
theorem Fu[Z0]:ZE C0 43=some sg:=by kernel_rfl
theorem tV[Z0]:M8 43:=λ_ _ _=>by kernel_rfl
theorem y6[Z0]:ZE C0 44=some jk:=by kernel_rfl
theorem zW[Z0]:ZE C0 45=some kT:=by kernel_rfl
theorem fI[Z0]:ZE C0 46=some be:=by kernel_rfl
theorem jF[Z0]:ZE C0 47=some bX:=by kernel_rfl
theorem wV[Z0]:ZE C0 48=some iK:=by kernel_rfl
theorem Hm[Z0]:ZE C0 49=some uL:=by kernel_rfl
theorem Fw[Z0]:ZE C0 50=some sn:=by kernel_rfl
theorem Ck[Z0]:ZE C0 51=some nM:=by kernel_rfl
theorem zV[Z0]:ZE C0 52=some kP:=by kernel_rfl
theorem Hl[Z0]:ZE C0 60=some eF:=by kernel_rfl
theorem Hh[Z0]:ZE C0 61=some uH:=by kernel_rfl
theorem Hk[Z0]:ZE C0 62=some uK:=by kernel_rfl
theorem Je[Z0]:ZE C0 65=some wZ:=by kernel_rfl
theorem FB[Z0]:M8 65:=λ_ _ _=>by kernel_rfl
theorem Jg[Z0]:ZE C0 66=some xd:=by kernel_rfl
theorem ux[Z0]:ZE C0 68=some gw:=by kernel_rfl
theorem zU[Z0]:ZE C0 69=some ku:=by kernel_rfl
theorem xQ[Z0]:M8 69:=λ_ _ _=>by kernel_rfl
theorem KI[Z0]:ZE C0 70=some z_:=by kernel_rfl
theorem wW[Z0]:ZE C0 71=some iM:=by kernel_rfl
theorem KO[Z0]:ZE C0 72=some Ae:=by kernel_rfl
theorem Fp[Z0]:ZE C0 73=some rY:=by kernel_rfl
theorem lD[Z0]:ZE C0 74=some c_:=by kernel_rfl
theorem Jh[Z0]:ZE C0 75=some xi:=by kernel_rfl
theorem wU[Z0]:ZE C0 76=some iJ:=by kernel_rfl
theorem zh[Z0]:ZE C0 77=some cV:=by kernel_rfl
theorem Ha[Z0]:ZE C0 78=some uB:=by kernel_rfl
theorem uy[Z0]:ZE C0 79=some gx:=by kernel_rfl
theorem su[Z0](t:T)(g:G)(xs:List Od):SO.foot C0 t g (.call 79 xs)=dj:=by kernel_rfl
theorem rE[Z0](d:Nat)(xs:List AV)(g:G):ae C0 d 79 xs g=XV ((I C0).call d 79 xs g):=by kernel_rfl
theorem Fk[Z0]:ZE C0 80=some eN:=by kernel_rfl
theorem Ji[Z0]:ZE C0 81=some xk:=by kernel_rfl
theorem zY[Z0]:ZE C0 82=some li:=by kernel_rfl
theorem lE[Z0]:ZE C0 83=some da:=by kernel_rfl
theorem A6[Z0]:ZE C0 84=some ma:=by kernel_rfl
theorem qG[Z0]:ZE C0 86=some ck:=by kernel_rfl
theorem wo[Z0]:ZE C0 87=some gU:=by kernel_rfl
theorem Hn[Z0]:ZE C0 88=some uM:=by kernel_rfl
theorem A3[Z0]:ZE C0 90=some l8:=by kernel_rfl
theorem Fq[Z0]:ZE C0 91=some rZ:=by kernel_rfl
theorem A7[Z0]:ZE C0 92=some iq:=by kernel_rfl
theorem Dz[Z0]:ZE C0 93=some qa:=by kernel_rfl
theorem Cq[Z0]:ZE C0 94=some nT:=by kernel_rfl
theorem Dx[Z0]:ZE C0 95=some pZ:=by kernel_rfl
theorem Dy[Z0]:ZE C0 96=some p_:=by kernel_rfl
theorem KQ[Z0]:ZE C0 97=some Ag:=by kernel_rfl
theorem zS[Z0]:ZE C0 99=some kg:=by kernel_rfl
theorem Fg[Z0]:ZE C0 100=some rJ:=by kernel_rfl
theorem Fh[Z0]:ZE C0 101=some rK:=by kernel_rfl
theorem A2[Z0]:ZE C0 102=some mW:=by kernel_rfl
theorem xP[Z0]:M8 102:=λ_ _ _=>by kernel_rfl
theorem wI[Z0]:afT 102:=λ_ _ _=>by kernel_rfl
theorem KJ[Z0]:ZE C0 103=some Aa:=by kernel_rfl
theorem Hy[Z0]:M8 103:=λ_ _ _=>by kernel_rfl
theorem Fi[Z0]:ZE C0 104=some rL:=by kernel_rfl
theorem KL[Z0]:ZE C0 105=some pK:=by kernel_rfl
theorem pB[Z0]:ZE C0 106=some dZ:=by kernel_rfl
theorem nI[Z0]:ZE C0 107=some dD:=by kernel_rfl
theorem lX[Z0](d:Nat)(xs:List AV)(g:G):ae C0 d 107 xs g=XV ((I C0).call d 107 xs g):=by kernel_rfl
theorem Dr[Z0]:ZE C0 108=some pG:=by kernel_rfl
theorem G9[Z0]:ZE C0 109=some oS:=by kernel_rfl
theorem G_[Z0]:ZE C0 110=some uA:=by kernel_rfl
theorem DG[Z0]:M8 110:=λ_ _ _=>by kernel_rfl
theorem Jf[Z0]:ZE C0 111=some mV:=by kernel_rfl
theorem Cn[Z0]:ZE C0 112=some nO:=by kernel_rfl
theorem Ak[Z0]:M8 112:=λ_ _ _=>by kernel_rfl
theorem Jk[Z0]:ZE C0 113=some xq:=by kernel_rfl
theorem FC[Z0]:M8 113:=λ_ _ _=>by kernel_rfl
theorem vy[Z0]:ZE C0 114=some gY:=by kernel_rfl
theorem Bj[Z0]:M8 114:=λ_ _ _=>by kernel_rfl
theorem Fm[Z0]:ZE C0 115=some rU:=by kernel_rfl
theorem Hi[Z0]:ZE C0 116=some uI:=by kernel_rfl
theorem KN[Z0]:ZE C0 117=some Ad:=by kernel_rfl
theorem y7[Z0]:ZE C0 118=some cT:=by kernel_rfl
theorem s8[Z0]:ZE C0 122=some fQ:=by kernel_rfl
theorem Du[Z0]:ZE C0 123=some pR:=by kernel_rfl
theorem Co[Z0]:ZE C0 124=some nR:=by kernel_rfl
theorem y8[Z0]:ZE C0 125=some js:=by kernel_rfl
theorem Dw[Z0]:ZE C0 126=some pS:=by kernel_rfl
theorem Jl[Z0]:ZE C0 127=some xz:=by kernel_rfl
theorem wS[Z0]:ZE C0 128=some iH:=by kernel_rfl
theorem wu[Z0]:ZE C0 129=some gV:=by kernel_rfl
theorem ww[Z0]:ZE C0 130=some gW:=by kernel_rfl
theorem Hc[Z0]:ZE C0 131=some uC:=by kernel_rfl
theorem nH[Z0]:ZE C0 132=some aJ:=by kernel_rfl
theorem Cj[Z0]:ZE C0 133=some nL:=by kernel_rfl
theorem rH[Z0]:ZE C0 134=some fc:=by kernel_rfl
theorem l5[Z0]:ZE C0 135=some cZ:=by kernel_rfl
theorem Ci[Z0]:ZE C0 136=some nK:=by kernel_rfl
theorem A1[Z0]:ZE C0 137=some l6:=by kernel_rfl
theorem Dt[Z0]:ZE C0 138=some kX:=by kernel_rfl
theorem Jj[Z0]:ZE C0 139=some xn:=by kernel_rfl
theorem ES[Z0](d:Nat)(xs:List AV)(g:G):ae C0 d 139 xs g=XV ((I C0).call d 139 xs g):=by kernel_rfl
theorem He[Z0]:ZE C0 140=some uD:=by kernel_rfl
theorem KR[Z0]:ZE C0 151=some Ah:=by kernel_rfl
theorem Fo[Z0]:ZE C0 152=some rW:=by kernel_rfl
theorem nJ[Z0]:ZE C0 153=some dE:=by kernel_rfl
theorem wx[Z0]:ZE C0 155=some eG:=by kernel_rfl
theorem sW[Z0](d:Nat)(xs:List AV)(g:G):ae C0 d 155 xs g=XV ((I C0).call d 155 xs g):=by kernel_rfl
theorem KM[Z0]:ZE C0 156=some Ab:=by kernel_rfl
theorem zT[Z0]:ZE C0 157=some ko:=by kernel_rfl
theorem Fl[Z0]:ZE C0 158=some rT:=by kernel_rfl
theorem Hf[Z0]:ZE C0 159=some uE:=by kernel_rfl
theorem Ff[Z0]:ZE C0 165=some rI:=by kernel_rfl
theorem zZ[Z0]:ZE C0 166=some lj:=by kernel_rfl
theorem Hb[Z0]:ZE C0 169=some io:=by kernel_rfl
theorem Fn[Z0]:ZE C0 170=some rV:=by kernel_rfl
theorem Dq[Z0]:ZE C0 172=some pF:=by kernel_rfl
@[reducible] def Vk(l:List Bool):List Bool:=false::false::l
@[reducible] def JO(l:List Bool):List Bool:=false::false::false::false::l
@[reducible] def Zb(l:List Bool):List Bool:=false::false::false::false::false::false::false::false::l
theorem vq{α:Type}{f:Nat->α->Nat->α->Bool}{i:Nat}{x:α}:∀{l:List α} {j:Nat},(∀b y,l[b]?=some y->f i x (j+b) y=true)->il f i x j l=true
 |[],_,_=>rfl
 | y::r,j,h=>by
  simp only[il,Zk];refine⟨by simpa using h 0 y rfl,vq λb z hb=>?_⟩;have:=h (b+1) z (by grind)
  grind
theorem qJ{α:Type}{f:Nat->α->Nat->α->Bool}:∀{l:List α} {i:Nat},(∀a b x y,a<b->l[a]?=some x->l[b]?=some y->f (i+a) x (i+b) y=true)->mT f i l=true
 |[],_,_=>rfl
 | x::r,i,h=>by
  simp only[mT,Zk];refine⟨vq λb y hb=>?_,qJ λa b x' y hab ha hb=>?_⟩
  ·have:=h 0 (b+1) x y (by omega) rfl (by grind)
   grind
  ·have:=h (a+1) (b+1) x' y (by omega) (by grind) (by grind)
   grind
theorem C_{pm:List Nat}:∀{l:List ZC} {i:Nat},(∀f∈l,f.lk.sr=[])->ic pm i l=true
 |[],_,_=>rfl
 | x::r,i,h=>by simp only[ic,h x (by simp)];exact C_ λf hf=>h f (by simp[hf])
def JL(pm:List Nat)(ws:List Bool)(L:List (Nat×Nat))(i j:Nat):Bool:=(pm.getD j 0).testBit i || (!(ws.getD i false)&&!(ws.getD j false)) || L.contains (i,j)
def JM(pm:List Nat)(ws:List Bool)(L:List (Nat×Nat)):Bool:=(List.range ws.length).all λj=>(List.range j).all λi=>JL pm ws L i j
theorem aK{pm:List Nat}{fs:List ZC}(ws:List Bool)(L:List (Nat×Nat))(hw:ZL (λ(f:ZC) (w:Bool)=>f.lk.sr=[]/\(w=false->f.wr=[])) fs ws)(hd:JM pm ws L=true)
  (hL:∀p∈L,∀x y,fs[p.1]?=some x->fs[p.2]?=some y->bz x y=true):lp pm fs=true:=by
 unfold lp;rw[aa,ZN]
 ·exact C_ λf hf=>by obtain⟨i,hi,rfl⟩:=QX.1 hf;obtain⟨w,-,h⟩:=hw.get (Zq hi);exact h.1
 ·refine qJ λa b x y hab ha hb=>?_;simp only[Ku];obtain⟨wa,d,ka⟩:=hw.get ha;obtain⟨wb,k,kb⟩:=hw.get hb;have c:=(tI.1 k).1;have:=Xw.1 (Xw.1 hd b (Q9.2 c)) a (Q9.2 hab);simp only[JL,T6]at this;rcases this with (h|h)|h
  ·grind
  ·simp only[acG,d,k,Ns,Zk,Qw]at h;have ex:=ka.2 h.1;have ey:=kb.2 h.2;simp_all[bz,fA,dL]
  grind
section
variable {l:List Nat}
structure XN where
 Z5:Int
 frm:List Int
 Yi:List Int
 out:List Int
structure jm where
 Z8:Int
 roots:List (List Int)
 Z7:List XN
structure Node where
 Z5:Int
 Z9:List Int
 rows:List (List Int)
structure Zv where
 Z8:Int
 Z7:List Node
structure Zj where
 ZI:List Int
 Z1:List Int
 w:List Int
instance : Rp XN:=Rp.via λm:XN=>(m.Z5,m.frm,m.Yi,m.out)
instance : Rp jm:=Rp.via λm:jm=>(m.Z8,m.roots,m.Z7)
instance : Rp Node:=Rp.via λm:Node=>(m.Z5,m.Z9,m.rows)
instance : Rp Zv:=Rp.via λm:Zv=>(m.Z8,m.Z7)
instance : Rp Zj:=Rp.via λm:Zj=>(m.ZI,m.Z1,m.w)
section
variable {P:Nat->Prop}{k:Nat}{h:H}{cs:List AV}
theorem cM{m:Node}:Rp.rp P k h m cs↔∃a b,cs=[Z_ m.Z5,a,b]/\ZT P k h m.Z9 a/\ZT P k h m.rows b:=by
 constructor
 ·rintro⟨c1,d,rfl,h1,d1,d2,rfl,⟨a,rfl,h2⟩,⟨b,rfl,c⟩⟩;rw[ay.1 h1];grind
 ·rintro⟨a,b,rfl,h2,c⟩;exact⟨[Z_ m.Z5],[a,b],rfl,ay.2 rfl,[a],[b],rfl,⟨a,rfl,h2⟩,⟨b,rfl,c⟩⟩
theorem fY{m:Zv}:Rp.rp P k h m cs↔∃a,cs=[Z_ m.Z8,a]/\ZT P k h m.Z7 a:=by
 constructor
 ·rintro⟨c1,b,rfl,h1,⟨a,rfl,h2⟩⟩;simp_all[ay]
 ·rintro⟨a,rfl,h2⟩;exact⟨[Z_ m.Z8],[a],rfl,ay.2 rfl,⟨a,rfl,h2⟩⟩
theorem ud{m:Zj}:Rp.rp P k h m cs↔∃a b c,cs=[a,b,c]/\ZT P k h m.ZI a/\ZT P k h m.Z1 b/\ZT P k h m.w c:=by
 constructor
 ·rintro⟨c1,e,rfl,⟨a,rfl,h2⟩,e1,f,rfl,⟨b,rfl,d⟩,⟨c,rfl,h4⟩⟩<;>grind
 ·rintro⟨a,b,c,rfl,h2,d,h4⟩;exact⟨[a],[b,c],rfl,⟨a,rfl,h2⟩,[b],[c],rfl,⟨b,rfl,d⟩,⟨c,rfl,h4⟩⟩
end
theorem ZT.len{α:Type} [Rp α]{P:Nat->Prop}{k:Nat}{h:H}{l:List α}{v:AV}(r:ZT P k h l v)(g:G):gz .slice v g=.val (Z_ (l.length:Int)):=by obtain⟨rows,h1,h2⟩:=r.rows;rw[dq h1,h2.len]
theorem ZT.tree{α:Type} [Rp α]{k k':Nat}{h h':H}{l:List α}{v:AV}(r:ZT ZX k h l v)(hk:k<=k'):ZT ZX k' h' l v:=by obtain⟨w,hw,q⟩:=Rp.tree (P:=ZX) (k':=k') (h':=h') (show Rp.rp ZX k h l [v] from ⟨v,rfl,r⟩) hk<;>grind
theorem aZ{α:Type} [Rp α]{P:Nat->Prop}{k:Nat}{h:H}{l:List α}(r:ZT P k h l v)(d:Nat)(hd:Rp.dp (List α)<=20:=by decide) :
  ∃v',Hx.ZS h d aw v=some v'/\∀h',ZT ZX (max k d) h' l v':=by
 obtain⟨v',e,w,hw,q⟩:=nC (aE l hd) (by decide) d (show One l P k h v from ⟨v,rfl,r⟩);injection hw with hw;subst hw;exact⟨v',e,λh'=>q.tree (ZV _)⟩
theorem ZT.all{α:Type} [Rp α]{k:Nat}{h:H}{l:List α}(r:ZT ZX k h l v) :
  ∃rows:List (List AV),(∀h',ak h' (Rp.sz α) v=some rows)/\rows.length=l.length/\(∀(i:Nat) (x:α),l[i]?=some x->∃row,rows[i]?=some row/\Rp.rp ZX k .nil x row)/\(0<l.length->nq v=true):=by
 have r0:=(r.tree (h':=.nil) (ZV _));obtain⟨rows,h1,h2⟩:=r0.rows;refine⟨rows,λh'=>?_,h2.len.symm,λi x hi=>h2.get hi,λhl=>u7 h1 (i:=0) (by grind[ZL.len])⟩;rw[<-h1];exact yk λid ep off len lim e=>by subst e;exact r.2.1.elim
abbrev UT (k:Nat)(l:List Nat)(r:AV):Prop:=One l ZX k .nil r
theorem UT.sl{k:Nat}{r:AV}(h:UT k l r)(h':H):ZT ZX k h' l r:=by obtain⟨w,hw,q⟩:=h;injection hw with hw;subst hw;exact q.tree (ZV _)
theorem uh{P:Nat->Prop}{k:Nat}{h:H}(r:ZT P k h l v):∀x∈l,x<2^64:=by obtain⟨rows,h1,h2⟩:=r.rows;intro x hx;obtain⟨i,hi,e⟩:=QX.1 hx;obtain⟨row,b,h4⟩:=h2.get (i:=i) (a:=x) (by grind);simp_all[nX]
theorem Own.nats{g:G}{b:Nat}{k:Nat}(h:Own g b v 1 (l.map cu))(hl:l.length<2^63)(hb:∀x∈l,x<2^64):One l (λ_=>True) k g.h v:=by
 refine⟨v,rfl,Own.sl (α:=Nat) h hl ?_ λ_ _=>trivial⟩;clear h hl
 induction l with
 |nil=>trivial
 |cons a l ih=>exact⟨nX.2 ⟨rfl,hb a (by simp)⟩,(by grind)⟩
theorem eV(p:Nat->Bool)(j:Nat):(List.range (j+1)).all p=((List.range j).all p&&p j):=by grind
theorem jf{p:Nat->Bool}{j n:Nat}(h:j<n)(hp:p j=false):(List.range n).all p=false:=by grind
end
theorem o9{C:ZO}{nt d:Nat}{rd:Option Nat}{c:Code}{t:T}{df:List ZU}{g:G}{Q:QT}(h:wp C d rd (cx C nt c) Q t df g):((I C).code nt d rd c t df g).sat Q:=by grind[IQ,UG]
end
end Hx
