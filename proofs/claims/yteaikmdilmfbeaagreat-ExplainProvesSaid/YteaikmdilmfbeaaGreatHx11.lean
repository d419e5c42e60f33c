/- A part of the proof. -/
import Derived.Test.YteaikmdilmfbeaaGreatHx10
set_option linter.all false
set_option maxRecDepth 20000
set_option maxHeartbeats 8000000
namespace Hx
open Go
noncomputable section
variable {g g':G}{d i k k1 k2:Nat}{n:Xb}{XF e l XB cs:List Int}{L proof:List (List Int)}{v w out u z b w' u' x' z':AV}{t:T}{Q:QT}{zs:List AV}{P1 P2 P:Nat->Prop}{wt x:Int}{rows:List (List AV)}{K:AV->G->Prop}{h:H}{D:Xo->Prop}
def AK(W:List Int):Nat->Nat
 |0=>0
 |j+1=>if W[AK W j]?.getD 0<W[j+1]?.getD 0 then j+1 else AK W j
def CJ(W:List Int):∀j,AK W j<=j
 |0=>XH _
 | j+1=>by have:=CJ W j;rw[AK];split<;>omega
def pH(n:Xb)(e XF:List Int):Nat:=AK (AF n e XF (C2 n)) (EK (EP (IO n) XF) - 1)
def AH(n:Xb)(e XF:List Int):List Int:=EN (EP (IO n) XF) (pH n e XF:Int)
def zp(n:Xb)(e XF:List Int):Int:=(AF n e XF (C2 n))[pH n e XF]?.getD 0
def bj3[Xr](hv:Xu P k g.h l v)(hP:∀i,P i->i<g.nx)(hl2:l.length<=1000)(kk:∀u g',Own g' g.nx u 1 (l.map ci)->Fr g g'->(∀i∈g'.lg,i∈g.lg\/g.nx<=i)->K u g') :
  (ah C0 d 37 [v] g).sat K g D:=by
 rw[rI];refine xl uZ (by simp[dT]) ?_
 by_cases hn:v=.XC
 ·subst hn;have hl:l=[]:=by have h:=hv.2;unfold Oe at h;exact h
  have a:Ii false .slice .XC .XC=.val (.bool true):=rfl;simp only[sz,simprocAttr,dT,a];exact kk _ _ (.inl ⟨rfl,by rw[hl];rfl⟩) (Fr.refl g) λi hi=>.inl hi
 ·have a:Ii false .slice v .XC=.val (.bool false):=by
   have h:=hv.2;unfold Oe at h
   split at h
   ·exact absurd rfl hn
   ·rfl
   ·rfl
   ·rfl
   ·exact h.elim
  simp only[sz,simprocAttr,dT,a];refine aM (rows:=[]) (new:=l.map ci) (.inr ⟨g.nx,0,false,XH _,by simp,rfl,by simp[VO]⟩) ?_ (by simp) (by simp[aH];omega) λu g1 hu n1 f1 _ l1=>?_
  ·refine Xu.ints (P:=P) (hv.far8 λi hi=>?_);have:=hP i hi;simp[VO,show ¬i=g.nx by omega]
  ·simp only[sz,simprocAttr];refine kk u g1 (by simpa using hu) ⟨by simp at n1;omega,λi hi=>by rw[f1 i (by simp;omega) (by simp[W5];omega)];simp[VO,show ¬i=g.nx by omega]⟩ λi hi=>?_;rcases l1 i hi with h|h
   ·simp at h;rcases h with rfl|h
    ·exact .inr (XH _)
    ·exact .inl h
   ·exact .inr h
def PK{α:Type} [Rp α]{h':H}{l:List α}(hv:Xu Xt k h l v)(n:Nat):aL h' (n+1) v=[]:=by
 have r:=hv.2;unfold Oe at r
 split at r
 ·rfl
 ·rfl
 ·rfl
 ·exact r.1.elim
 ·exact r.elim
def bj2(h:H)(n t sz i off:Nat)(rows:List (List AV)):aL h n (.Xn t sz rows i off)=[]:=by cases n<;>rfl
def bj1(n:Xb)(e XF:List Int):AF n e XF 0=List.replicate (EK (EP (IO n) XF)) 0:=by
 refine Zd λi=>?_
 by_cases hi:i<(EO (EP (IO n) XF)).toNat
 ·rw[md hi,Zp,EK,XO hi];rfl
 ·rw[Yg (by rw[kM];omega),Yg (by rw[abz,EK];omega)]
def bj0{j:Nat}(hj:j<C2 n)(hi:i<(EO (EP (IO n) XF)).toNat)(hK:zk n XF j=(i:Int)) :
  ∃y x,(AF n e XF j)[i]?=some y/\(BP n e)[j]?=some x/\(AF n e XF j).set i (y+x)=AF n e XF (j+1)/\(AF n e XF (j+1))[i]?=some (y+x):=by
 refine⟨_,_,md hi,Cs hj,?_,?_⟩
 ·cases c:BK n e j with
  | true =>rw[XO rfl];exact bj4 c hi hK
  | false =>
   rw[bj5 c,XS (by decide),abc];refine Zd λq=>?_;rw[YB]
   by_cases e1:i=q
   ·subst e1;rw[XO rfl,XO (by rw[kM];exact hi),md hi]
   ·rw[XS e1]
 ·rw[md hi,CW,mL];have:decide (EL (EP (IO n) XF) (EP (EN (IO n) (j:Int)) XF)=(i:Int))=true:=Yj hK;rw[this,aa1]
  rfl
def bi_{C:Xg}{r:List SR}{j:Nat}(hi:g.h.get i=.Xi true)(hj:g.h.get j=.Xi true)(hij:i≠j)(h:vp r t ((g.put i (.Xi false)).put j (.Xi false)) λvs=>K (fg vs) ((g.put i (.Xi false)).put j (.Xi false))):mN C d r t [.mark i,.mark j] g K:=by
 unfold mN;have:eE (I C) d [.mark i,.mark j] g=some ((g.put i (.Xi false)).put j (.Xi false)):=by
  have k:(g.put i (.Xi false)).h.get j=.Xi true:=by simp[VO,show ¬j=i by omega,hj]
  simp only[eE,G.get_eq,hi,k]
 rw[this];exact h
def LBs(p:Nat):List (Nat×AV):=[(1,Xq 0),(4,Xq p)]
theorem bi9[Xr]{m:Int}{q:AV}(hd:k<d)(hr:NR n)(hq:pD n XF (CZ n XF) (BP n e) m k q)(hp:CY XF (n.XD.length:Int)=true) :
  ∃r,ah C0 d 52 [q] g=.val r/\CH (One (AH n e XF)) (One (zp n e XF)) Xt 0 .nil r:=by
 have k7:=hq;obtain⟨t0,b,vw,ow,ww,e0,ht,hb,hv,ho,kp⟩:=k7;have kd:=hr.l2;have kl:=bc hp (by omega);have E:=aO hp;have T:=aZ (ps:=XF) hr.cs (λp hpm=>by rw[ap];exact E p hpm);have k4:(EP (IO n) XF).length=XF.length:=by simp[EP]
 have C:Wq (EP (IO n) XF):=⟨T,by omega⟩;obtain⟨N1,N2,N3⟩:=C.nc;obtain⟨W1,W2,W3⟩:=hr.wl;have ki:(CZ n XF).length<=n.XD.length:=mE _ _;have D:0<d+1:=XR d;have hw:∀g:G,Gy q g=.upd (Xq g.nx) (g.new (Xy 1 [[q]])):=λg=>by rw[e0];rfl
 have iq:∀h,aL h aF q=[]:=λh=>by rw[e0];exact bj2 h _ _ _ _ _ _
 have iv:∀h,aL h aF vw=[]:=λh=>PK hv _;have Z:GO 2 q=.val (.Xn t0 6 [[XE n.Xz,b,vw,ow,ww,XE m]] 0 2):=by rw[e0];exact bZ _ _ _ _ _ _
 have h9:zV q=.val q:=by rw[e0];rfl
 rw[WL];refine aP tL (xs:=[q]) (by rw[e0];simp only[aD,fj]) (by simp[fu]) (jb (m:=1) (aI _) (aI _) (by decide) (by decide)) (by decide) (by omega) ?_;simp only[sz,simprocAttr,fu,hw];obtain⟨G0,I⟩:∃G0,G0=G.empty.new (Xy 1 [[q]]):=⟨_,rfl⟩;have z0:G0.h.get 0=Xy 1 [[q]]:=by rw[I];simp[VO,show G.empty.nx=0 from rfl]
 have zn:G0.nx=1:=by rw[I];rfl
 rw[<-I];clear I;unfold jx;refine jR (P:=λt' df g'=>df=[]/\∃A p,St t' (LBs p)/\g'.h.get 0=Xy 1 [[q]]/\g'.h.get A=Xy 1 ((List.replicate (EK (EP (IO n) XF)) 0).map ci)/\g'.h.get p=Xy 1 [[.Xj A 0 0 (EK (EP (IO n) XF)) none]]/\0<A/\A<p/\p<g'.nx) ?_ ?_
 ·simp only[sz,simprocAttr,sf,h9,Z,bj,z0];refine aG (Bc D hq E (hv.tree (XH _)) (by omega)) λrc hrc=>?_;have ks:=λg:G=>xg (d:=d+1) (g:=g) D (hrc.sl g.h);have ir:∀h,aL h aF rc=[]:=λh=>PK (hrc.sl .nil) _;rw[gE T (by omega),<-N3]at ks;simp only[sz,simprocAttr,sf,ks];refine P_ N2 λg1 m1 n1 u1 l1=>?_;simp only[sy]at m1 n1 u1 l1;have y0:g1.h.get 0=Xy 1 [[q]]:=by rw[u1.1 0 (by omega)];simpa using z0
  have it:aw (AV.Xn t0 6 [[XE n.Xz,b,vw,ow,ww,XE m]] 0 2)=[]:=rfl;simp only[sz,simprocAttr,sf];refine⟨?_,?_⟩
  ·simp only[X7,X8,X3,XY];refine aE (false::(OQ (KI (true::(true::(true::[])))))) [(0,8),(1,8),(2,8),(3,8),(4,8),(5,8),(6,8),(7,8)] (by simp[Xl,am,aC,g_,uV]) (by decide) ?_;rintro p hp x y hx H;simp only[Yh,Yc,ZQ]at hp;rcases hp with rfl|rfl|rfl|rfl|rfl|rfl|rfl|rfl<;>(simp[g_,uV,fe,iq,iv,ir,sx]at hx H;subst hx;subst H;refine cK rfl rfl rfl rfl ?_ ?_ ?_<;>simp[am,aC,ge,it,l1]<;>omega)
  ·refine⟨G0.nx+7,g1.nx+1,by simp[St,LBs,sx],?_,?_,?_,by omega,by omega,by simp⟩
   ·simp[show ¬0=g1.nx+1 by omega,y0]
   ·simp[show ¬G0.nx+7=g1.nx+1 by omega,m1]
   ·simp[VO]
 rintro t df g1 ⟨rfl,A,p,⟨h1,h4,-⟩,f0,fA,fp,hA,kb,kk⟩;refine jR (P:=λt' df g'=>∃dm,df=[.mark dm]/\g'.h.get dm=.Xi true/\p<dm/\dm<g'.nx/\St t' (LBs p)/\g'.h.get 0=Xy 1 [[q]]/\(∃lo,g'.h.get A=.cells 1 ((AF n e XF (C2 n)).map ci) 0 lo false)/\g'.h.get p=Xy 1 [[.Xj A 0 0 (EK (EP (IO n) XF)) none]]) ?_ ?_
 ·simp only[sz,simprocAttr,h1,f0];refine aG (Q:=λr=>∃tg,r=.W_ 132 [] [.Xn tg 1 [[q]] 0 0]) (by obtain⟨tg,h⟩:=y6 (g:=g1) (aaS hd) hq;exact⟨_,h,tg,rfl⟩) ?_;rintro r ⟨tg,rfl⟩;simp only[sz,simprocAttr];refine yV (n:=n) (XF:=XF) (Xd:=CZ n XF) (mw:=BP n e) (m:=m) (k:=k) (tg:=tg) D hr hq E (by omega) jr (by omega) (ma _ _ _) (by simp[sx]) (by decide) (by decide)
   (λj g'=>g'.h.get 0=Xy 1 [[q]]/\(∃lo,g'.h.get A=.cells 1 ((AF n e XF j).map ci) 0 lo false)/\g'.h.get p=Xy 1 [[.Xj A 0 0 (EK (EP (IO n) XF)) none]]) ?_ ⟨f0,⟨false,?_⟩,fp⟩ ?_ ?_
  ·rintro j g3 g4 J ⟨a1,a2,F⟩;exact⟨by rw[J _ (by omega),a1],by rw[J _ (by omega)];exact a2,by rw[J _ (by omega),F]⟩
  ·rw[fA,bj1]
  ·rintro j x u g3 hj hx ⟨a1,⟨lo,a2⟩,F⟩ ke hu;simp only[sz,simprocAttr,iE];refine⟨?_,λf n5 f5=>?_⟩
   ·exact Pm _ _ _
   have k2:=bm (λc hc=>(hr.cs c hc).1) (j:Int);have hC:=dB k2 (ps:=XF) (λp hpm=>by rw[ap];exact E p hpm);have k5:=zX hr E j;obtain⟨fn,h6⟩:=XU k5.1;have R:fn<(EO (EP (IO n) XF)).toNat:=by have:(AJ n XF:Int)=EO (EP (IO n) XF):=N3;omega
   obtain⟨y,x',H,K,he,B⟩:=bj0 (e:=e) hj R h6;rw[hx]at K;injection K with K;subst K;have hk:0<=y+x/\y+x<=171992678400000000:=by rw[md R]at B;injection B with B;rw[<-B];exact xI hr (by omega)
   have f6:∀i,i<g3.nx->i≠g1.nx+1->f.h.get i=g3.h.get i:=λi h1 h2=>by rw[f5 i h2,aJ,aJ]
   have gp5:f.h.get g3.nx=Xy 2 [[XE (zk n (CZ n XF) j),XE x]]:=by rw[f5 _ (by omega),XO rfl]
   have b0:f.h.get 0=Xy 1 [[q]]:=by rw[f6 0 (by omega) (by omega),a1]
   have bA:f.h.get A=.cells 1 ((AF n e XF j).map ci) 0 lo false:=by rw[f6 A (by omega) (by omega),a2]
   have bp:f.h.get p=Xy 1 [[.Xj A 0 0 (EK (EP (IO n) XF)) none]]:=by rw[f6 p (by omega) (by omega),F]
   have U:Xu (λi=>W5 u=some i) 0 f.h (EP (EN (IO n) (j:Int)) XF) u:=by have h1:Xu (λi=>W5 u=some i) 0 g3.h (EP (EN (IO n) (j:Int)) XF) u:=hu.sl (α:=Int) (by simp[EP];omega) (VJ (λa=>aK.2 rfl) _) λi hi=>hi;exact h1.far8 λi hi=>by have:=hu.lt hi;exact f6 i (by omega) (by omega)
   have kn:=λ(g:G) (h:Xu (λi=>W5 u=some i) 0 g.h (EP (EN (IO n) (j:Int)) XF) u)=>bn7 (d:=d+1) (g:=g) (l:=EP (EN (IO n) (j:Int)) XF) (w:=u) D hr hq hp h hC;have k6:EL (EP (IO n) XF) (EP (EN (IO n) (j:Int)) XF)=(fn:Int):=h6;rw[k6]at kn;have oA:Own f 0 (.Xj A 0 0 (EK (EP (IO n) XF)) none) 1 ((AF n e XF j).map ci):=.inr ⟨A,0,lo,by omega,by omega,by rw[XN,kM];rfl,bA⟩;have z1:fn<((AF n e XF j).map ci).length:=by rw[XN,kM];exact R
   have V:((AF n e XF j).map ci)[fn]?=some (ci y):=by rw[XK,H];rfl
   have ru:=oA.rows;have w1:IntKind.wrap .i64 (y+x)=y+x:=an;simp only[iG,sz,simprocAttr,sf,h1,h4,b0,bp];rw[kn _ ?hx]
   case hx=>simpa using U
   simp only[sz,simprocAttr,sf,ru,z1,V,ci,gp5,w1];refine bF (b:=0) (v:=.Xj A 0 0 (EK (EP (IO n) XF)) none) (sz:=1) (n:=1) (i:=fn) (off:=0) (x:=XE (y+x)) (row:=ci y) (row':=ci (y+x)) (oA.fr (by simp<;>omega) (λi' hi'=>by simp)) V rfl rfl rfl λg6 o6 n6 M=>?_;rw[<-YS,he]at o6;have f8:∀i',i'≠A->g6.h.get i'=f.h.get i':=λi' hi'=>by rw[M i' (by simpa [W5] using λh:A=i'=>hi' h.symm)];simp
   simp only[sy]at n6;simp only[sz,simprocAttr];refine⟨?_,?_⟩
   ·simp only[X7,X8,X3,XY];exact aE (OQ (OO (true::[]))) [] (by simp[Xl,am,aC,pd]) (by decide) (by simp)
   rcases o6 with⟨h,-⟩|⟨id,ep,lo2,-,-,h,hg⟩
   ·cases h
   injection h with e1 e2;subst e1;subst e2;refine⟨by simp;omega,λi h1 h2=>by simp[f8 i (by omega)],.inl ⟨rfl,by rw[f8 0 (by omega),b0],⟨lo2,by simpa using hg⟩,by rw[f8 p (by omega),bp]⟩⟩
  ·rintro g' ⟨a1,a2,F⟩ hn O;simp only[sz,simprocAttr];exact⟨g1.nx,rfl,O,by omega,by omega,by simp[St,LBs,sx,h1,h4],a1,a2,F⟩
 rintro t df g2 ⟨dm,rfl,k1,k9,ka,⟨h1,h4,-⟩,f0,⟨lo,fA⟩,fp⟩;obtain⟨cs,o⟩:∃cs,cs=EP (IO n) XF:=⟨_,rfl⟩;obtain⟨W,hW⟩:∃W,W=AF n e XF (C2 n):=⟨_,rfl⟩;have hs:W.length=EK cs:=by rw[hW,kM,o];rfl
 have hm:∀i,i<EK cs->0<=W[i]?.getD 0:=λi hi=>by rw[hW,md (by rw[o]at hi;exact hi)];exact (xI hr W2).1
 have hB:AH n e XF=EN cs (AK W (EK cs - 1):Int):=by rw[o,hW];rfl
 have hl:zp n e XF=W[AK W (EK cs - 1)]?.getD 0:=by rw[o,hW];rfl
 rw[hB,hl];rw[<-hW]at fA;rw[<-o]at C N1 N2 N3 T k4 fp;have kc:=λc hc=>(C.b c hc).1;simp only[iI];refine bP (P:=λt' df g'=>df=[.mark dm]/\g'.nx=g2.nx+2/\(∀i,i<g2.nx->g'.h.get i=g2.h.get i)/\g'.h.get g2.nx=Xy 1 [[.XC]]/\g'.h.get (g2.nx+1)=Xy 1 [[XE (-1)]]/\St t' ((7,Xq g2.nx)::(8,Xq (g2.nx+1))::LBs p)) ?_ ?_
 ·have k8:∀(g:G) (i:Nat),dt (Xy 1 [[.XC]]) g i 0 0 1 0 .XC=.upd .undef (g.put i (Xy 1 [[.XC]])):=λg i=>rfl;simp only[sz,simprocAttr,k8,show ¬g2.nx=g2.nx+1 by omega,show ¬g2.nx+1=g2.nx by omega];simp[St,LBs,sx,h1,h4];intro i hi;rw[aJ,aJ,aJ,aJ]
 rintro t df g3 ⟨rfl,n3,f3,e7,e8,h7,h8,h1,h4,-⟩;rw[cX,cX];simp only[sz,simprocAttr,h1,f3 0 (by omega),f0,h9,Z,bj];refine aG (Bc D hq E (hv.tree (XH _)) (by omega)) λrc hrc=>?_;rw[<-o]at hrc;obtain⟨z,kz,hz⟩:=Cj (d:=d+1) (g:=aQ g3 []) (w:=rc) (cs:=cs) D (hrc.sl _);simp only[sz,simprocAttr,kz];refine F7 (cs:=cs) (w:=z) C hz (by simp[sx]) (by decide) (by decide)
  (λj g'=>(∃lo,g'.h.get A=.cells 1 (W.map ci) 0 lo false)/\g'.h.get p=Xy 1 [[.Xj A 0 0 (EK cs) none]]/\g'.h.get dm=.Xi true/\g'.h.get (g2.nx+1)=Xy 1 [[XE (if j=0 then -1 else W[AK W (j - 1)]?.getD 0)]] /\
   ∃u,g'.h.get g2.nx=Xy 1 [[u]]/\(j=0\/Own g' (g3.nx+3) u 1 ((EN cs (AK W (j - 1):Int)).map ci)))
  (λ_=>False) ?_ (λ_ _ _ h=>h) ?_ ?_ ?_ (λ_ h=>h.elim)
 ·rintro j g4 f ⟨J,hn,hf⟩ ⟨⟨lo,a1⟩,a2,F,a4,u,L,X⟩;exact⟨⟨lo,by rw[J.1 _ (by omega),a1]⟩,by rw[J.1 _ (by omega),a2],by rw[J.1 _ (by omega),F],by rw[J.1 _ (by omega),a4],u,by rw[J.1 _ (by omega),L],X.imp id λh=>h.fr hn λi hi=>by have:=h.lt hi;exact hf i (by omega) (by omega)⟩
 ·exact⟨⟨lo,by rw[f3 _ (by omega),fA]⟩,by rw[f3 _ (by omega),fp],by rw[f3 _ (by omega),k1],e8,.XC,e7,.inl rfl⟩
 ·rintro j u g4 hj ⟨⟨lo,a1⟩,a2,F,a4,u0,L,X⟩ kf hu;simp only[sz,simprocAttr,iF];refine⟨Fr.refl _,λf n5 f5 u5=>?_⟩;have b1:f.h.get A=.cells 1 (W.map ci) 0 lo false:=by rw[f5 _ (by omega),a1]
  have b2:f.h.get p=Xy 1 [[.Xj A 0 0 (EK cs) none]]:=by rw[f5 _ (by omega),a2]
  have b3:f.h.get dm=.Xi true:=by rw[f5 _ (by omega),F]
  have Y:=f5 (g2.nx+1) (by omega);rw[a4]at Y;have b5:f.h.get g2.nx=Xy 1 [[u0]]:=by rw[f5 _ (by omega),L]
  have U:Xu (λi=>g3.nx+2<=i/\i<g4.nx) 0 f.h (EN cs (j:Int)) u:=hu.far8 λi hi=>f5 i (by omega);have oA:Own f 0 (.Xj A 0 0 (EK cs) none) 1 (W.map ci):=.inr ⟨A,0,lo,by omega,by omega,by rw[XN,hs],b1⟩;have ru:=oA.rows;obtain⟨y,H,-,-⟩:=af (l:=W) (j:=j) (by omega);have z1:j<(W.map ci).length:=by rw[XN];omega
  have V:(W.map ci)[j]?=some (ci y):=by rw[XK,H];rfl
  have hk:=hm j hj;rw[H,XP]at hk;obtain⟨Gm,N⟩:∃Gm,Gm=(if j=0 then (-1:Int) else W[AK W (j - 1)]?.getD 0):=⟨_,rfl⟩;rw[<-N]at Y;have km:(EN cs (j:Int)).length<=8:=by rw[bO];exact C.l
  by_cases c:Gm<y
  ·have s:AK W j=j:=by
    cases j with
    |zero=>rfl
    | succ j =>rw[aJ,Zu]at N;rw[AK,H,XP,<-N,XO c]
   simp only[dW,sz,simprocAttr,sf,h4,h8,b2,Y,ru,z1,V,ci,c];refine bj3 (l:=EN cs (j:Int)) (P:=λi=>g3.nx+2<=i/\i<g4.nx) (k:=0) (by simpa using U) (λi hi=>by simp;omega) (by omega) λu' g6 o6 fr6 l6=>?_;simp only[sy]at o6 fr6 l6;have M:∀i,i<f.nx->g6.h.get i=f.h.get i:=λi hi=>by have:=fr6.2 i (by simp;omega);simpa using this
   have n6:f.nx+1<=g6.nx:=by have:=fr6.1;simp at this;omega
   have oA6:Own g6 0 (.Xj A 0 0 (EK cs) none) 1 (W.map ci):=oA.fr (by omega) λi hi=>M i (by have:=oA.lt hi;omega);obtain⟨vc,vt⟩:=o6.cell;simp only[sz,simprocAttr,sf,h4,h7,h8,M p (by omega),M g2.nx (by omega),M (g2.nx+1) (by omega),b2,Y,b5,oA6.rows,z1,V,ci,vc,vt,show ¬g2.nx+1=g2.nx by omega];refine⟨?_,?_⟩
   ·simp only[X7,X8,X3,XY];refine aE (false::(true::(KI (true::(true::[]))))) [(1,2),(1,3),(1,4),(1,5),(2,6),(3,6),(4,6),(5,6)] (by simp[Xl,am,aC,sY,cz]) (by decide) ?_;rintro p' ha x y' hx hh;simp only[Yh,Yc,ZQ]at ha;have k3:∀i∈g6.lg,f.nx<i:=λi hi=>by have:=l6 i hi;simp at this;omega
    have L:A<f.nx:=by omega
    have ir:aw (jK 1 (.Xj A 0 0 (EK cs) none) j 0)=[A]:=by rw[jI rfl];rfl
    have p5:p<f.nx:=by omega
    have fresh:∀y:W7,y.wr=[]->y.lk.big=false->(∀i∈y.lk.rd,i<f.nx)->y.lk.sr=[]->∀x:W7,x.wr=g6.lg->bX x y=true:=λy h1 h2 h3 h4 x h5=>HI (b:=f.nx) (λi hi=>by rw[h5]at hi;exact Nat.le_of_lt (k3 i hi)) h1 h2 h3 h4;rcases ha with rfl|rfl|rfl|rfl|rfl|rfl|rfl|rfl<;>(simp at hx hh;subst hx;subst hh)
    ·exact fresh _ rfl rfl (by simp[am,ge,p5]) rfl _ rfl
    ·exact fresh _ rfl rfl (by simp[aC]) rfl _ rfl
    ·exact fresh _ rfl rfl (by simp[am,El,L]) rfl _ rfl
    ·exact fresh _ rfl rfl (by simp[am,ir,L]) rfl _ rfl
    all_goals (refine cK rfl rfl rfl rfl ?_ ?_ ?_<;>simp[am,aC,ge,El,ir]<;>omega)
   have e1:∀i,i<f.nx->i≠g2.nx->i≠g2.nx+1->(if i=g2.nx+1 then Xy 1 [[XE y]] else if i=g2.nx then Xy 1 [[u']] else g6.h.get i)=f.h.get i:=λi h1 h2 h3=>by rw[XS h3,XS h2,M i h1]
   refine⟨by simp<;>omega,λi h1 h2=>?_,.inl ⟨rfl,⟨lo,?_⟩,?_,?_,?_,u',?_,.inr ?_⟩⟩
   ·simpa [VO] using e1 i h2 (by omega) (by omega)
   ·simpa [VO,b1] using e1 A (by omega) (by omega) (by omega)
   ·simp[show ¬p=g2.nx+1 by omega,show ¬p=g2.nx by omega]
   ·simpa [VO,b3] using e1 dm (by omega) (by omega) (by omega)
   ·simp[s,H]
   ·simp
   ·rw[s];refine Own.fr (g:=g6) ?_ (by simp<;>omega) λi hi=>?_
    ·rcases o6 with h|⟨id,ep,lo6,h1,h2⟩
     ·exact .inl h
     ·exact .inr ⟨id,ep,lo6,by omega,h2⟩
    ·have:=o6.lt hi;simp[VO,show ¬i=g2.nx+1 by omega,show ¬i=g2.nx by omega]
  ·have s:AK W j=AK W (j - 1)/\j≠0:=by
    cases j with
    |zero=>rw[XO rfl]at N;omega
    | succ j =>rw[aJ,Zu]at N;rw[AK,H,XP,<-N,XS c];exact⟨rfl,by omega⟩
   simp only[dW,sz,simprocAttr,h4,h8,b2,Y,ru,z1,V,ci,c];refine⟨XH _,λ_ _ _=>rfl,.inl ⟨rfl,⟨lo,b1⟩,b3,?_,u0,b5,.inr ?_⟩⟩
   ·rw[s.1,N,XS s.2]
   ·rw[s.1];rcases X with h|h
    ·exact absurd h s.2
    ·exact h.fr (by omega) λi hi=>by have:=h.lt hi;exact f5 i (by omega)
 ·rintro g' ⟨⟨lo,a1⟩,a2,F,a4,u,L,X⟩ hn O;rw[aJ]at a4;have o7:Own g' (g3.nx+3) u 1 ((EN cs (AK W (EK cs - 1):Int)).map ci):=X.elim (λh=>by omega) id;simp only[sz,simprocAttr,iH,h7,h8,a4,L];show mN C0 (d+1) _ _ [.mark g3.nx,.mark dm] g' _;refine bi_ O F (by omega) ?_;simp only[sz,simprocAttr];have o8:Own ((g'.put g3.nx (.Xi false)).put dm (.Xi false)) (g3.nx+3) u 1 ((EN cs (AK W (EK cs - 1):Int)).map ci):=o7.fr (by simp) λi hi=>by have:=o7.lt hi;simp[VO,show ¬i=g3.nx by omega,show ¬i=dm by omega]
  exact⟨λ_=>True,_,_,rfl,o8.ints (by rw[bO];have:=C.l;omega),aK.2 rfl⟩
def AM(n:Xb)(e XF:List Int):Int:=if zw n e XF=0 then (if rK n e=0 then 7 else 0) else zw n e XF
def zh(n:Xb)(e XF:List Int):List Int:=if AM n e XF=0 then AH n e XF else []
def f9(n:Xb)(e XF:List Int):QI:=if AM n e XF=0 then tD (zp n e XF).toNat (rK n e).toNat else (0,0)
def MU(n:Xb)(e XF:List Int):VS:=T2 (One (zh n e XF)) (WG (f9 n e XF)) (One (AM n e XF))
def bi8(n:Xb)(e XF:List Int):Q6 (MU n e XF) 2:=Jx (m:=2) (aI _) (di _) (aI _) (by decide) (by decide) (by decide)
def bi7{r:AV}(h:MU n e XF Xt 0 .nil r):∃a,r=.WM [a,.agg [XE (f9 n e XF).1,XE (f9 n e XF).2],XE (AM n e XF)]/\Xu Xt 0 .nil (zh n e XF) a:=by obtain⟨a,b,c,rfl,⟨a',k,ha⟩,hb,hc⟩:=h;injection k with k;subst k;have hc:=aK.1 hc;injection hc with hc;rw[zb.1 hb,hc];exact⟨_,rfl,ha⟩
def IM{E:Int}(hE:AM n e XF=E)(h0:E≠0):MU n e XF P 0 h (.WM [.XC,.agg [XE 0,XE 0],XE E]):=by
 have hL:zh n e XF=[]:=by rw[zh,XS (by rw[hE];exact h0)]
 have k:f9 n e XF=(0,0):=by rw[f9,XS (by rw[hE];exact h0)]
 unfold MU;rw[hL,k,hE];exact⟨_,_,_,rfl,⟨.XC,rfl,by simp,rfl⟩,zb.2 rfl,aK.2 rfl⟩
def bi6(hr:NR n)(e XF:List Int):0<=zp n e XF/\zp n e XF<=171992678400000000:=by
 have hw:=hr.wl.2.1;unfold zp
 by_cases c:pH n e XF<(EO (EP (IO n) XF)).toNat
 ·rw[md c];exact xI hr hw
 ·rw[Yg (by rw[kM];omega)];decide
def yu(n:Xb)(e XF l:List Int):Int:=CW n (λw=>BK n e w&&zu n XF l w) (C2 n)
def KQ[Xr]{k3:Nat}{P3:Nat->Prop}(hd:0<d)(hm:WG n Xt 0 g.h v)(he:Xu P1 k1 g.h e w)(hv:Xu P2 k2 g.h XF u)(hl:Xu P3 k3 g.h l z)(hr:NR n)(hel:e.length=n.XD.length)(hp:CY XF (n.XD.length:Int)=true)(hbl:l.length<=XF.length) :
  ah C0 d 56 [v,w,u,z] g=.val (XE (yu n e XF l)):=by
 obtain⟨b,rows,rfl,e1,m,hN,-⟩:=cg d hm;let⟨w',e2,y⟩:=aB he d;let⟨u',e3,x⟩:=aB hv d;let⟨z',F,B⟩:=aB hl d;obtain⟨W1,W2,W3⟩:=hr.wl;have f:=XR d;have hw:=λg=>yX (d:=d+1) (g:=g) (P:=Xt) (k:=0) f (m g.h) hr;rw[WL];refine cq B6 (xs:=[.agg [XE n.Xz,b],w',u',z']) (by simp only[aD,e1,e2,e3,F]) (by simp[oT]) hd ?_;simp only[sz,simprocAttr,oT,sT,qf,qg];refine aU (C2 n) (by omega) (λj t df g=>df=[]/\g.h.get 0=Xy 2 [[XE n.Xz,b]]/\St t [(1,w'),(2,u'),(3,z'),(4,Xq 0),(9,XE (CW n (λw=>BK n e w&&zu n XF l w) j))])
  ⟨rfl,by simp[VO,show G.empty.nx=0 from rfl],by simp[St,sx,CW]⟩ (by simp[sx]) (by decide)
  (by rintro i t df g v s (rfl|rfl|rfl) ⟨a1,a2,⟨b1,b2,C,D,E,-⟩⟩<;>exact⟨a1,a2,by simp[St,sx,b1,b2,C,D,E]⟩) ?_ ?_ ?_
 ·rintro j t df g3 H ⟨rfl,g0,⟨h1,h2,h3,h4,h9,-⟩⟩ Xp;simp only[sz,simprocAttr,h4,Xp,g0,hw];simp[St,sx,h1,h2,h3,h4,h9]
 ·rintro j t df g3 H ⟨rfl,g0,⟨h1,h2,h3,h4,h9,-⟩⟩ Xp;have o:=bO (IO n) (j:Int);rw[ap]at o;simp only[sz,simprocAttr,h4,Xp,g0];refine aG (ui (P:=Xt) f (m _) hr (by omega)) λrv hrv=>?_;have a:=λg=>wV (d:=d+1) (g:=g) (P:=Xt) (P2:=Xt) (k:=0) (k2:=max k1 d) (XB:=EN (IO n) (j:Int)) (e:=e) f (hrv.sl g.h) (y g.h) (by omega);have c:=λg:G=>Ei f (hrv.sl g.h) (x g.h) (B g.h) (by rw[o];exact aO hp) hbl;have r:yn (EN (IO n) (j:Int)) e=BK n e j:=rfl;have q:decide ((EP (EN (IO n) (j:Int)) XF).take l.length=l)=zu n XF l j:=rfl;rw[r]at a;rw[q]at c;have A:∀g,ah C0 (d+1) 69 [.agg [XE n.Xz,b],XE (j:Int)] g=.val (XE (BJ n j)):=λg=>yW f (m g.h) hr (by omega);cases c1:BK n e j with
  | false =>rw[c1]at a;simp only[sz,simprocAttr,h1,a];exact⟨⟨g0,by simp[St,sx,h1,h2,h3,h4,h9,CW,c1]⟩,by simp[Xp]⟩
  | true =>
   rw[c1]at a;cases c2:zu n XF l j with
   | false =>rw[c2]at c;simp only[sz,simprocAttr,h1,h2,h3,a,c];exact⟨⟨g0,by simp[St,sx,h1,h2,h3,h4,h9,CW,c2]⟩,by simp[Xp]⟩
   | true =>
    rw[c2]at c;have I:CW n (λw=>BK n e w&&zu n XF l w) (j+1)=CW n (λw=>BK n e w&&zu n XF l w) j+BJ n j:=by rw[CW,c1,c2];rfl
    have J:=xI hr (p:=λw=>BK n e w&&zu n XF l w) (j:=j+1) (by omega);have w1:IntKind.wrap .i64 (CW n (λw=>BK n e w&&zu n XF l w) j+BJ n j)=CW n (λw=>BK n e w&&zu n XF l w) (j+1):=by rw[<-I,an]
    simp only[sz,simprocAttr,h1,h2,h3,h4,h9,Xp,g0,a,c,A,w1];simp[St,sx,h1,h2,h3,h4]
 ·rintro t df g ⟨rfl,-,⟨-,-,-,-,h9,-⟩⟩;simp only[sz,simprocAttr,qh,h9,yu]
def Ch(hr:NR n)(hp:CY XF (n.XD.length:Int)=true)(hcs:Wq (EP (IO n) XF))(hi:i<EK (EP (IO n) XF)) :
  (AF n e XF (C2 n))[i]?=some (yu n e XF (EN (EP (IO n) XF) (i:Int))):=by
 rw[md hi];congr 1;refine EE λw _=>?_;have a:=bm (λc hc=>(hr.cs c hc).1) (w:Int);have hC:=dB a (λp hpm=>by rw[ap];exact aO hp p hpm);have k:=λc hc=>(hcs.b c hc).1;rw[mL];congr 1;rw[zu,bO,<-hC.len,XV];refine decide_eq_decide.2 ⟨λh=>?_,λh=>?_⟩
 ·rw[<-h,cx k hC]
 ·rw[h,lR hcs i hi]
def bi5[Xr](hd:0<d)(hm:WG n Xt 0 g.h v)(he:Xu P1 k1 g.h e w)(hv:Xu P2 k2 g.h XF u)(hr:NR n)(hel:e.length=n.XD.length)(hp:CY XF (n.XD.length:Int)=true) :
  ∃r,ah C0 d 55 [v,w,u] g=.val r/\IT 0 (AH n e XF) r:=by
 obtain⟨b,rows,rfl,e1,A,hN,-⟩:=cg d hm;let⟨w',e2,I⟩:=aB he d;let⟨u',e3,C⟩:=aB hv d;have F:=hr.l2;have O:=bc hp (by omega);have B:=aZ (ps:=XF) hr.cs (λp hpm=>by rw[ap];exact aO hp p hpm);have H:(EP (IO n) XF).length=XF.length:=by simp[EP]
 have a:Wq (EP (IO n) XF):=⟨B,by omega⟩;let⟨N1,N2,N3⟩:=a.nc;obtain⟨cs,k⟩:∃cs,cs=EP (IO n) XF:=⟨_,rfl⟩;obtain⟨W,hW⟩:∃W,W=AF n e XF (C2 n):=⟨_,rfl⟩;have s:∀i,i<EK cs->W[i]?=some (yu n e XF (EN cs (i:Int))):=λi hi=>by rw[hW,k];exact Ch hr hp a (by rw[<-k];exact hi)
 have hB:AH n e XF=EN cs (AK W (EK cs - 1):Int):=by rw[k,hW];rfl
 rw[hB];rw[<-k]at B H a N1 N2 N3;have f:=XR d;have kw:=λ(g:G) (x:AV) (i:Nat) (hx:Xu Xt 0 .nil (EN cs (i:Int)) x)=>KQ (d:=d+1) (g:=g) (l:=EN cs (i:Int)) f (A g.h) (I g.h) (C g.h) (hx.wide (P:=Xt) (h':=g.h) (k':=0) (XH 0)) hr hel hp (by rw[bO];omega);rw[WL];refine aP E6 (xs:=[.agg [XE n.Xz,b],w',u']) (by simp only[aD,e1,e2,e3]) (by simp[tY]) (aI _) (by decide) hd ?_;simp only[sz,simprocAttr,tY,wu];refine aG (mF f (A _) (C _) F (by omega) (aO hp)) λrc hrc=>?_;rw[<-k]at hrc;simp only[sz,simprocAttr];refine aG (Ml f (hrc.sl _) a) λra o=>?_;let⟨ra',D,o⟩:=o;cases D;let⟨rs,q,Y,R,Z⟩:=Xu.all o;have q:∀h',ak h' 1 ra=some rs:=q;have al:(yk cs (EK cs)).length=EK cs:=by simp[yk]
 have z:∀i,i<EK cs->∃x,rs[i]?=some [x]/\Xu Xt 0 .nil (EN cs (i:Int)) x:=λi hi=>by let⟨row,Q,q2⟩:=R i (EN cs (i:Int)) (by simp[yk,hi]);obtain⟨x,rfl,hx⟩:=bo.1 q2;exact⟨x,Q,hx⟩
 have lr:∀g,bC .slice ra g=.val (XE (EK cs:Int)):=λg=>by rw[bQ (q .nil)];congr 3;omega
 let⟨T,U,V⟩:=z 0 (by omega);have J:0<rs.length:=by omega
 have E:∀g,Fi 1 ra (XE 0) g=.val (jK 1 ra 0 0):=λg=>DS (q g.h) J g rfl;simp only[sz,simprocAttr,E,q,J,U];refine gi (λm t df g=>df=[]/\∃(j:Nat) (x:AV),m=EK cs - j/\1<=j/\j<=EK cs/\g.h.get 0=Xy 2 [[XE n.Xz,b]]/\Xu Xt 0 .nil (EN cs (AK W (j - 1):Int)) x/\St t [(1,w'),(2,u'),(3,Xq 0),(7,ra),(8,x),(9,XE (j:Int))]) (EK cs - 1)
  ⟨rfl,1,T,rfl,XH _,N1,by simp[VO,show G.empty.nx=0 from rfl],V,by simp[St,sx]⟩ ?_
 rintro m t df g ⟨rfl,j,x,rfl,j1,X,g0,hx,⟨h1,h2,h3,h7,h8,h9,-⟩⟩
 by_cases c:j<EK cs
 ·have c':(j:Int)<(EK cs:Int):=by omega
  let⟨y,K,L⟩:=z j c;have hlt:j<rs.length:=by omega
  have N:=CJ W (j - 1);have ka:W[AK W (j - 1)]?.getD 0=yu n e XF (EN cs (AK W (j - 1):Int)):=by rw[s _ (by omega)];rfl
  have kb:W[j]?.getD 0=yu n e XF (EN cs (j:Int)):=by rw[s _ c];rfl
  have kam:AK W j=if yu n e XF (EN cs (AK W (j - 1):Int))<yu n e XF (EN cs (j:Int)) then j else AK W (j - 1):=by obtain⟨i,rfl⟩:∃i,j=i+1:=⟨j - 1,by omega⟩;rw[Zu]at ka ⊢;rw[AK,ka,kb]
  have w1:IntKind.wrap .i64 ((j:Int)+1)=((j+1:Nat):Int):=by rw[an];rfl
  have k1:=λg=>kw g y j L;have k2:=λg=>kw g x (AK W (j - 1)) hx
  by_cases c2:yu n e XF (EN cs (AK W (j - 1):Int))<yu n e XF (EN cs (j:Int))
  ·rw[XO c2]at kam;simp only[sz,simprocAttr,je,mY,h1,h2,h3,h7,h8,h9,lr,c',q,hlt,K,g0,k1,k2,c2,w1];exact⟨EK cs - (j+1),by omega,j+1,y,rfl,by omega,by omega,by rw[Zu,kam];exact L,by simp[St,sx,h1,h2,h3,h7]⟩
  ·rw[XS c2]at kam;simp only[sz,simprocAttr,je,mY,h1,h2,h3,h7,h8,h9,lr,c',q,hlt,K,g0,k1,k2,c2,w1];exact⟨EK cs - (j+1),by omega,j+1,x,rfl,by omega,by omega,by rw[Zu,kam];exact hx,by simp[St,sx,h1,h2,h3,h7,h8]⟩
 ·have M:j=EK cs:=by omega
  have c':¬(j:Int)<(EK cs:Int):=by omega
  subst M;simp only[sz,simprocAttr,je,uP,h7,h8,h9,lr,c'];exact⟨Xt,x,rfl,hx.tree (XH 0)⟩
theorem bi4[Xr](hd:0<d)(hm:WG n Xt 0 g.h v)(he:Xu P1 k1 g.h e w)(hv:Xu P2 k2 g.h XF u) :
  ∃r,ah C0 d 17 [v,w,u] g=.val r/\MU n e XF Xt 0 .nil r:=by
 obtain⟨b,rows,rfl,e1,f,hN,-⟩:=cg d hm;obtain⟨w',e2,i⟩:=aB he d;obtain⟨u',e3,o⟩:=aB hv d;have k:=XR d;have ke:=λg=>Mo (d:=d+1) (g:=g) k (f g.h) (i g.h) (o g.h);rw[WL];refine aP GM (xs:=[.agg [XE n.Xz,b],w',u']) (by simp only[aD,e1,e2,e3]) (by simp[my]) (bi8 n e XF) (by decide) hd ?_;have fw0:d_ [XE 0,XE 0] []=some [XE 0,XE 0]:=rfl
 by_cases c:zw n e XF=0
 ·obtain⟨⟨hr,z⟩,a⟩:=tf.1 c;have m:=(Dr z).1;have km:=λg=>QR (d:=d+1) (g:=g) k (f g.h) hr (i g.h) m;have A:=IU hr e
  by_cases c2:rK n e=0
  ·have j:AM n e XF=7:=by rw[AM,XO c,XO c2]
   simp only[sz,simprocAttr,my,l8,ke,c,km,c2,fw0];exact⟨λ_=>True,IM j (by decide)⟩
  ·have j:AM n e XF=0:=by rw[AM,XO c,XS c2]
   simp only[sz,simprocAttr,my,l8,ke,c,km,c2];refine aG (bi5 (n:=n) (e:=e) (XF:=XF) k (f _) (i _) (o _) hr m a) λrb hrb=>?_;have hb:=bi6 hr e XF;obtain⟨bw,q⟩:=XU hb.1;obtain⟨ms,t⟩:=XU A.1;have E:=hr.l2;have H:=bc a (by omega);have B:=aZ (ps:=XF) hr.cs (λp hpm=>by rw[ap];exact aO a p hpm);have F:(EP (IO n) XF).length=XF.length:=by simp[EP]
   have s:Wq (EP (IO n) XF):=⟨B,by omega⟩;have hlt:pH n e XF<EK (EP (IO n) XF):=by have h1:=CJ (AF n e XF (C2 n)) (EK (EP (IO n) XF) - 1);have h2:=s.nc.1;unfold pH;omega
   have C:yu n e XF (AH n e XF)=(bw:Int):=by
    have:=Ch (e:=e) hr a s hlt;have h2:zp n e XF=yu n e XF (AH n e XF):=by rw[zp,this];rfl
    rw[<-h2,q]
   have kw:=λg:G=>KQ (d:=d+1) (g:=g) (l:=AH n e XF) k (f g.h) (i g.h) (o g.h) (hrb.sl g.h) hr m a (by rw[AH,bO];omega);have D:f9 n e XF=tD bw ms:=by rw[f9,XO j,q,t];rfl
   have hL:zh n e XF=AH n e XF:=by rw[zh,XO j]
   have kr:=λg=>UC (d:=d+1) (g:=g) (x:=bw) (y:=ms) k (by omega) (by omega) (by omega);simp only[sz,simprocAttr,kw,C,t,kr];refine⟨λ_=>True,?_⟩;unfold MU;rw[hL,D,j];exact⟨_,_,_,rfl,⟨_,rfl,(hrb.sl .nil).wide (XH 0)⟩,zb.2 rfl,aK.2 rfl⟩
 ·have j:AM n e XF=zw n e XF:=by rw[AM,XS c]
  simp only[sz,simprocAttr,my,l8,ke,c,fw0];exact⟨λ_=>True,IM j c⟩
def MK(hl:XB.length=XF.length):zl n XF (BP n e) XB (C2 n)=yu n e XF XB:=by
 have key:∀j,j<=C2 n->zl n XF (BP n e) XB j=CW n (λw=>BK n e w&&zu n XF XB w) j:=by
  intro j
  induction j with
  |zero=>intro _;rfl
  | succ j ih =>
   intro h;rw[zl,ih (by omega),CW,Cs (by omega)];have hb:zu n XF XB j=decide (EP (EN (IO n) (j:Int)) XF=XB):=by unfold zu;rw[XZ (by simp[EP];omega)]
   rw[hb];congr 1
   by_cases c:EP (EN (IO n) (j:Int)) XF=XB
   ·rw[XO c,Yj c,aa1];rfl
   ·rw[XS c,Yq c,aaP];rfl
 exact key _ (XH _)
def wW(w' u' x' z':AV)(wt:Int):List (Nat×AV):=[(1,w'),(2,u'),(3,x'),(4,z'),(5,Xq 0),(11,XE wt)]
def bi3[Xr](hd:0<d)(hm:∀h,WG n Xt 0 h (.agg [XE n.Xz,b]))(hu:∀h,Xu Xt k h XF u')(hu1:K6 u')(hz:∀h,Xu Xt k h proof z')(hp:CY XF (n.XD.length:Int)=true)(hr:NR n)
  (h0:g.h.get 0=Xy 2 [[XE n.Xz,b]]) (ht:St t (wW w' u' x' z' wt)) (h12:Xs t 12=XE 0)
  (yes:∀t,proof.all (BI n XF)=true->St t (wW w' u' x' z' wt)->Q (.exit 0) t [] g) (no:∀t,proof.all (BI n XF)=false->St t [(10,.bool false)]->Q .ret t [] g) :
  VY (wp C0 d none ko) Q t [] g:=by
 let⟨rows,r,E,D,F⟩:=gC (hz .nil);have lz:∀g:G,bC .slice z' g=.val (XE (proof.length:Int)):=λg=>(hz .nil).len g;simp only[ko];refine aU proof.length (hz .nil).1 (λj t df g'=>df=[]/\g'=g/\St t (wW w' u' x' z' wt)/\∀i,i<j->∀b,proof[i]?=some b->BI n XF b=true) ⟨rfl,rfl,ht,λi h=>absurd h (aao i)⟩ h12 (by decide)
  (by rintro j t df g v s (rfl|rfl|rfl) h<;>simpa[St,wW,sx]using h) ?_ ?_ ?_
 ·rintro j t df g' q ⟨rfl,rfl,⟨h1,h2,h3,h4,h5,f,-⟩,m⟩ h12;simp only[sz,simprocAttr,h4,h12,lz];exact⟨by simp[St,wW,sx,h1,h2,h3,h4,h5,f],m⟩
 ·rintro j t df g' q ⟨rfl,rfl,⟨h1,h2,h3,h4,h5,f,-⟩,m⟩ h12;obtain⟨c,hb,-,o⟩:=af q;let⟨z,u,w,p⟩:=D j c hb;have kb:=λg:G=>Mm hd (hm g.h) (hu g.h) hu1 (p.tree (XH _)) hr hp;have ld:a_ (Xy 2 [[XE n.Xz,b]]) 0 0 true 2 0=.val (.agg [XE n.Xz,b]):=rfl
  by_cases h:BI n XF c=true
  ·simp only[sz,simprocAttr,h2,h4,h5,h0,ld,h12,r,u,w,kb,h];refine⟨by simp[St,wW,sx,h1,h2,h3,h4,h5,f],λi hi b' a=>?_⟩
   by_cases e:i=j
   ·subst e;rw[hb]at a;cases a;exact h
   ·exact m i (by omega) b' a
  ·have h':BI n XF c=false:=by simpa using h
   simp only[sz,simprocAttr,h2,h4,h5,h0,ld,h12,r,u,w,kb,h'];refine no _ ?_ (by simp[St,sx]);rw[ZJ];intro C;exact h (XQ.1 C c o)
 ·rintro t df g' ⟨rfl,rfl,ht,m⟩;refine yes t ?_ ht;rw[XQ];intro b hb;let⟨i,hi⟩:=Yd hb;exact m i (XI.1 hi).1 b hi
def GZ:∀{l m:List Int},l.length=m.length->zt l m=0->l=m
 |[],[],_,_=>rfl
 |[],_::_,h,_=>by cases h
 |_::_,[],h,_=>by cases h
 | a::l,b::m,h,h0=>by
  rw[zt]at h0
  split at h0
  ·rename_i c;exact absurd h0 c
  ·rename_i c;have:a=b:=by
    have c:AO a b=0:=by simpa using c
    unfold AO at c
    split at c
    ·cases c
    ·split at c
     ·cases c
     ·omega
   rw[this,GZ (by simpa using h) h0]
def U7(w' u' x' z' a':AV)(wt:Int)(i:Nat):List (Nat×AV):=(13,a')::(14,XE (i:Int))::wW w' u' x' z' wt
def bi2[Xr]{a':AV}(hd:0<d)(hz:∀h,Xu Xt k h proof z')(hr:NR n)(hp:CY XF (n.XD.length:Int)=true)(ha:∀h,Xu Xt 0 h (yk (EP (IO n) XF) (EK (EP (IO n) XF))) a')(ha1:T0 .nil a')(hbeg:proof.all (BI n XF)=true)
  (hi:i<EK (EP (IO n) XF)) (ht:St t (U7 w' u' x' z' a' wt i)) (U4:Xs t 15=XE 0) (h16:Xs t 16=XE 0)
  (fin:∀t,St t ((15,XE (BU (EP (IO n) XF) proof i:Int))::U7 w' u' x' z' a' wt i)->Q (.exit 4) t [] g) :
  VY (wp C0 d none ku) Q t [] g:=by
 let⟨rows,K,r2,r3,r4⟩:=gC (hz .nil);let⟨rows2,F,q2,q3,q4⟩:=gC (ha .nil);have Z:=hr.l2;have h7:=bc hp (by omega);have o:=aO hp;have D:=aZ (ps:=XF) hr.cs (λp hpm=>by rw[ap];exact o p hpm);have C:(EP (IO n) XF).length=XF.length:=by simp[EP]
 have l:Wq (EP (IO n) XF):=⟨D,by omega⟩;let⟨N1,N2,N3⟩:=l.nc;have lz:∀g:G,bC .slice z' g=.val (XE (proof.length:Int)):=λg=>(hz .nil).len g;simp only[ku,p_];refine aU proof.length (hz .nil).1 (λj t df g'=>df=[]/\g'=g/\St t ((15,XE (BU (EP (IO n) XF) (proof.take j) i:Int))::U7 w' u' x' z' a' wt i)) ⟨rfl,rfl,U4,ht⟩ h16 (by decide)
  (by rintro j t df g v s (rfl|rfl|rfl) h<;>simpa[St,U7,wW,sx]using h) ?_ ?_ ?_
 ·rintro j t df g' I ⟨rfl,rfl,U4,a,b,h1,h2,h3,h4,h5,e,-⟩ h16;simp only[sz,simprocAttr,h4,h16,lz];simp[St,U7,wW,sx,h1,h2,h3,h4,h5,e,a,b,U4]
 ·rintro j t df g' I ⟨rfl,rfl,U4,a,b,h1,h2,h3,h4,h5,e,-⟩ h16;let⟨c,hb,B,A⟩:=af I;let⟨z,N,O,q⟩:=r3 j c hb;let⟨y,H,M,hy⟩:=q3 i (EN (EP (IO n) XF) (i:Int)) (by simp[yk,hi]);let⟨W,x⟩:=Cg (XQ.1 hbeg c A);have lc:∀g:G,bC .slice z g=.val (XE (c.length:Int)):=λg=>q.len g;have J:(EN (EP (IO n) XF) (i:Int)).length=XF.length:=by rw[bO,C]
  have Y:=Ck l x (by omega) hi;have f:BU (EP (IO n) XF) (proof.take (j+1)) i=BU (EP (IO n) XF) (proof.take j) i+if xL (EP (IO n) XF) c i then 1 else 0:=by rw[B,HZ]
  have X:BU (EP (IO n) XF) (proof.take j) i<=j:=by unfold BU;exact Ya (aby _ _) (by rw[X5];omega)
  have h6:=(hz .nil).1;have E:K6 y:=ha1 rows2 (F .nil) y (XL H);obtain⟨s,L,s2⟩:=Ew (c:=c.length) hy E (by omega);have kc:=λg:G=>qt (d:=d) (g:=g) hd (q.tree (h':=g.h) (XH _)) (s2.tree (h':=g.h) (XH _)) (by rw[X5];omega);have m:(zt c ((EN (EP (IO n) XF) (i:Int)).take c.length)=0)=(xL (EP (IO n) XF) c i=true):=by
   rw[Y,X9];refine propext ⟨λh=>?_,λh=>?_⟩
   ·exact (GZ (by rw[X5];omega) h).symm
   ·rw[h,xu]
  by_cases h:xL (EP (IO n) XF) c i=true
  ·rw[XO h]at f;have h0:zt c ((EN (EP (IO n) XF) (i:Int)).take c.length)=0:=by rw[m];exact h
   have w1:IntKind.wrap .i64 ((BU (EP (IO n) XF) (proof.take j) i:Int)+1)=(BU (EP (IO n) XF) (proof.take (j+1)) i:Int):=by rw[f,an];rfl
   simp only[sz,simprocAttr,h4,h16,a,b,K,N,O,F,H,M,lc,YD,Yz,L,kc,h0,U4,w1];simp[St,U7,wW,sx,h1,h2,h3,h4,h5,e,a,b]
  ·rw[XS h,Zf]at f;have h0:¬zt c ((EN (EP (IO n) XF) (i:Int)).take c.length)=0:=by rw[m];exact h
   simp only[sz,simprocAttr,h4,h16,a,b,K,N,O,F,H,M,lc,YD,Yz,L,kc,h0];simp[St,U7,wW,sx,h1,h2,h3,h4,h5,e,a,b,U4,f]
 ·rintro t df g' ⟨rfl,rfl,ht⟩;rw[XV]at ht;exact fin t ht
def bi1[Xr]{a':AV}(hd:0<d)(hz:∀h,Xu Xt k h proof z')(hr:NR n)(hp:CY XF (n.XD.length:Int)=true)(ha:∀h,Xu Xt 0 h (yk (EP (IO n) XF) (EK (EP (IO n) XF))) a')(ha1:T0 .nil a')(hbeg:proof.all (BI n XF)=true)
  (ht:St t ((13,a')::wW w' u' x' z' wt)) (h14:Xs t 14=XE 0)
  (yes:∀t,(List.range (EK (EP (IO n) XF))).all (λi=>decide (BU (EP (IO n) XF) proof i=1))=true->St t (wW w' u' x' z' wt)->Q (.exit 2) t [] g) (no:∀t,(List.range (EK (EP (IO n) XF))).all (λi=>decide (BU (EP (IO n) XF) proof i=1))=false->St t [(10,.bool false)]->Q .ret t [] g) :
  VY (wp C0 d none ky) Q t [] g:=by
 have f:(yk (EP (IO n) XF) (EK (EP (IO n) XF))).length=EK (EP (IO n) XF):=by simp[yk]
 have la:∀g:G,bC .slice a' g=.val (XE (EK (EP (IO n) XF):Int)):=λg=>by have:=(ha .nil).len g;rwa [f]at this
 have hN:=(ha .nil).1;rw[f]at hN;simp only[ky,qa];refine aU (EK (EP (IO n) XF)) hN (λj t df g'=>df=[]/\g'=g/\St t ((13,a')::wW w' u' x' z' wt)/\(List.range j).all (λi=>decide (BU (EP (IO n) XF) proof i=1))=true) ⟨rfl,rfl,ht,rfl⟩ h14 (by decide)
  (by rintro j t df g v s (rfl|rfl|rfl) h<;>simpa[St,wW,sx]using h) ?_ ?_ ?_
 ·rintro j t df g' m ⟨rfl,rfl,⟨a,h1,h2,h3,h4,h5,b,-⟩,e⟩ h14;simp only[sz,simprocAttr,a,h14,la];exact⟨by simp[St,wW,sx,h1,h2,h3,h4,h5,b,a],e⟩
 ·rintro j t df g' m ⟨rfl,rfl,⟨a,h1,h2,h3,h4,h5,b,-⟩,e⟩ h14;simp only[sz];refine bi2 (i:=j) (w':=w') (u':=u') (x':=x') (wt:=wt) hd hz hr hp ha ha1 hbeg m (by simp[St,U7,wW,sx,h1,h2,h3,h4,h5,b,a,h14]) (by simp[sx]) (by simp[sx]) ?_;rintro t ⟨U4,a,h14,h1,h2,h3,h4,h5,b,-⟩;have hs:=bS (λi=>decide (BU (EP (IO n) XF) proof i=1)) j
  by_cases c:BU (EP (IO n) XF) proof j=1
  ·have c':(BU (EP (IO n) XF) proof j:Int)=1:=by omega
   simp only[kC,sz,simprocAttr,U4,c'];exact⟨⟨by simp[St,wW,sx,h1,h2,h3,h4,h5,b,a],by rw[hs,e,Yj c];rfl⟩,h14⟩
  ·have c':¬(BU (EP (IO n) XF) proof j:Int)=1:=by omega
   simp only[kC,sz,simprocAttr,U4,c'];exact no _ (dI m (Yq c)) (by simp[St,sx])
 ·rintro t df g' ⟨rfl,rfl,⟨-,ht⟩,e⟩;exact yes t e ht
def bi0[Xr](hd:0<d)(hm:∀h,WG n Xt 0 h (.agg [XE n.Xz,b]))(hw:∀h,Xu Xt k h e w')(hu:∀h,Xu Xt k h XF u')(hx:∀h,Xu Xt k h XB x')(hz:∀h,Xu Xt k h proof z')(hel:e.length=n.XD.length)(hp:CY XF (n.XD.length:Int)=true)(hr:NR n)(hvl:XB.length=XF.length)(hbeg:proof.all (BI n XF)=true)
  (h0:g.h.get 0=Xy 2 [[XE n.Xz,b]]) (ht:St t (wW w' u' x' z' wt)) (h17:Xs t 17=XE 0)
  (yes:∀t,(proof.all λb=>BO n XF (CZ n XF) (BP n e) XB b wt)=true->Q (.exit 6) t [] g) (no:∀t,(proof.all λb=>BO n XF (CZ n XF) (BP n e) XB b wt)=false->St t [(10,.bool false)]->Q .ret t [] g) :
  VY (wp C0 d none kA) Q t [] g:=by
 let⟨rows,M,W,N,X⟩:=gC (hz .nil);have lz:∀g:G,bC .slice z' g=.val (XE (proof.length:Int)):=λg=>(hz .nil).len g;have lx:∀g:G,bC .slice x' g=.val (XE (XB.length:Int)):=λg=>(hx .nil).len g;have ld:a_ (Xy 2 [[XE n.Xz,b]]) 0 0 true 2 0=.val (.agg [XE n.Xz,b]):=rfl;simp only[kA];refine aU proof.length (hz .nil).1 (λj t df g'=>df=[]/\g'=g/\St t (wW w' u' x' z' wt)/\∀i,i<j->∀b,proof[i]?=some b->BO n XF (CZ n XF) (BP n e) XB b wt=true) ⟨rfl,rfl,ht,λi h=>absurd h (aao i)⟩ h17 (by decide)
  (by rintro j t df g v s (rfl|rfl|rfl) h<;>simpa[St,wW,sx]using h) ?_ ?_ ?_
 ·rintro j t df g' F ⟨rfl,rfl,⟨h1,h2,h3,h4,h5,a,-⟩,u⟩ h17;simp only[sz,simprocAttr,h4,h17,lz];exact⟨by simp[St,wW,sx,h1,h2,h3,h4,h5,a],u⟩
 ·rintro j t df g' F ⟨rfl,rfl,⟨h1,h2,h3,h4,h5,a,-⟩,u⟩ h17;obtain⟨c,hb,-,w⟩:=af F;obtain⟨z,U,V,o⟩:=N j c hb;have B:=(Cg (XQ.1 hbeg c w)).1;have lc:∀g:G,bC .slice z g=.val (XE (c.length:Int)):=λg=>o.len g;have goOn:BO n XF (CZ n XF) (BP n e) XB c wt=true->∀i,i<j+1->∀b,proof[i]?=some b->BO n XF (CZ n XF) (BP n e) XB b wt=true:=λh i hi b' m=>by
   by_cases e:i=j
   ·subst e;rw[hb]at m;injection m with m;subst m;exact h
   ·exact u i (by omega) b' m
  have stop:BO n XF (CZ n XF) (BP n e) XB c wt=false->(proof.all λb=>BO n XF (CZ n XF) (BP n e) XB b wt)=false:=λh=>by rw[ZJ];intro L;have:=XQ.1 L c w;rw[h]at this;cases this
  have kb:=λg:G=>bk1 (d:=d) (g:=g) (n:=n) (e:=e) (XF:=XF) (l:=c) hd (hm g.h) (hw g.h) (hu g.h) (o.tree (h':=g.h) (XH _)) hr hel hp B;have C:=Lt hr e XF c;refine bP (P:=λt' df g2=>df=[]/\g2=g'/\St t' ((18,z)::(17,XE (j:Int))::wW w' u' x' z' wt)) (by simp only[sz,simprocAttr,h4,h17,M,U,V];simp[St,wW,sx,h1,h2,h3,h4,h5,a,h17]) ?_;rintro t df g2 ⟨rfl,rfl,f,h17,h1,h2,h3,h4,h5,a,-⟩
  by_cases c0:c=XB
  ·have hcl:BO n XF (CZ n XF) (BP n e) XB c wt=true:=by rw[BO,Yj c0,ZV]
   have kc:=λg:G=>qt (d:=d) (g:=g) hd (o.tree (h':=g.h) (XH _)) (hx g.h) (by rw[c0]);have c1:(c.length:Int)=(XB.length:Int):=by rw[c0]
   have y:zt c XB=0:=by rw[c0,xu]
   simp only[sz,simprocAttr,f,h3,lc,lx,c1,kc,y];exact⟨⟨by simp[St,wW,sx,h1,h2,h3,h4,h5,a],goOn hcl⟩,by simp[h17]⟩
  ·have key:∀(R:PT),(∀t,St t ((18,z)::(17,XE (j:Int))::wW w' u' x' z' wt)->R t [] g2)->wp C0 d none (sQ [oM 85 18,oN 86 85,oM 87 3,oN 88 87,Xk 89 .eql 86 88,oM 90 89,WW 91 90 true 18,WW 92 90 true 3,og 93 90 true (.call 90 [.t 91,.t 92]),Oo 94 90 true .eql 93 0,Of 95 90 94] (Xf 95 (.exit 7) (.skip))) (λe t df g=>e=.norm/\R t df g) t [] g2:=by
    intro R hR
    by_cases c1:c.length=XB.length
    ·have r:(c.length:Int)=(XB.length:Int):=by omega
     have kc:=λg:G=>qt (d:=d) (g:=g) hd (o.tree (h':=g.h) (XH _)) (hx g.h) c1;have y:¬zt c XB=0:=λh=>c0 (GZ c1 h);simp only[sz,simprocAttr,f,h3,lc,lx,r,kc,y];exact hR _ (by simp[St,wW,sx,h1,h2,h3,h4,h5,a,h17,f])
    ·have r:¬(c.length:Int)=(XB.length:Int):=by omega
     simp only[sz,simprocAttr,f,h3,lc,lx,r];exact hR _ (by simp[St,wW,sx,h1,h2,h3,h4,h5,a,h17,f])
   refine jR (P:=λt df g=>df=[]/\g=g2/\St t ((18,z)::(17,XE (j:Int))::wW w' u' x' z' wt)) ?_ ?_
   ·exact ch _ (key (λt df g=>df=[]/\g=g2/\St t ((18,z)::(17,XE (j:Int))::wW w' u' x' z' wt)) λt ht=>⟨rfl,rfl,ht⟩) λ_ _ _ _ h=>h
   rintro t df g3 ⟨rfl,rfl,f,h17,h1,h2,h3,h4,h5,a,-⟩;have D:XB≠[]:=by intro h;rw[h]at hvl;have:c=[]:=Zq.1 (by simp at hvl;omega);exact c0 (by rw[this,h])
   have E:=KT (hx .nil) D;obtain⟨s,H,O⟩:=Ew (c:=c.length) (hx .nil) E (by omega);have kc:=λg:G=>qt (d:=d) (g:=g) hd (o.tree (h':=g.h) (XH _)) (O.tree (h':=g.h) (XH _)) (by rw[X5];omega);have hcl:BO n XF (CZ n XF) (BP n e) XB c wt=(decide (m0 n e XF (CZ n XF) c<wt) || (decide (m0 n e XF (CZ n XF) c=wt)&&decide (0<zt c (XB.take c.length)))):=by rw[BO,Yq c0,aaA,C]
   obtain⟨bd,A⟩:∃bd,bd=m0 n e XF (CZ n XF) c:=⟨_,rfl⟩;rw[<-A]at kb hcl;refine bP (P:=λt' df g2=>df=[]/\g2=g3/\St t' ((19,XE bd)::(18,z)::(17,XE (j:Int))::wW w' u' x' z' wt)) (by simp only[sz,simprocAttr,h1,h2,h5,h0,ld,f,kb];simp[St,wW,sx,h1,h2,h3,h4,h5,a,h17,f]) ?_;rintro t df g2 ⟨rfl,rfl,p,f,h17,h1,h2,h3,h4,h5,a,-⟩
   by_cases b1:wt<bd
   ·have hf:BO n XF (CZ n XF) (BP n e) XB c wt=false:=by rw[hcl,Yq (by omega),Yq (by omega)];rfl
    simp only[sz,simprocAttr,p,a,b1];exact no _ (stop hf) (by simp[St,sx])
   ·by_cases b2:bd=wt
    ·by_cases x:0<zt c (XB.take c.length)
     ·have hf:BO n XF (CZ n XF) (BP n e) XB c wt=true:=by rw[hcl,Yj b2,Yj x];simp
      have q:¬zt c (XB.take c.length)<=0:=by omega
      subst b2;simp only[sz,simprocAttr,p,a,aaB,f,h3,lc,YD,Yz,H,kc,q];exact⟨⟨by simp[St,wW,sx,h1,h2,h3,h4,h5,a],goOn hf⟩,by simp[h17]⟩
     ·have hf:BO n XF (CZ n XF) (BP n e) XB c wt=false:=by rw[hcl,Yq (show ¬bd<wt by omega),Yq x];simp
      have q:zt c (XB.take c.length)<=0:=by omega
      subst b2;simp only[sz,simprocAttr,p,a,aaB,f,h3,lc,YD,Yz,H,kc,q];exact no _ (stop hf) (by simp[St,sx])
    ·have hf:BO n XF (CZ n XF) (BP n e) XB c wt=true:=by rw[hcl,Yj (show bd<wt by omega)];rfl
     simp only[sz,simprocAttr,p,a,b1,b2];exact⟨⟨by simp[St,wW,sx,h1,h2,h3,h4,h5,a],goOn hf⟩,by simp[h17]⟩
 ·rintro t df g' ⟨rfl,rfl,ht,u⟩;refine yes t ?_;rw[XQ];intro b hb;let⟨i,hi⟩:=Yd hb;exact u i (XI.1 hi).1 b hi
def bh_[Xr]{k3 k4:Nat}{P3 P4:Nat->Prop}{x:AV}(hd:0<d)(hm:WG n Xt 0 g.h v)(he:Xu P1 k1 g.h e w)(hv:Xu P2 k2 g.h XF u)(hv1:K6 u)(hx:Xu P3 k3 g.h XB x)(hz:Xu P4 k4 g.h proof z)(hr:NR n)(hel:e.length=n.XD.length)(hp:CY XF (n.XD.length:Int)=true)(hvl:XB.length=XF.length) :
  ah C0 d 45 [v,w,u,x,z] g=.val (.bool (vF n e XF XB proof)):=by
 obtain⟨b,rows,rfl,e1,c,hN,-⟩:=cg d hm;let⟨w',e2,J⟩:=aB he d;let⟨u',e3,H,I⟩:=Ce hv hv1 d;let⟨x',O,M⟩:=aB hx d;let⟨z',Q,N⟩:=aB hz d;obtain⟨K,hK⟩:∃K,K=max (max (max k1 d) (max k2 d)) (max (max k3 d) (max k4 d)):=⟨_,rfl⟩;have o:∀h,Xu Xt K h e w':=λh=>(J .nil).tree (by omega);have f:∀h,Xu Xt K h XF u':=λh=>(H .nil).tree (by omega);have r:∀h,Xu Xt K h XB x':=λh=>(M .nil).tree (by omega);have m:∀h,Xu Xt K h proof z':=λh=>(N .nil).tree (by omega);have E:=hr.l2;have U:=bc hp (by omega);have i:=aO hp;have F:=aZ hr.cs (λp hpm=>by rw[ap];exact i p hpm);have R:(EP (IO n) XF).length=XF.length:=by simp[EP]
 have D:Wq (EP (IO n) XF):=⟨F,by omega⟩;have a:=XR d;have ld:a_ (Xy 2 [[XE n.Xz,b]]) 0 0 true 2 0=.val (.agg [XE n.Xz,b]):=rfl;have kw:=λg:G=>KQ (d:=d+1) (g:=g) (n:=n) (e:=e) (XF:=XF) (l:=XB) a (c g.h) (o g.h) (f g.h) (r g.h) hr hel hp (by omega);obtain⟨wt,q⟩:∃wt,wt=yu n e XF XB:=⟨_,rfl⟩;rw[<-q]at kw;have L:zl n XF (BP n e) XB (C2 n)=wt:=by rw[MK hvl,q]
 rw[WL];refine cM B5 (xs:=[.agg [XE n.Xz,b],w',u',x',z']) (by simp only[aD,e1,e2,e3,O,Q]) (by simp[oS]) hd ?_;rw[vF,L];unfold oS;dsimp only;refine bP (P:=λt df g=>df=[]/\g.nx=1/\g.h.get 0=Xy 2 [[XE n.Xz,b]]/\St t [(1,w'),(2,u'),(3,x'),(4,z'),(5,Xq 0)]) ?_ ?_
 ·simp only[sz,simprocAttr,dl];simp[St,sx]
 rintro t df g ⟨rfl,T,g0,h1,h2,h3,h4,h5,-⟩;unfold sS;refine bP (P:=λt' df g2=>df=[]/\g2=g/\St t' (wW w' u' x' z' wt)) (by simp only[sz,simprocAttr,h1,h2,h3,h5,g0,ld,kw];simp[St,wW,sx,h1,h2,h3,h4,h5]) ?_;rintro t df g2 ⟨rfl,rfl,ht⟩;obtain⟨h1,h2,h3,h4,h5,k,-⟩:=ht;rw[cX];refine bP (P:=λt' df g3=>df=[]/\g3=g2/\St t' ((12,XE 0)::wW w' u' x' z' wt)) (by simp only[sz];simp[St,wW,sx,h1,h2,h3,h4,h5,k]) ?_;rintro t df g3 ⟨rfl,rfl,s,ht⟩;rw[EJ,Ao];refine bi3 a c f I m hp hr g0 ht s (λt hbeg ht=>?_) (λt hbeg ht=>?_)
 rotate_left
 ·rw[hbeg];simp only[sz,ht.1]
  rfl
 rw[hbeg];simp only[sz];unfold qd;obtain⟨h1,h2,h3,h4,h5,k,-⟩:=ht;refine bP (P:=λt' df g2=>df=[]/\g2=g3/\∃a',RC (yk (EP (IO n) XF) (EK (EP (IO n) XF))) Xt 0 .nil a'/\St t' ((13,a')::wW w' u' x' z' wt)) ?_ ?_
 ·simp only[sz,h2,h5,g0,ld];refine aG (mF a (c _) (f _) E (by omega) i) λrc hrc=>?_;simp only[sz];refine aG (bk4 a (hrc.sl g3.h) D) λa' j=>?_;simp only[sz];exact⟨a',j,by simp[St,wW,sx,h1,h2,h3,h4,h5,k]⟩
 rintro t df g2 ⟨rfl,rfl,a',⟨j,C⟩,y,h1,h2,h3,h4,h5,k,-⟩;rw[cX];refine bP (P:=λt' df g3=>df=[]/\g3=g2/\St t' ((14,XE 0)::(13,a')::wW w' u' x' z' wt)) (by simp only[sz];simp[St,wW,sx,h1,h2,h3,h4,h5,k,y]) ?_;rintro t df g3 ⟨rfl,rfl,A,ht⟩;rw[EJ,Ao];refine bi1 a m hr hp (λh=>j.tree (XH 0)) C hbeg ht A (λt hc ht=>?_) (λt hc ht=>?_)
 rotate_left
 ·rw[hc];simp only[sz,ht.1]
  rfl
 rw[hc];simp only[sz];unfold qc;obtain⟨h1,h2,h3,h4,h5,k,-⟩:=ht;rw[cX];refine bP (P:=λt' df g2=>df=[]/\g2=g3/\St t' ((17,XE 0)::wW w' u' x' z' wt)) (by simp only[sz];simp[St,wW,sx,h1,h2,h3,h4,h5,k]) ?_;rintro t df g2 ⟨rfl,rfl,B,ht⟩;rw[EJ,Ao];refine bi0 a c o f r m hel hp hr hvl hbeg g0 ht B (λt hc=>?_) (λt hc ht=>?_)
 ·rw[hc];simp only[sz,qb]
  rfl
 ·rw[hc];simp only[sz,ht.1]
  rfl
def BC[Xr]{k3 k4:Nat}{P3 P4:Nat->Prop}{x:AV}(hd:0<d)(hm:WG n Xt 0 g.h v)(he:Xu P1 k1 g.h e w)(hv:Xu P2 k2 g.h XF u)(hv1:K6 u)(hx:Xu P3 k3 g.h XB x)(hz:Xu P4 k4 g.h proof z) :
  ah C0 d 24 [v,w,u,x,z] g=.val (XE (rJ n e XF XB proof)):=by
 obtain⟨b,rows,rfl,e1,i,hN,-⟩:=cg d hm;obtain⟨w',e2,p⟩:=aB he d;obtain⟨u',e3,a,o⟩:=Ce hv hv1 d;obtain⟨x',y,j⟩:=aB hx d;obtain⟨z',A,t⟩:=aB hz d;have f:=XR d;have lu:∀g:G,bC .slice u' g=.val (XE (XF.length:Int)):=λg=>(a .nil).len g;have lx:∀g:G,bC .slice x' g=.val (XE (XB.length:Int)):=λg=>(j .nil).len g;have ke:=λg:G=>Mo (d:=d+1) (g:=g) (n:=n) (e:=e) (XF:=XF) f (i g.h) (p g.h) (a g.h);rw[WL];refine cq Dn (xs:=[.agg [XE n.Xz,b],w',u',x',z']) (by simp only[aD,e1,e2,e3,y,A]) (by simp[d0]) hd ?_
 by_cases c:zw n e XF=0
 ·obtain⟨⟨hr,s⟩,m⟩:=tf.1 c;have r:e.length=n.XD.length:=(Dr s).1;have kb:=λg:G=>Mm (d:=d+1) (g:=g) (n:=n) (XF:=XF) (l:=XB) f (i g.h) (a g.h) o (j g.h) hr m;rw[c]at ke;rw[rJ,XO c]
  by_cases c2:XB.length=XF.length
  ·have k:(XB.length:Int)=(XF.length:Int):=by omega
   by_cases c3:BI n XF XB=true
   ·rw[XO ⟨c2,c3⟩];have kp:=λg:G=>bh_ (d:=d+1) (g:=g) f (i g.h) (p g.h) (a g.h) o (j g.h) (t g.h) hr r m c2
    by_cases c4:vF n e XF XB proof=true
    ·rw[XO c4];simp only[sz,simprocAttr,d0,dK,dl,ke,kb,lu,lx,k,c3,kp,c4]
    ·rw[XS c4];simp only[sz,simprocAttr,d0,dK,dl,ke,kb,lu,lx,k,c3,kp,c4]
   ·have q:BI n XF XB=false:=by simpa using c3
    rw[XS (λh=>c3 h.2)];simp only[sz,simprocAttr,d0,dK,dl,ke,kb,lu,lx,k,q]
  ·have k:¬(XB.length:Int)=(XF.length:Int):=by omega
   rw[XS (λh=>c2 h.1)];simp only[sz,simprocAttr,d0,dK,dl,ke,lu,lx,k]
 ·rw[rJ,XS c];simp only[sz,simprocAttr,d0,dK,dl,ke,c]
def Ow{id ep len sz bytes:Nat}{x:AV}{lo:Bool}{new:List (List AV)}(hg:g.h.get id=.cells sz rows ep lo false)(hx:ak g.h sz x=some new)(hl:len+new.length<=rows.length)(hb:(len+new.length)*bytes<=aH)
  (k:∀g',g'.nx=g.nx->g'.h.get id=.cells sz (rows.take len++(new++rows.drop (len+new.length))) ep lo false->(∀i,i≠id->g'.h.get i=g.h.get i)->K (.Xj id ep 0 (len+new.length) none) g') :
  (cZ sz bytes (.Xj id ep 0 len none) x g).sat K g D:=by
 unfold cZ;rw[hx];dsimp only;simp only[bB,G.get_eq,hg,ay,aa,show Nat.beq ep ep=true from Yl ep,show Nat.beq sz sz=true from Yl sz,YO,Yt,XM,YT,YU,Zo];rw[XO ⟨by omega,hb⟩,XO hl];cases new with
 | nil =>refine k g rfl ?_ λ_ _=>rfl;rw[hg];simp
 | cons r new =>
  dsimp only;rw[XO ⟨hl,rfl⟩];refine k _ rfl ?_ λi hi=>by simp[VO,hi]
  have hp:mb rows len (r::new)=rows.take len++(r::new++rows.drop (len+(r::new).length)):=by
   cases new with
   | nil =>show N6 len r rows=_;rw[kK,aaO,XO (by simp at hl;omega)];simp
   | cons r2 new =>show h_ len rows++(r::r2::new++gG (len+bD (r::r2::new)) rows)=_;rw[bI,bK,ay]
  rw[hp];simp[VO]
theorem bh9[Xr]{n:Nat}(hn:0<n)(hn2:n<=1000)
  (k:∀g',g'.nx=g.nx+1->g'.h.get g.nx=.cells 1 (List.replicate n [XE 0]) 0 true false->(∀i,i<g.nx->g'.h.get i=g.h.get i)->K (.Xj g.nx 0 0 0 none) g') :
  (ah C0 d 107 [.XC,XE (n:Int)] g).sat K g D:=by
 rw[AN];refine xl Dp (by simp[qX]) ?_;have d1:¬(n:Int)<0:=by omega
 have d2:(0:Int)<(n:Int):=by omega
 have c0:∀g:G,HX .XC g=.val (XE 0):=λ_=>rfl;have w0:IntKind.wrap .i64 (n:Int)=(n:Int):=an;have w1:IntKind.wrap .i64 ((n:Int) - IntKind.wrap .i64 0)=(n:Int):=by rw[an (x:=0) (by omega) (by omega),Int.sub_zero,an]
 have a:∀g:G,fE 1 .XC none (some (XE 0)) g=.val .XC:=λ_=>rfl;have az:∀g:G,nA 1 8 [XE 0] .XC (XE (n:Int)) g=.upd (.Xj g.nx 0 0 n none) (g.new (.cells 1 (List.replicate n [XE 0]) 0 true false)):=λg=>by
  obtain⟨m,rfl⟩:∃m,n=m+1:=⟨n - 1,by omega⟩;have h:cd aH (XE ((m+1:Nat):Int))=some (m+1):=by simp only[cd,aa,Yt];rw[XO (by unfold aH;omega)]
  unfold nA;rw[h];dsimp only;rw[aa,XO (by rw[Yt];unfold aH;omega)];have:gz (m+1) [XE 0]=[XE 0]::List.replicate m [XE 0]:=rfl;rw[this];unfold bB;dsimp only;rw[aa,XO (by rw[Yt,ay];simp;unfold aH;omega),ay];simp[Y4]
 have c1:∀g:G,bC .slice .XC g=.val (XE 0):=λ_=>rfl;have b:∀g:G,∀id:Nat,g.h.get id=.cells 1 (List.replicate n [XE 0]) 0 true false->fE 1 (.Xj id 0 0 n none) none (some (XE 0)) g=.val (.Xj id 0 0 0 none):=λg id hg=>by
  have b1:cd n (XE 0)=some 0:=by show ax (Nat.ble 0 n) (some 0) none=some 0;rw[aa,XO (by simp)]
  have e:ip 1 (.Xj id 0 0 n none) none (some (XE 0)) none g.h=some (.Xj id 0 0 0 none):=by
   simp only[ip,hg,ay,abz,aa,aS,YU,Zo,b1];rw[XO (by simp)];rw[XS (by simp;omega)]
   rfl
  unfold fE;rw[e];rfl
 simp only[sz,simprocAttr,qX,d1];simp only[sz,simprocAttr,sV,NZ,c0,c1,w1,d2,uS,KN,a,az,YD,Yz];rw[b _ _ (by simp[VO])];simp only[sz,simprocAttr,sU];exact k _ rfl (by simp[VO]) λi hi=>by simp[VO,show ¬i=g.nx by omega]
def bh8[Xr](hd:0<d)(hw:Xu P k g.h L w)(h0:0<L.flatten.length)(hl:L.flatten.length<=1000) :
  ∃r,ah C0 d 72 [w] g=.val r/\IT 0 L.flatten r:=by
 let⟨w',e,a⟩:=aB hw d;obtain⟨rows,C,K,D,M⟩:=gC (a .nil);have lw:∀g:G,bC .slice w' g=.val (XE (L.length:Int)):=λg=>(a .nil).len g;have f:∀j,((L.take j).flatten).length<=L.flatten.length:=λj=>by
  have:L.flatten=(L.take j).flatten++(L.drop j).flatten:=by rw[<-abG,YC]
  rw[this,Yo];omega
 have l:∀j c,L[j]?=some c->(L.take (j+1)).flatten=(L.take j).flatten++c:=λj c hc=>by have hi:=XI.1 hc;rw[X4 hi.1,hi.2,abG];simp
 obtain⟨n,x⟩:∃n,n=L.flatten.length:=⟨_,rfl⟩;rw[<-x]at h0 hl f;rw[qE];refine aP tN (xs:=[w']) (by simp only[aD,e]) (by simp[fD]) (aI _) (by decide) hd ?_;simp only[sz,simprocAttr,fD,iT,iV,lw];refine aT (a .nil).1 (λj t df g=>df=[]/\g=G.empty/\St t [(0,w'),(9,w'),(3,XE (((L.take j).flatten.length:Nat):Int))]) ⟨rfl,rfl,by simp[St,sx]⟩ (by simp[sx]) (by simp[sx]) (by decide)
  (by rintro j t df g v s (rfl|rfl|rfl) ⟨a1,a2,⟨b1,b2,H,-⟩⟩<;>exact⟨a1,a2,by simp[St,sx,b1,b2,H]⟩) ?_ ?_
 ·rintro j t df g u ⟨rfl,rfl,⟨h0,h9,h3,-⟩⟩ p Xp;obtain⟨c,hc,-,-⟩:=af u;let⟨z,A,B,hz⟩:=D j c hc;have lz:∀g:G,bC .slice z g=.val (XE (c.length:Int)):=λg=>hz.len g;have hs:=l j c hc;have hb:=f (j+1);have w1:IntKind.wrap .i64 ((((L.take j).flatten.length:Nat):Int)+(c.length:Int))=(((L.take (j+1)).flatten.length:Nat):Int):=by rw[hs,Yo]at hb ⊢;rw[an];omega
  have d1:¬(((L.take (j+1)).flatten.length:Nat):Int)<0:=by omega
  simp only[sz,simprocAttr,h9,p,C,A,B,h3,lz,w1,d1];simp[St,sx,h0,h9,Xp]
 ·rintro t df g ⟨rfl,rfl,⟨o,h9,h3,-⟩⟩;rw[XV,<-x]at h3;simp only[sz,simprocAttr,iX,h3];refine bh9 h0 hl λg2 n2 g0 f2=>?_;simp only[sz,simprocAttr,o,lw,iU];refine aT (a .nil).1 (λj t df g=>df=[]/\g.nx=1/\g.h.get 0=.cells 1 ((L.take j).flatten.map ci++List.replicate (n - (L.take j).flatten.length) [XE 0]) 0 true false/\St t [(25,w'),(6,.Xj 0 0 0 (L.take j).flatten.length none)]) ⟨rfl,n2,by have:g2.h.get 0=_:=g0;simpa using this,by simp[St,sx]⟩ (by simp[sx]) (by simp[sx]) (by decide)
   (by rintro j t df g v s (rfl|rfl|rfl) ⟨a1,a2,E,⟨b1,b2,-⟩⟩<;>exact⟨a1,a2,E,by simp[St,sx,b1,b2]⟩) ?_ ?_
  ·rintro j t df g u ⟨rfl,y,hg0,⟨b,h6,-⟩⟩ i q;obtain⟨c,hc,-,-⟩:=af u;let⟨z,A,B,hz⟩:=D j c hc;have hs:=l j c hc;have hb:=f (j+1);rw[hs,Yo]at hb;simp only[sz,simprocAttr,b,i,C,A,B,h6];obtain⟨F,I⟩:∃F,F=(L.take j).flatten:=⟨_,rfl⟩;rw[hs];rw[<-I]at hg0 hb ⊢;have e1:(F.map ci++List.replicate (n - F.length) [XE 0]).take F.length=F.map ci:=by rw[aam (by simp),XZ (by simp)]
   have e2:(F.map ci++List.replicate (n - F.length) [XE 0]).drop (F.length+(c.map ci).length)=List.replicate (n - (F++c).length) [XE 0]:=by rw[List.drop_append,abs (by simp)];simp;omega
   refine Ow (new:=c.map ci) hg0 (hz.tree (XH _)).ints (by simp;omega) (by simp;unfold aH;omega) λg3 n3 q3 f3=>?_;rw[e1,e2,<-YA,<-YV]at q3;simp only[sz,simprocAttr];exact⟨⟨by omega,q3,by simp[St,sx,b]⟩,by simp[i],by simp[q]⟩
  ·rintro t df g ⟨rfl,y,hg0,⟨b,h6,-⟩⟩;rw[XV]at h6 hg0;simp only[sz,simprocAttr,iW,h6];have J:Own g 0 (.Xj 0 0 0 L.flatten.length none) 1 (L.flatten.map ci):=.inr ⟨0,0,true,XH _,by omega,by rw[XN],by rw[hg0,<-x];simp⟩;exact⟨_,J.ints (by omega)⟩
theorem Is{f:Nat->Int}{N W:Nat}{c:Nat->Bool}{x:Nat->Int}{M:Int}(hf:∀j,j<W->0<=f j/\f j<(N:Int))(hx:∀j,j<W->0<=x j/\x j<=M)(hi:∀i j,i<j->j<W->c i=true->c j=true->f i≠f j) :
  ∀j,j<=W->(∀i:Nat,(∀k,k<j->c k=true->f k≠(i:Int))->(AL f N c x j)[i]?.getD 0=0)/\(AL f N c x j).sum=((List.range j).map λk=>if c k then x k else 0).sum
 | 0,_=>⟨λi _=>by
   rw[AL,Zp]
   split<;>rfl,by simp[AL]⟩
 | j+1,h=>by
  obtain⟨h1,h2⟩:=Is hf hx hi j (by omega);have b:=hf j (by omega);have a:=hx j (by omega);have hlt:(f j).toNat<(AL f N c x j).length:=by rw[qm];omega
  rw[AL,YF,YV,aan,<-h2];cases hc:c j with
  | true =>
   have h0:=h1 (f j).toNat λk hk hck=>by have:=hi k j hk (by omega) hck hc;omega
   rw[XO rfl];refine⟨λi hik=>?_,?_⟩
   ·rw[r9,YB];have:(f j).toNat≠i:=λe=>hik j (by omega) hc (by omega);rw[XS this];exact h1 i λk hk=>hik k (by omega)
   ·rw[r9,JD hlt,h0,Int.max_eq_right a.1];simp[hc]
  | false =>rw[XS (by decide)];exact⟨λi hik=>h1 i λk hk=>hik k (by omega),by simp[hc]⟩
def JC(n:Xb)(p:Nat->Bool):∀j,CW n p j=((List.range j).map λk=>if p k then BJ n k else 0).sum
 |0=>rfl
 |j+1=>by rw[CW,JC n p j,YF,YV,aan];simp[BJ]
def bh7{v:Nat}(hv:v<n.XD.length):(v:Int)∈XF\/(v:Int)∈CZ n XF:=by
 by_cases h:(v:Int)∈XF
 ·exact .inl h
 ·exact .inr (List.mem_filter.2 ⟨Ys.2 ⟨v,X0.2 hv,rfl⟩,by simpa using h⟩)
def Ec{a b ps:List Int}(h:EP a ps=EP b ps){v:Nat}(hv:(v:Int)∈ps):a[v]?.getD 0=b[v]?.getD 0:=by let⟨i,hi,he⟩:=Y7.1 hv;have:=congrArg (·[i]?) h;simp only[EP,XK,XJ hi,he,YR,Y9]at this;simpa using this
theorem bh6(hr:NR n)(hp:CY XF (n.XD.length:Int)=true)(hl:l.length=XF.length) :
  m0 n e XF (CZ n XF) l=CW n (λw=>BK n e w&&zu n XF l w) (C2 n):=by
 have q:=hr.l2;have a:=λc hc=>(hr.cs c hc).1;have b:Wq (IO n):=⟨hr.cs,by rw[ap];omega⟩;have d:EK (IO n)=C2 n:=rfl;rw[JC];unfold m0;refine (Is (W:=C2 n) (M:=167961600000000) (λj _=>zX hr jr j) (λj _=>Aq hr j) (λi j hij hj hi' hj' he=>?_) _ (XH _)).2;simp only[XM]at hi' hj';have b1:=abj hi'.2;have b2:=abj hj'.2;have ii:=bm a (i:Int);have ij:=bm a (j:Int);have vl:∀k:Int,(EN (IO n) k).length=n.XD.length:=λk=>by rw[bO,ap]
 have m:∀k:Int,(EP (EN (IO n) k) XF).length=l.length:=λk=>by simp[EP,hl]
 rw[<-m (i:Int),XV]at b1;rw[<-m (j:Int),XV]at b2;have oC:=λk=>dB (bm a k) (ps:=CZ n XF) (λp hpm=>by rw[ap];exact jr p hpm);have f:=aZ (ps:=CZ n XF) hr.cs (λp hpm=>by rw[ap];exact jr p hpm);have o:EP (EN (IO n) (i:Int)) (CZ n XF)=EP (EN (IO n) (j:Int)) (CZ n XF):=by rw[<-cx (λc hc=>(f c hc).1) (oC (i:Int)),<-cx (λc hc=>(f c hc).1) (oC (j:Int))];exact congrArg _ he
 have hv:EN (IO n) (i:Int)=EN (IO n) (j:Int):=by
  refine Zd λv=>?_
  by_cases hvl:v<n.XD.length
  ·have hg:(EN (IO n) (i:Int))[v]?.getD 0=(EN (IO n) (j:Int))[v]?.getD 0:=by
    rcases bh7 (XF:=XF) hvl with h|h
    ·exact Ec (by rw[b1,b2]) h
    ·exact Ec o h
   rw[XJ (by rw[vl];exact hvl),XJ (by rw[vl];exact hvl)]at hg ⊢;exact congrArg some hg
  ·rw[Yg (by rw[vl];omega),Yg (by rw[vl];omega)]
 have h1:=lR b i (by rw[d];omega);have h2:=lR b j (by rw[d];omega);rw[hv,h2]at h1;omega
def qs{n:Int}:zj l n i=true↔0<=l[i]?.getD 0/\l[i]?.getD 0<n/\(i=0\/l[i - 1]?.getD 0<l[i]?.getD 0):=by simp[zj,and_assoc]
def bh5{n m:Int}(h:CY l n=true)(hn:n<=m):CY l m=true:=by refine XQ.2 λi hi=>?_;have:=qs.1 (XQ.1 h i hi);exact qs.2 ⟨this.1,by omega,this.2.2⟩
def bh4{j:Nat}(h:CY l (j:Int)=true):CY (l++[(j:Int)]) ((j+1:Nat):Int)=true:=by
 refine XQ.2 λi hi=>?_;have hi:=X0.1 hi;rw[Yo,Zj]at hi;rw[qs]
 by_cases c:i<l.length
 ·have:=qs.1 (XQ.1 h i (X0.2 c));rw[XW c,XW (by omega)];exact⟨this.1,by omega,this.2.2⟩
 ·have e:i=l.length:=by omega
  subst e;rw[X_ (XH _),YN,abn,XP];refine⟨by omega,by omega,?_⟩
  by_cases c0:l.length=0
  ·exact .inl c0
  ·right;rw[XW (by omega),NP,XP];exact (aO h _ (Zi _)).2
def UZ(m:Nat):VS:=λP k h v=>∃l:List Int,CY l (m:Int)=true/\JQ l P k h v
def bh3(m:Nat):Q6 (UZ m) 0:=qw λl=>th l
def bh2[Xr]{m:Nat}{s:UInt8}(hd:0<d)(hm:m<=8):∃r,ah C0 d 32 [Xc s,XE (m:Int)] g=.val r/\UZ m Xt 0 .nil r:=by
 rw[WL];refine aP Dm (xs:=[Xc s,XE (m:Int)]) (by simp only[aD,Xc,cP]) (by simp[qV]) (bh3 m) (by decide) hd ?_;simp only[sz,simprocAttr,qV,sO,sP];refine aU m (by omega) (λj t df g=>df=[]/\St t [(0,Xc s),(1,XE (m:Int))]/\∃l:List Int,CY l (j:Int)=true/\Own g 0 (Xs t 5) 1 (l.map ci)) ⟨rfl,by simp[St,sx],[],by decide,.inl ⟨by simp[sx],rfl⟩⟩ (by simp[sx]) (by decide)
  (by rintro i t df g v s (rfl|rfl|rfl) ⟨a1,⟨b1,b2,-⟩,c1⟩<;>exact⟨a1,by simp[St,sx,b1,b2],by simpa [sx] using c1⟩) ?_ ?_ ?_
 ·rintro j t df g u ⟨rfl,⟨h0,h1,-⟩,l,hl,ho⟩ h6
  by_cases c:j<m
  ·have c1:(j:Int)<(m:Int):=by omega
   have q:(j:Int)<8:=by omega
   simp only[sz,simprocAttr,h1,h6,c1,q];exact⟨by simp[St,sx,h0,h1],l,hl,ho⟩
  ·have c1:¬(j:Int)<(m:Int):=by omega
   simp only[sz,simprocAttr,h1,h6,c1];exact⟨by simp[St,sx,h0,h1],l,hl,ho⟩
 ·rintro j t df g u ⟨rfl,⟨h0,h1,-⟩,l,hl,ho⟩ h6;obtain⟨o,b⟩:=Aw s.toNat j;obtain⟨p,n⟩:=Av o 1;have k:cL .and (.int .u8 (o:Int)) (.int .u8 1)=.val (.int .u8 p):=n;have w1:IntKind.wrap .u64 (j:Int)=(j:Int):=xJ (by omega) (by omega);have f:=bc hl (by omega)
  by_cases c:p=1
  ·simp only[sz,simprocAttr,h0,h6,Xc,w1,b,k,c];refine aM (ho.fr (g':=_) (by simp<;>omega) (λi hi=>?_)) (new:=[[XE (j:Int)]]) ?_ (by simp<;>omega) (by simp[aH]<;>omega) λv5 g5 o5 n5 f5 w5 _=>?_
   ·have:=ho.lt hi;simp[VO];omega
   ·simp[ak,VO];rfl
   simp only[sz];refine⟨⟨by simp[St,sx,h0,h1,Xc],_,bh4 hl,?_⟩,by simp[h6]⟩;simpa [sx,ci] using o5
  ·simp only[sz,simprocAttr,h0,h6,Xc,w1,b,k,c];exact⟨by simp[St,sx,h0,h1,Xc],l,bh5 hl (by omega),ho⟩
 ·rintro t df g ⟨rfl,-,l,hl,ho⟩;have f:=bc hl (by omega);simp only[kB,sz,simprocAttr,sR];refine⟨λ_=>True,l,hl,ho.sl (α:=Int) (by omega) (VJ (λa=>aK.2 rfl) _) λ_ _=>trivial,?_⟩;rcases ho with⟨h,-⟩|⟨id,ep,lo,-,-,h,-⟩<;>(rw[h];intro _ _ _ e;cases e)
def bh1:VS:=λP k h v=>∃x:Xb×Xb,SK x.1/\WG x P k h v
def bh0[Xr]{x:yg}{y:gF}{xs ys:List AV}(hd:0<d)(hx:Rp.rp Xt 0 .nil x xs)(hy:Rp.rp Xt 0 .nil y ys) :
  ∃r,ah C0 d 13 [.agg xs,.agg ys] g=.val r/\bh1 Xt 0 .nil r:=by
 have e1:=jM d (lY (P:=Xt) hx g.h);have e2:=jM d (lY (P:=Xt) hy g.h);obtain⟨a1,a2,ex,-⟩:=Bb.1 hx;have i:xs.length=3:=by rw[ex];rfl
 have j:ys.length=4:=by rw[mG.1 hy];rfl
 clear ex a1 a2;rw[WL];refine aP ES (xs:=[.agg xs,.agg ys]) (by simp only[aD,e1,e2]) (by simp[tQ]) (qw λo=>di _) (by decide) hd ?_;simp only[sz,simprocAttr,tQ];obtain⟨g0,hg0⟩:∃g0,g0=((G.empty.new (Xy xs.length [xs])).new (Xy ys.length [ys])).new (Xy 4 [[XE 0,.XC,XE 0,.XC]]):=⟨_,rfl⟩;rw[<-hg0];have f0:g0.h.get 0=Xy 3 [xs]:=by rw[hg0,i];simp[sx,VO]
 have f1:g0.h.get 1=Xy 4 [ys]:=by rw[hg0,j];simp[sx,VO]
 have f2:g0.h.get 2=Xy 4 [[XE 0,.XC,XE 0,.XC]]:=by rw[hg0];simp[sx]
 have q:g0.nx=3:=by rw[hg0];simp[sx]
 clear hg0;have ld0:a_ (Xy 3 [xs]) 0 0 true 3 0=.val (.agg xs):=by
  match xs,i with
  |[a,b,c],_=>rfl
 have ld1:a_ (Xy 4 [ys]) 0 0 true 4 0=.val (.agg ys):=by
  match ys,j with
  |[a,b,c,d],_=>rfl
 obtain⟨rn,en,n,e,cn,rfl,k⟩:=LE (g:=g0) (d:=d+1) (XR d) (lY (P:=Xt) hx g0.h);obtain⟨b,rfl,s⟩:=dh.1 k;have p:∀y∈n.XD,y.XA.length<=1000/\y.rows.length<=1000/\∀r∈y.rows,r.length<=1000:=e.b;have u:=e.l;simp only[sz,simprocAttr,vQ,f0,ld0,en];simp only[sz,simprocAttr,sf,f1,q,ld1];refine aG (bj7 (K:=1000) (XR d) (lY (P:=Xt) hy _) (lY (P:=Xt) k _) (by decide) (by omega) p) ?_;rintro r ⟨m,-,cm,rfl,f⟩;obtain⟨b2,rfl,t⟩:=dh.1 f;have fw:d_ [XE 0,.XC,XE 0,.XC] [((0,2),.agg [XE n.Xz,b]),((2,2),.agg [XE m.Xz,b2])]=some [XE n.Xz,b,XE m.Xz,b2]:=rfl;simp only[sz,simprocAttr,sf,f2,q,fw,yL];refine⟨?_,?_⟩
 ·simp only[X7,X8,X3,XY];exact aE (false::(KI (true::[]))) [] (by simp[Xl,am,aC]) (by decide) (by simp)
 exact⟨Xt,(n,m),e,_,rfl,_,_,rfl,Rp.tree k (XH _),Rp.tree f (XH _)⟩
def UU(S1 S2 S3 S4 S5 S6:VS):VS:=λP k h v=>∃a b c d e f,v=.agg [a,b,c,d,e,f]/\S1 P k h a/\S2 P k h b/\S3 P k h c/\S4 P k h d/\S5 P k h e/\S6 P k h f
def bg_{S1 S2 S3 S4 S5 S6:VS}(h1:Q6 S1 0)(h2:Q6 S2 0)(h3:Q6 S3 0)(h4:Q6 S4 0)(h5:Q6 S5 0)(h6:Q6 S6 0):Q6 (UU S1 S2 S3 S4 S5 S6) 1:=by
 refine⟨λ{P k h v n} d r hn=>?_,λ{k h v n} r hn=>?_⟩
 ·obtain⟨n,rfl⟩:∃q,n=q+1:=⟨n - 1,by omega⟩;obtain⟨a,b,c,d2,e,f,rfl,m,o,p,s,r5,t⟩:=r;obtain⟨a',e1,B⟩:=h1.Xm (n:=n) d m (by omega);obtain⟨b',e2,q2⟩:=h2.Xm (n:=n) d o (by omega);obtain⟨c',e3,q3⟩:=h3.Xm (n:=n) d p (by omega);obtain⟨d',i,C⟩:=h4.Xm (n:=n) d s (by omega);obtain⟨e',j,q5⟩:=h5.Xm (n:=n) d r5 (by omega);obtain⟨f',l,D⟩:=h6.Xm (n:=n) d t (by omega);exact⟨.agg [a',b',c',d',e',f'],by simp only[Hx.Xm,aD,e1,e2,e3,i,j,l],a',b',c',d',e',f',rfl,B,q2,q3,C,q5,D⟩
 ·obtain⟨n,rfl⟩:∃q,n=q+1:=⟨n - 1,by omega⟩;obtain⟨a,b,c,d2,e,f,rfl,m,o,p,s,r5,t⟩:=r;obtain⟨u,e1,l1⟩:=h1.tag (n:=n) m (by omega);obtain⟨w,e2,l2⟩:=h2.tag (n:=n) o (by omega);obtain⟨x,e3,E⟩:=h3.tag (n:=n) p (by omega);obtain⟨y,i,F⟩:=h4.tag (n:=n) s (by omega);obtain⟨z,j,G⟩:=h5.tag (n:=n) r5 (by omega);obtain⟨A,l,H⟩:=h6.tag (n:=n) t (by omega);refine⟨Nat.max u (Nat.max w (Nat.max x (Nat.max y (Nat.max z (Nat.max A 0))))),by simp only[gg,il,e1,e2,e3,i,j,l],?_⟩;show max u (max w (max x (max y (max z (max A 0)))))<=k;omega
def bg9(n:Xb)(E O:List Int):VS:=λP k h v=>∃x:List Int×List Int,(zq n x.1=true/\CY x.2 (n.XD.length:Int)=true)/\UU (One x.1) (JQ x.2) (JQ (E.take 10)) (JQ x.2) (One x.1) (JQ (O.take 10)) P k h v
theorem Hl(hw:Xu Xt 0 .nil l w)(hr:Raw w)(c:Nat) :
  ∃w',(∀g,fE 1 w none (some (XE (min (l.length:Int) (c:Int)))) g=.val w')/\Xu Xt 0 .nil (l.take c) w'/\K6 w':=by
 have hm:min (l.length:Int) (c:Int)=((min l.length c:Nat):Int):=by omega
 have h1:K6 w:=by
  rcases hr with rfl|⟨rows,rfl⟩
  ·intro _ _ _ e;cases e
  ·intro _ _ _ e;injection e with _ e;exact e.symm
 obtain⟨w',k,q2⟩:=Ew hw h1 (c:=min l.length c) (by omega);rw[hm];have ht:l.take (min l.length c)=l.take c:=by rw[Nat.min_comm,<-abe,XV]
 refine⟨w',k,ht ▸ q2,?_⟩;have q0:=k G.empty;rcases hr with rfl|⟨rows,rfl⟩
 ·have hl:l=[]:=hw.2;subst hl;have:w'=.XC:=by
   have:fE 1 .XC none (some (XE ((min ([]:List Int).length c:Nat):Int))) G.empty=.val .XC:=by rw[show min ([]:List Int).length c=0 by simp];rfl
   rw[this]at q0;injection q0 with q0;exact q0.symm
  subst this;intro _ _ _ e;cases e
 ·intro t s rs e;subst e;simp only[fE,ip]at q0;revert q0
  split
  ·intro h;cases h
  ·split
   ·intro h;cases h
   ·rw[show Nat.beq 1 1=true from rfl,WK];intro h;injection h with h;injection h with _ h;exact h.symm
theorem bg8[Xr]{vs:List UInt8}{s:UInt8}{E O:List Int}{ew ow:AV}{cn:List AV}(hd:0<d)(hv:vs.length=9)(hE:Xu Xt 0 .nil E ew)(hEr:Raw ew)(hO:Xu Xt 0 .nil O ow)(hOr:Raw ow)(hcn:Rp.rp Xt 0 .nil n cn)(hdr:SK n) :
  ∃r,ah C0 d 14 [.agg (vs.map Xc++[Xc s,ew,ow]),.agg cn] g=.val r/\bg9 n E O Xt 0 .nil r:=by
 have e2:=jM d (lY (P:=Xt) hcn g.h);obtain⟨b,rfl,hN⟩:=dh.1 hcn;obtain⟨AA,i⟩:∃AA,AA=vs.map Xc++[Xc s,ew,ow]:=⟨_,rfl⟩;have N:=mc (h:=g.h) d (hE.tree (h':=g.h) (XH 0));have q2:=mc (h:=g.h) d (hO.tree (h':=g.h) (XH 0));have e1:Hx.Xm g.h d aF (.agg AA)=some (.agg AA):=by
  rw[i]
  match vs,hv with
  | [v0,v1,v2,v3,v4,v5,v6,v7,v8],_ =>
   have N:Hx.Xm g.h d 23 ew=some ew:=by rcases hEr with rfl|⟨rows,rfl⟩<;>rfl
   have q2:Hx.Xm g.h d 23 ow=some ow:=by rcases hOr with rfl|⟨rows,rfl⟩<;>rfl
   show (match aD (Hx.Xm g.h d 23) [Xc v0,Xc v1,Xc v2,Xc v3,Xc v4,Xc v5,Xc v6,Xc v7,Xc v8,Xc s,ew,ow] with|some xs=>some (AV.agg xs)|none=>none)=_;simp only[aD,N,q2]
   rfl
 have u:AA.length=12:=by rw[i];simp[hv]
 have ldA:a_ (Xy 12 [AA]) 0 0 true 9 0=.val (.agg (vs.map Xc)):=by
  rw[i]
  match vs,hv with
  |[v0,v1,v2,v3,v4,v5,v6,v7,v8],_=>rfl
 have ldS:a_ (Xy 12 [AA]) 0 0 false 1 9=.val (Xc s):=by
  rw[i]
  match vs,hv with
  |[v0,v1,v2,v3,v4,v5,v6,v7,v8],_=>rfl
 have ldE:a_ (Xy 12 [AA]) 0 0 false 1 10=.val ew:=by
  rw[i]
  match vs,hv with
  |[v0,v1,v2,v3,v4,v5,v6,v7,v8],_=>rcases hEr with rfl|⟨rows,rfl⟩<;>rfl
 have ldO:a_ (Xy 12 [AA]) 0 0 false 1 11=.val ow:=by
  rw[i]
  match vs,hv with
  |[v0,v1,v2,v3,v4,v5,v6,v7,v8],_=>rcases hOr with rfl|⟨rows,rfl⟩<;>rfl
 have lE:=hE.len;have lO:=hO.len;have lN:=(hN.tree (h':=.nil) (XH 0)).len;have Q:=hdr.l;have t:∀x∈n.XD,0<x.Xx:=λx hx=>by rcases hdr.c x hx with h|h<;>omega
 obtain⟨w1,J,A,K⟩:=Hl hE hEr 10;obtain⟨w2,L,C,M⟩:=Hl hO hOr 10;have w:∀g,fE 1 ew none (some (XE (min (E.length:Int) 10))) g=.val w1:=J;have B:∀g,fE 1 ow none (some (XE (min (O.length:Int) 10))) g=.val w2:=L;rw[WL,<-i];refine aP yB (xs:=[.agg AA,.agg [XE n.Xz,b]]) (by simp only[aD,e1,e2]) (by simp[jY]) (qw λo=>bg_ (aI _) (th _) (th _) (th _) (aI _) (th _)) (by decide) hd ?_;simp only[sz,simprocAttr,jY];obtain⟨g0,hg0⟩:∃g0,g0=((G.empty.new (Xy AA.length [AA])).new (Xy 2 [[XE n.Xz,b]])).new (Xy 6 [[.XC,.XC,.XC,.XC,.XC,.XC]]):=⟨_,rfl⟩;rw[<-hg0];have f0:g0.h.get 0=Xy 12 [AA]:=by rw[hg0,u];simp[sx,VO]
 have f1:g0.h.get 1=Xy 2 [[XE n.Xz,b]]:=by rw[hg0];simp[sx,VO]
 have f2:g0.h.get 2=Xy 6 [[.XC,.XC,.XC,.XC,.XC,.XC]]:=by rw[hg0];simp[sx]
 clear hg0;unfold nk;simp only[sz,simprocAttr,f0,f1,ldA];refine aG (bp5 (m:=n) (XR d) hv (lY (P:=Xt) hcn _) (by omega) t) ?_;rintro z ⟨ev,F,hz⟩;have hz:Xu Xt 0 .nil ev z:=IT.sl (k:=0) hz .nil;simp only[sz,simprocAttr,f0,f1,ldS,lN];refine aG (bh2 (m:=n.XD.length) (XR d) (by omega)) ?_;rintro y ⟨XF,I,j,D⟩;have fw2:∀{p q:AV},(p.cells=[p]/\p.isTup=false)->(q.cells=[q]/\q.isTup=false)->d_ [.XC,.XC] [((0,1),p),((1,1),q)]=some [p,q]:=λhp hq=>by
  simp[d_,hp,hq,gc]
  rfl
 have fw6:∀{a b c d e f:AV},d_ [.XC,.XC,.XC,.XC,.XC,.XC] [((0,2),.agg [a,b]),((2,2),.agg [c,d]),((4,2),.agg [e,f])]=some [a,b,c,d,e,f]:=λ{a b c d e f}=>rfl;simp only[sz,simprocAttr,sf,f0,f2,ldE,ldO,lE,lO,YD,Yz,w,B,fw2 hz.cell j.cell,fw2 A.cell j.cell,fw2 hz.cell C.cell,fw6];refine⟨?_,?_⟩
 ·simp only[X7,X8,X3,XY];exact aE (OQ (KI (OO (OO (true::[]))))) [] (by simp[Xl,am,aC]) (by decide) (by simp)
 have wd:∀{l:List Int} {v:AV} (h:H),Xu Xt 0 .nil l v->Xu Xt 0 h l v:=λh r=>r.tree (XH 0);exact⟨Xt,(ev,XF),⟨F,I⟩,_,_,_,_,_,_,rfl,⟨_,rfl,wd _ hz⟩,⟨wd _ j,D⟩,⟨wd _ A,K⟩,⟨wd _ j,D⟩,⟨_,rfl,wd _ hz⟩,⟨wd _ C,M⟩⟩
def xa0(id:Nat):Ki 2 1 (Xq id) (XE 0)=.val (Xq id):=rfl
def xa1(id:Nat):Ki 2 1 (Xq id) (XE 1)=.val (.W9 id 0 0 1):=rfl
def bg7[Xr](g:G):ah C0 1 12 [] g=.val (.bool true):=by kernel_rfl
def bg6{a c d e f:AV}(j:Nat)(hj:j<3):Vj true 3 2 (.agg [a,b,c,d,e,f]) (XE (j:Int))=.val (.agg [if j=0 then a else if j=1 then c else e,if j=0 then b else if j=1 then d else f]):=by
 have:j=0\/j=1\/j=2:=by omega
 rcases this with rfl|rfl|rfl<;>rfl
def Gw(W:List Int):∀j i,i<=j->W[i]?.getD 0<=W[AK W j]?.getD 0/\(i<AK W j->W[i]?.getD 0<W[AK W j]?.getD 0)
 | 0,i,hi=>by
  have:i=0:=by omega
  subst this;exact⟨Sq _,λh=>by rw[AK]at h;omega⟩
 | j+1,i,hi=>by
  have k:=CJ W j;rw[AK]
  by_cases c:W[AK W j]?.getD 0<W[j+1]?.getD 0
  ·rw[XO c]
   by_cases e:i=j+1
   ·subst e;exact⟨Sq _,λh=>by omega⟩
   ·have:=(Gw W j i (by omega)).1;exact⟨by omega,λ_=>by omega⟩
  ·rw[XS c]
   by_cases e:i=j+1
   ·subst e;exact⟨by omega,λh=>by omega⟩
   ·exact Gw W j i (by omega)
section
variable {c:Int}
def IF:∀{cs l m:List Int},(∀c∈cs,1<=c/\c<=4)->Wr cs l->Wr cs m->zt l m=AO (EL cs l) (EL cs m)
 |[],[],[],_,_,_=>rfl
 | c::cs,a::l,b::m,hc,hl,hm=>by
  have ih:=IF (λc h=>hc c (Yw _ h)) hl.2 hm.2;let⟨e,l1⟩:=bz (λc h=>hc c (Yw _ h)) hl.2;let⟨f,d⟩:=bz (λc h=>hc c (Yw _ h)) hm.2;show zt (a::l) (b::m)=AO (a*EO cs+EL cs l) (b*EO cs+EL cs m);obtain⟨P,k⟩:∃P,P=EO cs:=⟨_,rfl⟩;rw[<-k]at l1 d ⊢;rw[zt];rcases abR a b with h|h|h
  ·have h1:a*P+P<=b*P:=by have h3:(a+1)*P<=b*P:=YI (by omega) (by omega);rw[Zz,Ra]at h3;exact h3
   have e1:AO a b = -1:=XO h;rw[e1,XO (by decide),AO,dk]
  ·subst h;have e1:AO a a=0:=by rw[AO,aJ,aJ]
   rw[e1,XS (by decide),ih];unfold AO
   split
   ·rw[dk]
   ·split
    ·rw[aJ,dk]
    ·rw[aJ,aJ]
  ·have h1:b*P+P<=a*P:=by have h3:(b+1)*P<=a*P:=YI (by omega) (by omega);rw[Zz,Ra]at h3;exact h3
   have e1:AO a b=1:=by rw[AO,aJ,XO h]
   rw[e1,XO (by decide),AO,aJ,dk]
def yq(cs:List Int)(cl:List Int->Bool):Nat->List Int->List (List Int)
 |0,b=>[b]
 |f+1,b=>if cl b then [b] else (List.range ((cs[b.length]?.getD 0).toNat)).flatMap λx:Nat=>yq cs cl f (b++[((x:Nat):Int)])
def wL{b:List Int}(hb:Wr (cs.take b.length) b)(hc:cs[b.length]?=some c)(h0:0<=x)(h1:x<c):Wr (cs.take (b++[x]).length) (b++[x]):=by have hi:=XI.1 hc;rw[Yo,Zj,X4 hi.1,hi.2];exact Xl.append hb ⟨⟨h0,h1⟩,trivial⟩
def He{cs:List Int}{cl:List Int->Bool}(hfull:∀l,Wr cs l->cl l=true):∀(f:Nat) (b:List Int),b.length+f=cs.length->Wr (cs.take b.length) b->∀l∈yq cs cl f b,Wr (cs.take l.length) l/\l.length<=cs.length/\cl l=true
 | 0,b,hf,hb,l,hl=>by
  have:l=b:=by simpa [yq] using hl
  subst this;refine⟨hb,by omega,hfull l ?_⟩;rwa [XZ (by omega)]at hb
 | f+1,b,hf,hb,l,hl=>by
  rw[yq]at hl
  split at hl
  ·rename_i c;have:l=b:=by simpa using hl
   subst this;exact⟨hb,by omega,c⟩
  ·let⟨x,hx,hl⟩:=ZF.1 hl;have hx:=X0.1 hx;obtain⟨c,hc⟩:∃c,cs[b.length]?=some c:=⟨_,XJ (by omega)⟩;rw[hc,XP]at hx;exact He hfull f (b++[(x:Int)]) (by simp;omega) (wL hb hc (by omega) (by omega)) l hl
def bg5(cs:List Int)(p r:List (List Int))(i:Nat):BU cs (p++r) i=BU cs p i+BU cs r i:=by unfold BU;rw[aaG,Yo]
def Lv(cs b:List Int)(i:Nat):BU cs [b] i=if xL cs b i then 1 else 0:=by
 unfold BU
 by_cases h:xL cs b i=true<;>simp[h]
theorem bg4{b:List Int}(hcs:Wq cs)(hb:Wr (cs.take b.length) b)(hc:cs[b.length]?=some c)(h0:0<=x)(h1:x<c)(hi:i<EK cs) :
  xL cs (b++[x]) i=(xL cs b i&&decide ((EN cs (i:Int))[b.length]?.getD 0=x)):=by
 have hl:=(XI.1 hc).1;rw[Ck hcs (wL hb hc h0 h1) (by simp;omega) hi,Ck hcs hb (by omega) hi];have hv:=bO cs (i:Int);rw[Yo,Zj,X4 (by omega),NP,XP,<-Bool.decide_and];refine decide_eq_decide.2 ⟨λh=>?_,λh=>by rw[h.1,h.2]⟩;have:=List.append_inj h (by rw[X5];omega);exact⟨this.1,by simpa using this.2⟩
def bg3(hcs:Wq cs)(hc:cs[k]?=some c)(i:Int):0<=(EN cs i)[k]?.getD 0/\(EN cs i)[k]?.getD 0<c:=by let⟨y,a,h⟩:=(bm (λc hc=>(hcs.b c hc).1) i).get hc;rw[a];exact h
def Mi{cs:List Int}{cl:List Int->Bool}(hcs:Wq cs){i:Nat}(hi:i<EK cs):∀(f:Nat) (b:List Int),b.length+f=cs.length->Wr (cs.take b.length) b->BU cs (yq cs cl f b) i=if xL cs b i then 1 else 0
 |0,b,_,_=>by rw[yq,Lv]
 | f+1,b,hf,hb=>by
  rw[yq]
  split
  ·rw[Lv]
  ·obtain⟨c,hc⟩:∃c,cs[b.length]?=some c:=⟨_,XJ (by omega)⟩;rw[hc,XP];let⟨v0,v1⟩:=bg3 hcs hc (i:Int);obtain⟨y,h⟩:∃y,y=(EN cs (i:Int))[b.length]?.getD 0:=⟨_,rfl⟩;rw[<-h]at v0 v1;have key:∀m:Nat,(m:Int)<=c->BU cs ((List.range m).flatMap λx:Nat=>yq cs cl f (b++[((x:Nat):Int)])) i=if xL cs b i=true/\y<(m:Int) then 1 else 0:=by
    intro m
    induction m with
    |zero=>intro _;rw[aJ];rfl
    | succ m ih =>
     intro hm;rw[YF,Z3,bg5,ih (by omega)];simp only[YL,YP,X6];rw[Mi hcs hi f (b++[(m:Int)]) (by simp;omega) (wL hb hc (by omega) (by omega)),bg4 hcs hb hc (by omega) (by omega) hi,<-h];cases hh:xL cs b i with
     |false=>simp
     | true =>
      simp only[YO,X9,true_and]
      by_cases h1:y<(m:Int)
      ·rw[XO h1,aJ,dk]
      ·by_cases h2:y=(m:Int)
       ·rw[XS h1,XO h2,dk]
       ·rw[XS h1,XS h2,aJ]
   rw[key c.toNat (by omega)];have:y<(c.toNat:Int):=by omega
   simp only[this,and_true]
def bg2(hcs:Wq cs)(hi:i<EK cs):xL cs [] i=true:=by rw[Ck hcs (by trivial) (by simp) hi];rfl
end
section
variable {n:Xb}{e XF:List Int}
def BM(n:Xb)(XF:List Int):List Int:=EP (IO n) XF
def rN(hr:NR n)(hp:CY XF (n.XD.length:Int)=true):Wq (BM n XF)/\(BM n XF).length=XF.length:=by
 have a:=hr.l2;have b:=bc hp (by omega);have k:=aZ (ps:=XF) hr.cs (λp hpm=>by rw[ap];exact aO hp p hpm);have h:(BM n XF).length=XF.length:=by simp[BM,EP]
 exact⟨⟨k,by omega⟩,h⟩
def uX(n:Xb)(e XF:List Int)(l:List Int):Bool:=BO n XF (CZ n XF) (BP n e) (AH n e XF) l (zp n e XF)
def fN(n:Xb)(e XF:List Int):List (List Int):=yq (BM n XF) (uX n e XF) XF.length []
def HM(hr:NR n)(hp:CY XF (n.XD.length:Int)=true):pH n e XF<EK (BM n XF):=by have:=(rN hr hp).1.nc.1;have h:=CJ (AF n e XF (C2 n)) (EK (BM n XF) - 1);have:pH n e XF<=EK (BM n XF) - 1:=h;omega
def ze(hr:NR n)(hp:CY XF (n.XD.length:Int)=true):Wr (BM n XF) (AH n e XF):=bm (λc hc=>((rN hr hp).1.b c hc).1) _
def bg1(hr:NR n)(hp:CY XF (n.XD.length:Int)=true):EL (BM n XF) (AH n e XF)=(pH n e XF:Int):=lR (rN hr hp).1 _ (HM hr hp)
def bg0(hr:NR n)(hp:CY XF (n.XD.length:Int)=true):yu n e XF (AH n e XF)=zp n e XF:=by have:=Ch (e:=e) hr hp (rN hr hp).1 (HM (e:=e) hr hp);unfold zp;rw[this];rfl
def bf_(hr:NR n)(hp:CY XF (n.XD.length:Int)=true)(hl:Wr (BM n XF) l):yu n e XF l<=zp n e XF/\(EL (BM n XF) l<(pH n e XF:Int)->yu n e XF l<zp n e XF):=by
 obtain⟨k,d⟩:=rN hr hp;obtain⟨i0,i1⟩:=bz k.b hl;obtain⟨N1,N2,N3⟩:=k.nc;obtain⟨i,hi⟩:=XU i0;have a:i<EK (BM n XF):=by omega
 have hv:=Ch (e:=e) hr hp k a;have e1:EN (BM n XF) (i:Int)=l:=by rw[<-hi];exact cx (λc hc=>(k.b c hc).1) hl
 have e2:EN (EP (IO n) XF) (i:Int)=l:=e1;rw[e2]at hv;obtain⟨a1,a2⟩:=Gw (AF n e XF (C2 n)) (EK (BM n XF) - 1) i (by omega);rw[hv,XP]at a1 a2;refine⟨a1,λh=>a2 ?_⟩;rw[hi]at h;have:i<pH n e XF:=by omega
 exact this
def bf9(hr:NR n)(hp:CY XF (n.XD.length:Int)=true)(hl:l.length=XF.length):m6 n XF (CZ n XF) (BP n e) l=yu n e XF l:=by rw[Lt hr,bh6 hr hp hl];rfl
def GS(hr:NR n)(hp:CY XF (n.XD.length:Int)=true)(hl:Wr (BM n XF) l):uX n e XF l=true:=by
 obtain⟨a,f⟩:=rN hr hp;have i:l.length=XF.length:=by rw[<-f];exact hl.len
 have hb:=ze (e:=e) hr hp;have o:(AH n e XF).length=XF.length:=by rw[<-f];exact hb.len
 obtain⟨s,p⟩:=bf_ (e:=e) hr hp hl;unfold uX BO
 by_cases c:l=AH n e XF
 ·rw[Yj c,ZV]
 ·rw[bf9 hr hp i]
  by_cases c2:yu n e XF l<zp n e XF
  ·rw[Yj c2,ZV,abq]
  ·have j:yu n e XF l=zp n e XF:=by omega
   have q:¬EL (BM n XF) l<(pH n e XF:Int):=λh=>c2 (p h);have m:=bg1 (e:=e) hr hp;have r:EL (BM n XF) l≠EL (BM n XF) (AH n e XF):=λh=>c (by have k:=λc hc=>(a.b c hc).1;rw[<-cx k hl,<-cx k hb,h])
   have d:=IF a.b hl hb;have:AO (EL (BM n XF) l) (EL (BM n XF) (AH n e XF))=1:=by rw[AO,aJ,dk]
   rw[this]at d;rw[XZ (by omega),d,Yj j];simp
def CL(hr:NR n)(hp:CY XF (n.XD.length:Int)=true)(hl:Wr ((BM n XF).take l.length) l)(hll:l.length<=XF.length):BI n XF l=true:=by rw[BI,Yj hll,YO,XQ];intro i hi;have hi:=X0.1 hi;let⟨c,hc,h⟩:=hl.get' (XJ hi);rw[ZC,XO hi]at hc;have hc:(EP (IO n) XF)[i]?=some c:=hc;rw[i4,XJ hi,hc];simpa using h
def bf8(hr:NR n)(hp:CY XF (n.XD.length:Int)=true)(h1:∀l∈proof,Wr ((BM n XF).take l.length) l/\l.length<=XF.length/\uX n e XF l=true)(h2:∀i,i<EK (BM n XF)->BU (BM n XF) proof i=1):vF n e XF (AH n e XF) proof=true:=by
 let⟨a,k⟩:=rN hr hp;have h:(AH n e XF).length=XF.length:=by rw[<-k];exact (ze hr hp).len
 rw[vF,MK h,bg0 hr hp,XM,XM];refine⟨XQ.2 λl hl=>CL hr hp (h1 l hl).1 (h1 l hl).2.1,XQ.2 λi hi=>Yj (h2 i (X0.1 hi)),XQ.2 λl hl=>(h1 l hl).2.2⟩
def bf7(hr:NR n)(hp:CY XF (n.XD.length:Int)=true):vF n e XF (AH n e XF) (fN n e XF)=true:=by
 let⟨h,k⟩:=rN hr hp;refine bf8 hr hp (λl hl=>?_) λi hi=>?_
 ·have:=He (λl hl=>GS hr hp hl) XF.length [] (by simp[k]) (by trivial) l hl;exact⟨this.1,by omega,this.2.2⟩
 ·rw[fN,Mi h hi XF.length [] (by simp[k]) (by trivial),bg2 h hi,XO rfl]
def c8(cs:List Int):Nat->List (List Int)
 |0=>[[]]
 |k+1=>(c8 cs k).flatMap λb=>(List.range ((cs[k]?.getD 0).toNat)).map λx:Nat=>b++[((x:Nat):Int)]
def H7{cs:List Int}:∀k,k<=cs.length->∀l∈c8 cs k,l.length=k/\Wr (cs.take k) l
 | 0,_,l,hl=>by
  have:l=[]:=by simpa [c8] using hl
  subst this;exact⟨rfl,trivial⟩
 | k+1,hk,l,hl=>by obtain⟨b,hb,hl⟩:=ZF.1 hl;obtain⟨x,hx,rfl⟩:=Ys.1 hl;have hx:=X0.1 hx;let⟨h1,h2⟩:=H7 k (by omega) b hb;obtain⟨c,hc⟩:∃c,cs[k]?=some c:=⟨_,XJ (by omega)⟩;rw[hc,XP]at hx;subst h1;have:=wL h2 hc (x:=(x:Int)) (by omega) (by omega);refine⟨by simp,?_⟩;simpa using this
end
section
variable {qp bv vw:AV}
theorem Cw{cs:List Int}{cl:List Int->Bool}(hc:∀c∈cs,1<=c/\c<=4):∀(f:Nat) (b:List Int),b.length+f=cs.length->(yq cs cl f b).length<=4 ^ f
 |0,_,_=>by simp[yq]
 | f+1,b,hf=>by
  have h1:1<=4 ^ (f+1):=Nat.one_le_pow _ _ (by decide);rw[yq]
  split
  ·simpa using h1
  ·obtain⟨c,h⟩:∃c,cs[b.length]?=some c:=⟨_,XJ (by omega)⟩;have:=hc c (XL h);rw[h,XP];have key:∀m:Nat,((List.range m).flatMap λx:Nat=>yq cs cl f (b++[((x:Nat):Int)])).length<=m*4 ^ f:=by
    intro m
    induction m with
    |zero=>simp
    | succ m ih =>rw[YF,Z3,Yo,Yk,Y8];have:=Cw (cl:=cl) hc f (b++[((m:Nat):Int)]) (by simp;omega);simp only[YL,YP,X6];omega
   refine Ya (key c.toNat) ?_;rw[Zn,Zm];exact aaz _ (by omega)
def zK(hv:v.cells=[v])(tv:v.isTup=false)(hw:w.cells=[w])(tw:w.isTup=false)(g:G):M4 1 2 [z] [0,1] [v,w] g=.upd (.Xj g.nx 0 0 2 none) (g.new (Xy 1 [[v],[w]])):=by
 have e:cY 1 [[z],[z]] [(0,v),(1,w)]=some [[v],[w]]:=by
  simp only[cY,hv,tv,hw,tw,ay,Zj,WU,ZK]
  rfl
 show (match cY 1 [[z],[z]] [(0,v),(1,w)] with|some rows=>OR.upd (.Xj g.nx 0 0 2 none) (g.new (Xy 1 rows))|none=>.fail)=_;rw[e]
def bf6{b:List Int}{N M:Nat}(hw:Xu Xt 0 .nil b w)(h1:h.get M=Xy 1 [[w],[.Xj N 0 0 1 none]])(h2:h.get N=Xy 1 [[XE x]]):Xu (λ_=>True) 0 h [b,[x]] (.Xj M 0 0 2 none):=by
 refine⟨by simp,trivial,[[w],[.Xj N 0 0 1 none]],?_,bo.2 ⟨w,rfl,hw.wide (XH 0)⟩,bo.2 ⟨_,rfl,by simp,trivial,[[XE x]],?_,aK.2 rfl,trivial⟩,trivial⟩
 ·rw[show Rp.sz (List Int)=1 from rfl,bi,h1];rfl
 ·rw[show Rp.sz Int=1 from rfl,bi,h2];rfl
def Bo[Xr](d:Nat)(x a b c e f h:AV)(g:G):kT C0 (I C0) d (.W_ 70 [] [a,b,c,e,f,h]) [x] g=K3 ((I C0).call d 70 [x,a,b,c,e,f,h] g):=by kernel_rfl
def NJ:List AV:=[Xq 4,Xq 2,Xq 5,Xq 3,Xq 1,Xq 6]
def bf5[Xr]{xs:List Od}{a:List AV}(h:Xs t 34=.W_ 70 [] a):SO.foot C0 t g (.dyn (.t 34) xs)=cz:=by
 have hs:((C0.ext 70).isSome || C0.ON 70)=false:=by kernel_rfl
 simp only[SO.foot,Io,h,hs]
structure KV (g:G) (qp bv vw:AV) (wt:Int) (acc:List (List Int)):Prop where
 h1:g.h.get 1=Xy 1 [[vw]]
 h2:g.h.get 2=Xy 1 [[bv]]
 h4:g.h.get 4=Xy 1 [[qp]]
 h5:g.h.get 5=Xy 1 [[XE wt]]
 h6:g.h.get 6=Xy 1 [[.W_ 70 [] NJ]]
 h3:∃pv rows,g.h.get 3=Xy 1 [[pv]]/\Own g 7 pv 1 rows/\Xl (Rp.rp Xt 0 .nil) acc rows
 nx:7<=g.nx
def KV.fr{acc:List (List Int)}(h:KV g qp bv vw wt acc)(f:Fr g g'):KV g' qp bv vw wt acc:=by have:=h.nx;have a:=f.1;let⟨pv,rows,a1,a2,k⟩:=h.h3;exact⟨by rw[f.2 1 (by omega),h.h1],by rw[f.2 2 (by omega),h.h2],by rw[f.2 4 (by omega),h.h4],by rw[f.2 5 (by omega),h.h5],by rw[f.2 6 (by omega),h.h6],⟨pv,rows,by rw[f.2 3 (by omega),a1],a2.step f,k⟩,by omega⟩
theorem Eh[Xr]{b:List Int}{acc:List (List Int)}(hw:Xu Xt 0 .nil b w)(hP:KV g qp bv vw wt acc)(hacc:acc.length+1<=65536)(kc:∀g,ah C0 d 71 [qp,w,bv,XE wt] g=.val (.bool true))
  (kk:∀v g',KV g' qp bv vw wt (acc++[b])->g.nx<=g'.nx->K v g'):(kT C0 (I C0) d (.W_ 70 [] NJ) [w] g).sat K g D:=by
 obtain⟨pv,rows,a1,a2,l⟩:=hP.h3;have n:=hP.nx;have m:=l.len;have wc:=hw.cell;rw[NJ,Bo];refine xl nX (by simp[dQ]) ?_;simp only[sz,simprocAttr,dQ,dl,hP.h4,hP.h2,hP.h5,kc,a1];rw[nB 1 [.XC] w g (by rw[wc.1];rfl) wc.2,wc.1];simp only[sz,simprocAttr];have c:Own (g.new (Xy 1 [[w]])) 7 pv 1 rows:=a2.step (Fr.new _ _);refine aM (b:=7) (v:=pv) (rows:=rows) (new:=[[w]]) c (by rw[bi];simp[VO];rfl) (by simp;omega) (by simp[aH];omega) λv2 g2 hv2 n2 f2 vid2 lg2=>?_;have f:W5 pv≠some 3:=λh=>by have:=(a2.lt h).1;omega
 have fr:∀i,i<g.nx->W5 pv≠some i->g2.h.get i=g.h.get i:=λi hi hv=>by rw[f2 i (by simp;omega) hv];simp[VO,show ¬i=g.nx by omega]
 have g3:g2.h.get 3=Xy 1 [[pv]]:=by rw[fr 3 (by omega) f,a1]
 have a:=hv2.cell;have j:∀g:G,dt (Xy 1 [[pv]]) g 3 0 0 1 0 v2=.upd .undef (g.put 3 (Xy 1 [[v2]])):=λg=>by rw[dL _ _ _ _ _ _ _ _ _ _ (by rw[a.1];rfl) a.2,a.1];rfl
 simp only[sz,simprocAttr,g3,j];have k:∀i,i<7->i≠3->(g2.put 3 (Xy 1 [[v2]])).h.get i=g.h.get i:=λi hi h=>by rw[<-fr i (by omega) (λhv=>by have:=(a2.lt hv).1;omega)];simp[VO,h]
 have e:g.nx<=g2.nx:=by have:g.nx+1<=g2.nx:=n2;omega
 refine kk _ _ ⟨by rw[k 1 (by omega) (by omega),hP.h1],by rw[k 2 (by omega) (by omega),hP.h2],by rw[k 4 (by omega) (by omega),hP.h4],by rw[k 5 (by omega) (by omega),hP.h5],by rw[k 6 (by omega) (by omega),hP.h6],⟨v2,rows++[[w]],by simp[VO],?_,Xl.append l ⟨bo.2 ⟨w,rfl,hw⟩,trivial⟩⟩,by simp;omega⟩ (by simpa using e);refine hv2.fr (by simp) λi hi=>?_;have:=(hv2.lt hi).1;simp[VO,show ¬i=3 by omega]
theorem bf4[Xr]{m:Int}(hd:k<d)(hr:NR n)(hp:CY XF (n.XD.length:Int)=true)(hq:pD n XF (CZ n XF) (BP n e) m k qp)(hbv:Xu Xt 0 .nil (AH n e XF) bv)(hvw:Xu Xt d .nil XF vw) :
  ∀(f:Nat) (b:List Int) (w:AV) (g:G) (K:AV->G->Prop) (D:Xo->Prop) (acc:List (List Int)),b.length+f=XF.length->Wr ((BM n XF).take b.length) b->Xu Xt 0 .nil b w->KV g qp bv vw (zp n e XF) acc->acc.length+4 ^ f<=65536 ->
  (∀v g',KV g' qp bv vw (zp n e XF) (acc++yq (BM n XF) (uX n e XF) f b)->g.nx<=g'.nx->K v g')->(kT C0 (I C0) d (.W_ 70 [] NJ) [w] g).sat K g D:=by
 obtain⟨J,Q⟩:=rN hr hp;have h8:=hr.l2;have he:=bc hp (by omega);have ha:(CZ n XF).length<=n.XD.length:=mE _ _;have h7:(AH n e XF).length=XF.length:=by rw[<-Q];exact (ze (e:=e) hr hp).len
 intro f
 induction f with
 | zero =>intro b w g K D acc hf hb hw z u kk;have hcl:uX n e XF b=true:=GS hr hp (by rwa [XZ (by omega)]at hb);have kc:=λg:G=>yw (d:=d) (g:=g) (wt:=zp n e XF) hd hr hq (aO hp) (by omega) jr (by omega) (ma _ _ _) (A6 hr e) (hw.tree (h':=g.h) (XH 0)) (by omega) (hbv.tree (h':=g.h) (XH 0)) (by omega);have o:BO n XF (CZ n XF) (BP n e) (AH n e XF) b (zp n e XF)=true:=hcl;rw[o]at kc;exact Eh hw z (by simpa using u) kc kk
 | succ f ih =>
  intro b w g K D acc hf hb hw z u kk;have kc:=λg:G=>yw (d:=d) (g:=g) (wt:=zp n e XF) hd hr hq (aO hp) (by omega) jr (by omega) (ma _ _ _) (A6 hr e) (hw.tree (h':=g.h) (XH 0)) (by omega) (hbv.tree (h':=g.h) (XH 0)) (by omega);have h4:1<=4 ^ f:=Nat.one_le_pow _ _ (by decide);rw[Zn]at u
  by_cases hcl:uX n e XF b=true
  ·have o:BO n XF (CZ n XF) (BP n e) (AH n e XF) b (zp n e XF)=true:=hcl;rw[o]at kc;refine Eh hw z (by omega) kc ?_;rw[yq,XO hcl]at kk;exact kk
  ·have o:BO n XF (CZ n XF) (BP n e) (AH n e XF) b (zp n e XF)=false:=by
    have:uX n e XF b=false:=by simpa using hcl
    exact this
   rw[o]at kc;rw[yq,XS hcl]at kk;obtain⟨p,E,-,T⟩:=af (l:=XF) (j:=b.length) (by omega);obtain⟨p0,p1⟩:=aO hp p T;have U:=hq;obtain⟨t0,Z,sv,ow,ww,e0,ht,H,hv,ho,hg⟩:=U;obtain⟨pn,y,rows,pa,ra,rfl,V,r1,r2,r3,r4,X,r5⟩:=ue H p0 p1;have W:=hr.Xx y X;have A:(BM n XF)[b.length]?=some y.Xx:=by simp[BM,EP,E,r5]
   rw[A,XP]at kk;have lw:∀g:G,bC .slice w g=.val (XE (b.length:Int)):=λg=>hw.len g;have rv:=λh=>(hvw.tree (h':=h) (XH d)).ints;have z1:b.length<(XF.map ci).length:=by rw[XN];omega
   have z2:(XF.map ci)[b.length]?=some (ci (pn:Int)):=by rw[XK,E];rfl
   have R:zV qp=.val qp:=by rw[e0];rfl
   have M:GO 0 qp=.val (.Xn t0 6 [[XE n.Xz,Z,sv,ow,ww,XE m]] 0 0):=by rw[e0];exact bZ _ _ _ _ _ _
   have h3:=z.h4;rw[NJ,Bo];refine xl nX (by simp[dQ]) ?_;simp only[sz,simprocAttr,dQ,dl,z.h4,z.h2,z.h5,z.h1,kc,R,M,bZ,bj,lw,rv,z1,z2,ci,r1,r2,r3,r4];obtain⟨c,hc⟩:=XU (show 0<=y.Xx by omega);rw[hc]at kk W A ⊢;unfold mi;refine aT (m:=c) (by omega) (λx t df g'=>df=[]/\St t [(0,w),(6,Xq 6)]/\KV g' qp bv vw (zp n e XF) (acc++(List.range x).flatMap λx:Nat=>yq (BM n XF) (uX n e XF) f (b++[((x:Nat):Int)]))/\g.nx<=g'.nx)
    ⟨rfl,by simp[St,sx],by simpa using z,XH _⟩ (by simp[sx]) (by simp[sx]) (by decide)
    (by rintro j t df g v s (rfl|rfl|rfl) ⟨a1,⟨b1,b2,-⟩,c⟩<;>exact⟨a1,by simp[St,sx,b1,b2],c⟩) ?_ ?_
   ·rintro x t df g' hx ⟨rfl,⟨h0,h6,-⟩,q,C⟩ B F;have Y:((List.range x).flatMap λx:Nat=>yq (BM n XF) (uX n e XF) f (b++[((x:Nat):Int)])).length<=x*4 ^ f:=by
     have key:∀m:Nat,((List.range m).flatMap λx:Nat=>yq (BM n XF) (uX n e XF) f (b++[((x:Nat):Int)])).length<=m*4 ^ f:=by
      intro m
      induction m with
      |zero=>simp
      | succ m ih =>rw[YF,Z3,Yo,Yk,Y8];have:=Cw (cl:=uX n e XF) J.b f (b++[((m:Nat):Int)]) (by simp;omega);simp only[YL,YP,X6];omega
     exact key x
    have wc:=hw.cell;have h9:=q.nx;simp only[sz,simprocAttr,sf,B,h6,h0,q.h6];rw[zK wc.1 wc.2 (by rfl) (by rfl)];simp only[sz,simprocAttr];refine aG (bh8 (L:=[b,[(x:Int)]]) (P:=λ_=>True) (k:=0) (by omega) (bf6 (N:=g'.nx+1+1+1) hw ?_ ?_) (by simp) (by simp;omega)) ?_
    ·simp[VO]
    ·simp[VO]
    intro r hr;obtain⟨r',er,hr⟩:=hr;injection er with er;subst er;have O:[b,[(x:Int)]].flatten=b++[(x:Int)]:=by simp
    rw[O]at hr;simp only[sz,simprocAttr];refine ih (b++[(x:Int)]) r _ _ _ (acc++(List.range x).flatMap λx:Nat=>yq (BM n XF) (uX n e XF) f (b++[((x:Nat):Int)])) (by simp;omega) (wL hb A (by omega) (by omega)) hr (q.fr ⟨by simp[sy];omega,λi hi=>?_⟩) ?_ λv g3 hP3 hn3=>?_
    ·simp[VO,show ¬i=g'.nx+1+1+1 by omega,show ¬i=g'.nx+1+1+1+1+1 by omega]
    ·rw[Yo];have:x*4 ^ f<=3*4 ^ f:=Ye _ (by omega);omega
    simp only[sz,simprocAttr];refine⟨?_,⟨⟨by simp[St,sx,h0,h6],?_,?_⟩,by simp[B],by simp[F]⟩⟩
    ·rw[bf5 (a:=NJ) (by simp[sx])];simp only[X7,X8,X3,XY];refine aE [false,false,false,true,true,false,true] [(0,3),(1,3),(0,4)] (by simp[Xl,am,aC,cz,q8]) (by decide) ?_;rintro p hp x y hx V;simp only[Yh,Yc,ZQ]at hp;rcases hp with rfl|rfl|rfl<;>(simp[sx]at hx V;subst hx;subst V;refine cK rfl rfl rfl rfl ?_ ?_ ?_<;>simp[am,aC,ge]<;>omega)
    ·rw[YF,Z3,<-YA];refine KV.fr (g:=g3) (by simpa using hP3) ⟨by simp[sy],λi _=>by simp[sy]⟩
    ·have:g'.nx<=g3.nx:=by simp[sy]at hn3;omega
     simp[sy];omega
   ·rintro t df g' ⟨rfl,-,q,C⟩;simp only[sz,simprocAttr];rw[ZX]at kk;exact kk _ _ q C
end
def T8(mw:List Int)(a:Int):Int:=mw[a.toNat]?.getD 0
def bb7(mw:List Int)(a b:Int):Prop:=T8 mw b<T8 mw a\/(T8 mw a=T8 mw b/\a<b)
def bb8(mw:List Int)(j:Nat):List Int:=((List.range j).map λi:Nat=>(i:Int)).filter λi=>decide (0<T8 mw i)
def bb9(mw:List Int):List Int:=bb8 mw mw.length
structure IsSrt (mw R:List Int):Prop where
 mem:∀x,x∈R↔x∈bb9 mw
 ord:R.Pairwise (bb7 mw)
def bf3(g:G)(id:Nat):dt (Xy 1 [[.WQ]]) g id 0 0 1 0 .WQ=.upd (.WM []) (g.put id (Xy 1 [[.WQ]])):=rfl
def bf2(g:G)(id:Nat)(t sz:Nat)(rows:List (List AV))(i off:Nat):dt (Xy 1 [[.WQ]]) g id 0 0 1 0 (.Xn t sz rows i off)=.upd (.WM []) (g.put id (Xy 1 [[.Xn t sz rows i off]])):=rfl
def xK(n:Xb)(e XF:List Int):List (List Int):=if AM n e XF=0 then fN n e XF else []
def RD(n:Xb)(e XF:List Int):VS:=T2 (One (zh n e XF)) (One (xK n e XF)) (One (AM n e XF))
def bf1(n:Xb)(e XF:List Int):Q6 (RD n e XF) 2:=Jx (m:=2) (aI _) (aI _) (aI _) (by decide) (by decide) (by decide)
def bf0{r:AV}(h:RD n e XF Xt 0 .nil r):∃a b,r=.WM [a,b,XE (AM n e XF)]/\Xu Xt 0 .nil (zh n e XF) a/\Xu Xt 0 .nil (xK n e XF) b:=by obtain⟨a,b,c,rfl,h1,h2,h3⟩:=h;obtain⟨a',e1,h1⟩:=h1;injection e1 with e1;subst e1;obtain⟨b',e2,h2⟩:=h2;injection e2 with e2;subst e2;have h3:=aK.1 h3;injection h3 with h3;subst h3;exact⟨a,b,rfl,h1,h2⟩
def Jd{E:Int}(hE:AM n e XF=E)(h0:E≠0):RD n e XF P 0 h (.WM [.XC,.XC,XE E]):=by
 have hL:zh n e XF=[]:=by rw[zh,hE,XS h0]
 have k:xK n e XF=[]:=by rw[xK,hE,XS h0]
 refine⟨_,_,_,rfl,?_,?_,?_⟩
 ·rw[hL];exact⟨_,rfl,by simp,rfl⟩
 ·rw[k];exact⟨_,rfl,by simp,rfl⟩
 ·rw[hE];exact aK.2 rfl
def be_(g:G)(id f:Nat)(a c:List AV):dt (Xy 1 [[.WT]]) g id 0 0 1 0 (.W_ f a c)=.upd .undef (g.put id (Xy 1 [[.W_ f a c]])):=rfl
theorem be9[Xr](hd:0<d)(hm:WG n Xt 0 g.h v)(he:Xu P1 k1 g.h e w)(hv:Xu P2 k2 g.h XF u)(hk2:k2<=d) :
  ∃r,ah C0 d 23 [v,w,u] g=.val r/\RD n e XF Xt 0 .nil r:=by
 obtain⟨b,rows,rfl,e1,M,hN,-⟩:=cg d hm;obtain⟨w',e2,R⟩:=aB he d;obtain⟨u',e3,j⟩:=aB hv d;rw[aaZ hk2]at j;have uc:=(j .nil).cell;have J:∀g:G,Gy u' g=.upd (Xq g.nx) (g.new (Xy 1 [[u']])):=λg=>Ay (j .nil) g;rw[yj];refine aP AS (xs:=[.agg [XE n.Xz,b],w',u']) (by simp only[aD,e1,e2,e3]) (by simp[mO]) (bf1 n e XF) (by decide) hd ?_;unfold mO;dsimp only;refine bP (P:=λt df g=>df=[]/\g.nx=4/\g.h.get 0=Xy 2 [[XE n.Xz,b]]/\g.h.get 1=Xy 1 [[u']]/\g.h.get 2=Xy 1 [[.XC]]/\g.h.get 3=Xy 1 [[.XC]]/\St t [(1,w'),(3,Xq 0),(5,Xq 1),(6,Xq 2),(7,Xq 3)]) ?_ ?_
 ·simp only[sz,simprocAttr,J];simp[St,sx]
 rintro t df g ⟨rfl,X,g0,g1,g2,g3,h1,h3,h5,h6,h7,-⟩;unfold pM;refine bP (P:=λt' df g'=>df=[]/\g'.nx=5/\(∀i,i<4->g'.h.get i=g.h.get i)/\∃p E,g'.h.get 4=Xy 1 [[p]]/\Si n e XF Xt d .nil (.WM [p,XE E])/\St t' [(6,Xq 2),(7,Xq 3),(9,Xq 4),(5,Xq 1),(8,XE E)]) ?_ ?_
 ·simp only[sz,simprocAttr,h1,h3,h5,g0,g1];refine aG (zU (n:=n) (e:=e) (XF:=XF) (kv:=d) (ZU d) (M _) (R _) (j _)) λr hr=>?_;rcases D7 hr with⟨c,p,rfl,hp⟩|⟨c,rfl⟩
  ·obtain⟨t0,b0,vw0,ow0,ww0,rfl,-⟩:=hp;simp only[sz,simprocAttr,bf2,X];exact⟨λi hi=>by rw[aJ,aJ],_,_,rfl,hr,by simp[St,sx,h5,h6,h7]⟩
  ·simp only[sz,simprocAttr,bf3,X];exact⟨λi hi=>by rw[aJ,aJ],_,_,rfl,hr,by simp[St,sx,h5,h6,h7]⟩
 rintro t df g' ⟨rfl,m,C,p,E,D,N,h6,h7,h9,h5,h8,-⟩;have k1:g'.h.get 1=Xy 1 [[u']]:=by rw[C 1 (by omega),g1]
 have s:g'.h.get 2=Xy 1 [[.XC]]:=by rw[C 2 (by omega),g2]
 have T:g'.h.get 3=Xy 1 [[.XC]]:=by rw[C 3 (by omega),g3]
 clear C g1 g2 g3;rcases D7 N with⟨c,p',ep,hp⟩|⟨c,ep⟩
 rotate_left
 ·injection ep with ep;injection ep with ep1 ep2;injection ep2 with ep2;injection ep2 with _ ep2;subst ep2;have o:AM n e XF=zw n e XF:=by rw[AM,XS c]
  simp only[sz,simprocAttr,h8,c,h6,h7,s,T];exact⟨λ_=>True,Jd o c⟩
 injection ep with ep;injection ep with ep1 ep2;injection ep2 with ep2;injection ep2 with _ ep2;subst ep1 ep2;obtain⟨⟨hr,h4⟩,l⟩:=tf.1 c;have hb:=hr.l2;have hc:=bc l (by omega);have hp0:=hp;obtain⟨t0,bb,vw,ow,ww,e0,-⟩:=hp0;have A:zV p=.val p:=by rw[e0];rfl
 have z:GO 5 p=.val (.Xn t0 6 [[XE n.Xz,bb,vw,ow,ww,XE (rK n e)]] 0 5):=by rw[e0];exact bZ _ _ _ _ _ _
 rw[cX];simp only[sz,simprocAttr,h8]
 by_cases c2:rK n e=0
 ·have o:AM n e XF=7:=by rw[AM,XO c,XO c2]
  simp only[sz,simprocAttr,h9,D,A,z,bj,c2,h6,h7,s,T];exact⟨λ_=>True,Jd o (by decide)⟩
 have o:AM n e XF=0:=by rw[AM,XO c,XS c2]
 simp only[sz,simprocAttr,h9,D,A,z,bj,c2];refine aG (bi9 (ZU d) hr hp l) ?_;rintro r ⟨a,c',rfl,⟨a',q,ha⟩,f⟩;injection q with q;subst q;have f:=aK.1 f;injection f with f;subst f;have ac:=ha.cell;have O:∀g:G,dt (Xy 1 [[.XC]]) g 2 0 0 1 0 a=.upd .undef (g.put 2 (Xy 1 [[a]])):=λg=>by rw[dL _ _ _ _ _ _ _ _ _ _ (by rw[ac.1];rfl) ac.2,ac.1];rfl
 have B:∀g:G,dt (Xy 1 [[a]]) g 2 0 0 1 0 a=.upd .undef (g.put 2 (Xy 1 [[a]])):=λg=>by rw[dL _ _ _ _ _ _ _ _ _ _ (by rw[ac.1];rfl) ac.2,ac.1];rfl
 have hf:BM n XF=BM n XF:=rfl;simp only[sz,simprocAttr,m,h6,s,O,be_,h9,h7,h5];rw[show AV.W_ 70 [] [Xq 4,Xq 2,Xq 5,Xq 3,Xq 1,Xq 6]=.W_ 70 [] NJ from rfl];refine bf4 (ZU d) hr l hp ha ((j .nil).tree (by omega)) XF.length [] .XC _ _ _ [] (by simp) (by trivial) ⟨by simp,rfl⟩ ?_ ?_ λv g7 hP hn7=>?_
 ·refine⟨by simp[VO,m,k1],by simp[VO,m],by simp[VO,m,D],by simp[VO,m],by simp[VO,m],⟨.XC,[],by simp[VO,m,T],.inl ⟨rfl,rfl⟩,trivial⟩,by simp[m]⟩
 ·have:4 ^ XF.length<=4 ^ 8:=Yr (by decide) (by omega);simpa using this
 obtain⟨pv,rows7,q1,q2,q3⟩:=hP.h3;have pc:=q2.cell;have Q:∀g:G,dt (Xy 1 [[pv]]) g 3 0 0 1 0 pv=.upd .undef (g.put 3 (Xy 1 [[pv]])):=λg=>by rw[dL _ _ _ _ _ _ _ _ _ _ (by rw[pc.1];rfl) pc.2,pc.1];rfl
 simp only[sz,simprocAttr,sf,h6,h7,hP.h2,q1,B,Q];refine⟨?_,?_⟩
 ·simp only[X7,X8,X3,XY];refine aE [false,false,true,true,false] [(1,2)] (by simp[Xl,am,aC]) (by decide) ?_;rintro p hp x y hx W;simp only[Yh,Yc,ZQ]at hp;subst hp;simp[sx]at hx W;subst hx;subst W;refine cK rfl rfl rfl rfl ?_ ?_ ?_<;>simp[am,ge]
 ·obtain⟨K,L⟩:=rN hr l;have V:=Cw (cl:=uX n e XF) K.b XF.length [] (by simp[L]);have Y:4 ^ XF.length<=4 ^ 8:=Yr (by decide) (by omega);have H:xK n e XF=fN n e XF:=by rw[xK,XO o]
  have F:zh n e XF=AH n e XF:=by rw[zh,XO o]
  rw[X3]at q3;have Z:Own ((g7.put 2 (Xy 1 [[a]])).put 3 (Xy 1 [[pv]])) 7 pv 1 rows7:=q2.fr (by simp) λi hi=>by have:=(q2.lt hi).1;simp[VO,show ¬i=2 by omega,show ¬i=3 by omega]
  have U:Xl (Rp.rp (λ_=>True) 0 ((g7.put 2 (Xy 1 [[a]])).put 3 (Xy 1 [[pv]])).h) (fN n e XF) rows7:=Xl.mono (λa b h=>Rp.tree h (XH 0)) q3;have I:=Own.sl (α:=List Int) (P:=λ_=>True) (k:=0) Z (by unfold fN;omega) U λ_ _=>trivial;refine⟨λ_=>True,a,pv,_,rfl,⟨a,rfl,?_⟩,⟨pv,rfl,?_⟩,?_⟩
  ·rw[F];exact ha.wide (XH 0)
  ·rw[H];exact I
  ·rw[o];exact aK.2 rfl
section
variable {B:Nat}{lw:AV}
structure Sz (g:G) (gr:Int) (b:AV) (B:Nat) (out next:AV) (L N:List (List Int)):Prop where
 g0:g.h.get 0=Xy 2 [[XE gr,b]]
 hL:Xu (λi=>i<B) 0 g.h L out
 hN:rq g 0 0 next N
 hv:∀i,W5 next=some i->B<=i
 hB:1<=B/\B<=g.nx
def Sz.step{gr:Int}{next next':AV}{N N':List (List Int)}(h:Sz g gr b B out next L N)(hn:g.nx<=g'.nx)(hf:∀i,i<g.nx->W5 next≠some i->g'.h.get i=g.h.get i)(hN:rq g' 0 0 next' N')(hv:W5 next'=W5 next\/∃i,W5 next'=some i/\g.nx<=i):Sz g' gr b B out next' L N':=by
 have hB:=h.hB;have k:∀i,i<B->W5 next≠some i:=λi hi e=>by have:=h.hv i e;omega
 refine⟨by rw[hf 0 (by omega) (k 0 (by omega)),h.g0],h.hL.far8 λi hi=>hf i (by omega) (k i hi),hN,λi hi=>?_,hB.1,by omega⟩;rcases hv with e|⟨j,e,a⟩
 ·exact h.hv i (by rw[<-e];exact hi)
 ·rw[e]at hi;injection hi with hi;omega
def U3(u lw out:AV)(k i:Nat):List (Nat×AV):=[(1,u),(2,lw),(3,Xq 0),(7,out),(8,XE (k:Int)),(10,XE (i:Int))]
theorem be8[Xr]{kk:Nat}{N0:List (List Int)}{bl:List Int}{p:Nat}{c:Nat}(hN:Xu Xt 0 .nil n.XD b)(hu:Xu Xt kk .nil XF u)(hk:XF[k]?=some (p:Int))(hp:p<n.XD.length)(hc:(IO n)[p]?=some (c:Int))(hc4:c<=4)(hi:L[i]?=some bl)(hbl:bl.length<=8)(hN0:N0.length<=65536)
  (hH:Sz g n.Xz b B out (Xs t 9) L N0) (ht:St t (U3 u lw out k i)) (h11:Xs t 11=XE 0)
  (fin:∀t g',St t (U3 u lw out k i)->Sz g' n.Xz b B out (Xs t 9) L (N0++(List.range c).map λx:Nat=>bl++[((x:Nat):Int)])->g.nx<=g'.nx->Q (.exit 4) t [] g') :
  VY (wp C0 d none oQ) Q t [] g:=by
 have rv:=λh=>(hu.tree (h':=h) (XH _)).ints;have z1:k<(XF.map ci).length:=by rw[XN];exact (XI.1 hk).1
 have z2:(XF.map ci)[k]?=some (ci (p:Int)):=by rw[XK,hk];rfl
 obtain⟨pn,y,rows,pa,ra,E,P,W,X,Y,Z,-,r5⟩:=ue hN (show (0:Int)<=(p:Int) by omega) (by omega);have E:pn=p:=by omega
 subst E;have J:y.Xx=(c:Int):=by
  have:(IO n)[pn]?=some y.Xx:=by simp[IO,P]
  rw[hc]at this;injection this with this;exact this.symm
 unfold oQ;refine HA (m:=c) (λx t df g'=>df=[]/\St t (U3 u lw out k i)/\Xs t 11=XE (x:Int)/\Sz g' n.Xz b B out (Xs t 9) L (N0++(List.range x).map λx:Nat=>bl++[((x:Nat):Int)])/\g.nx<=g'.nx) ⟨rfl,ht,h11,by simpa using hH,XH _⟩ ?_ ?_ ?_
 ·rintro x t df g' hx ⟨rfl,⟨h1,h2,h3,h7,h8,Xp,-⟩,h11,f,r⟩;have g0:=f.g0;have hd:decide ((x:Int)<(c:Int))=decide (x<c):=by rw[decide_eq_decide];omega
  simp only[sz,simprocAttr,h1,h3,h8,h11,g0,rv,z1,z2,ci,W,X,Y,Z,J,hd];exact⟨by simp[St,U3,sx,h1,h2,h3,h7,h8,Xp],f,r⟩
 ·rintro x t df g' hx ⟨rfl,⟨h1,h2,h3,h7,h8,Xp,-⟩,h11,f,r⟩;have A:=f.hL;have O:=A.1;have I:=(XI.1 hi).1;obtain⟨rowsL,K,q2⟩:=A.rows;have K:ak g'.h 1 out=some rowsL:=K;obtain⟨row,q3,V⟩:=q2.get hi;obtain⟨z,rfl,hz⟩:=bo.1 V;have D:i<rowsL.length:=by rw[<-q2.len];exact I
  have N:=f.hB;obtain⟨next,o⟩:∃next,next=Xs t 9:=⟨_,rfl⟩
  rw[<-o]at f;have h9:Xs t 9=next:=o.symm
  simp only[sz,simprocAttr,h9,h7,Xp,K,D,q3];refine aM (b:=g'.nx) (v:=.XC) (rows:=[]) (new:=bl.map ci) (.inl ⟨rfl,rfl⟩) hz.ints (XH _) (by simp[aH];omega) λv1 g1 hv1 n1 f1 vid1 _=>?_;rw[X3]at hv1;simp only[sz,simprocAttr,h11];have F:Own (g1.new (Xy 1 [[XE (x:Int)]])) g'.nx v1 1 (bl.map ci):=hv1.step (Fr.new _ _);refine aM (b:=g'.nx) (v:=v1) (rows:=bl.map ci) (new:=[[XE (x:Int)]]) F (by rw[bi];simp[VO];rfl) (by simp;omega) (by simp[aH];omega) λv2 g2 hv2 n2 f2 vid2 _=>?_;have q:=hv2.cell;simp only[sz,simprocAttr];rw[nB 1 [.XC] v2 g2 (by rw[q.1];rfl) q.2,q.1];simp only[sz,simprocAttr];have R:g1.nx+1<=g2.nx:=n2;have C:Fr g' (g2.new (Xy 1 [[v2]])):=by
   refine⟨by simp;omega,λi hi=>?_⟩;have e1:(g2.new (Xy 1 [[v2]])).h.get i=g2.h.get i:=by simp[VO,show ¬i=g2.nx by omega]
   rw[e1,f2 i (by simp;omega) (λe=>by have:=(hv1.lt e).1;omega)];have e2:(g1.new (Xy 1 [[XE (x:Int)]])).h.get i=g1.h.get i:=by simp[VO,show ¬i=g1.nx by omega]
   rw[e2,f1 i hi (by simp[W5])]
  have w:bl.map ci++[[XE (x:Int)]]=(bl++[(x:Int)]).map ci:=by simp[ci]
  rw[w]at hv2;have s:Own (g2.new (Xy 1 [[v2]])) g'.nx v2 1 ((bl++[(x:Int)]).map ci):=hv2.step (Fr.new _ _);refine vC (α:=List Int) (b:=0) (k:=0) (l:=N0++(List.range x).map λx:Nat=>bl++[((x:Nat):Int)]) (y:=bl++[(x:Int)]) (cs:=[v2]) (f.hN.step C) (by rw[show Rp.sz (List Int)=1 from rfl,bi];simp[VO];rfl) (bo.2 ⟨v2,rfl,s.sl (α:=Int) (by simp;omega) (VJ (λa=>aK.2 rfl) _) λi hi=>?_⟩) (Yi _) (by simp[aH];omega) λv3 g3 hv3 n3 f3 vid3 _=>?_
  ·have:=s.lt hi;exact⟨Yi _,this.2,λe=>by have:=(f.hN.lt e).2;omega⟩
  have U:g2.nx+1<=g3.nx:=n3;have H:Sz g3 n.Xz b B out v3 L (N0++(List.range (x+1)).map λx:Nat=>bl++[((x:Nat):Int)]):=by
   refine f.step (by omega) (λi hi hv=>?_) ?_ ?_
   ·rw[f3 i (by simp;omega) hv,C.2 i hi]
   ·rw[YF,YV,<-YA];exact hv3
   ·rcases vid3 with e|⟨j,e,M⟩
    ·exact .inl e
    ·exact .inr ⟨j,e,by have M:g2.nx+1<=j:=M;omega⟩
  have w1:IntKind.wrap .i64 ((x:Int)+1)=((x+1:Nat):Int):=by rw[an];rfl
  simp only[sz,simprocAttr,h11,w1];exact⟨by simp[St,U3,sx,h1,h2,h3,h7,h8,Xp],H,by omega⟩
 ·rintro t df g' ⟨rfl,ht,-,f,r⟩;exact fin t g' ht f r
theorem be7[Xr]{kk:Nat}{us:List UInt8}{p:Nat}{c:Nat}(hN:Xu Xt 0 .nil n.XD b)(hu:Xu Xt kk .nil XF u)(hus:Xu Xt kk .nil us lw)(hk:XF[k]?=some (p:Int))(hk8:k<8)(hp:p<n.XD.length)(hc:(IO n)[p]?=some (c:Int))(hc4:c<=4)(hL:∀bl∈L,bl.length<=k)(hL0:us=[]->∀bl∈L,bl.length=k)(hL4:L.length<=4 ^ k)
  (hH:Sz g n.Xz b B out (Xs t 9) L []) (ht:St t [(1,u),(2,lw),(3,Xq 0),(7,out),(8,XE (k:Int))]) (Xp:Xs t 10=XE 0)
  (fin:∀t g' N,St t [(1,u),(2,lw),(3,Xq 0),(8,XE (k:Int))]->Sz g' n.Xz b B out (Xs t 9) L N->N.length<=4*L.length->(∀bl∈N,bl.length<=k+1)->(us=[]->N=L.flatMap λbl=>(List.range c).map λx:Nat=>bl++[((x:Nat):Int)])->g.nx<=g'.nx->Q (.exit 2) t [] g') :
  VY (wp C0 d none oR) Q t [] g:=by
 have h4:4 ^ k<=4 ^ 7:=Yr (by decide) (by omega);obtain⟨ur,ur1,ur2,ur3,ur4⟩:=hus.all;have ur1:∀h',ak h' 1 lw=some ur:=ur1;have lU:=(hus.tree (h':=.nil) (XH _)).len;have hd:=hus.1;simp only[oR,wz];refine aU L.length (by omega) (λi t df g'=>df=[]/\St t [(1,u),(2,lw),(3,Xq 0),(7,out),(8,XE (k:Int))]/\(∃N,Sz g' n.Xz b B out (Xs t 9) L N/\N.length<=4*i/\(∀bl∈N,bl.length<=k+1)/\(us=[]->N=(L.take i).flatMap λbl=>(List.range c).map λx:Nat=>bl++[((x:Nat):Int)]))/\g.nx<=g'.nx)
  ⟨rfl,ht,⟨[],hH,by simp,by simp,by simp⟩,XH _⟩ Xp (by decide)
  (by rintro j t df g v s (rfl|rfl|rfl) ⟨a1,⟨b1,b2,b3,b4,b5,-⟩,c1,J⟩<;>exact⟨a1,by simp[St,sx,b1,b2,b3,b4,b5],by simpa [sx] using c1,J⟩) ?_ ?_ ?_
 ·rintro i t df g' X ⟨rfl,⟨h1,h2,h3,h7,h8,-⟩,⟨N,a,C,o,m⟩,E⟩ Xp;have Y:∀g:G,bC .slice out g=.val (XE (L.length:Int)):=λg=>a.hL.len g;simp only[sz,simprocAttr,h7,Xp,Y];exact⟨by simp[St,sx,h1,h2,h3,h7,h8],⟨N,a,C,o,m⟩,E⟩
 ·rintro i t df g' hi ⟨rfl,⟨h1,h2,h3,h7,h8,-⟩,⟨N,a,C,o,m⟩,E⟩ Xp;obtain⟨bl,M,O,F⟩:=af hi;have h6:=hL bl F;have W:=a.hL;obtain⟨rowsL,I,q2⟩:=W.rows;have I:ak g'.h 1 out=some rowsL:=I;obtain⟨row,q3,q4⟩:=q2.get M;obtain⟨z,rfl,hz⟩:=bo.1 q4;have f:i<rowsL.length:=by rw[<-q2.len];exact hi
  have lz:∀g:G,bC .slice z g=.val (XE (bl.length:Int)):=λg=>hz.len g;obtain⟨next,r⟩:∃next,next=Xs t 9:=⟨_,rfl⟩
  rw[<-r]at a;have h9:Xs t 9=next:=r.symm
  have hb:ak g'.h 1 out=some rowsL:=I;rw[cX];refine bP (P:=λt' df g2=>df=[]/\g2=g'/\∃D:Bool,(us=[]->D=false)/\St t' ((51,.bool D)::(9,next)::U3 u lw out k i)) ?_ ?_
  ·by_cases c1:bl.length<k
   ·have w:(bl.length:Int)<(k:Int):=by omega
    simp only[sz,simprocAttr,h7,h8,Xp,I,f,q3,lz,w];exact⟨true,λh=>by have:=hL0 h bl F;omega,by simp[St,U3,sx,h1,h2,h3,h7,h8,h9,Xp]⟩
   ·have w:¬(bl.length:Int)<(k:Int):=by omega
    by_cases J:us=[]
    ·have A:¬(0:Int)<(us.length:Int):=by rw[J];simp
     simp only[sz,simprocAttr,h7,h8,Xp,I,f,q3,lz,w,h2,lU,A];exact⟨false,λ_=>rfl,by simp[St,U3,sx,h1,h2,h3,h7,h8,h9,Xp]⟩
    ·have U:0<us.length:=aa_.2 J;have A:(0:Int)<(us.length:Int):=by omega
     have w1:IntKind.wrap .i64 (3*(k:Int))=((3*k:Nat):Int):=by rw[an];omega
     have w2:IntKind.wrap .i64 ((i:Int)+((3*k:Nat):Int))=((i+3*k:Nat):Int):=by rw[an];omega
     have rm:cL .rem (XE ((i+3*k:Nat):Int)) (XE (us.length:Int))=.val (XE (((i+3*k) % us.length:Nat):Int)):=by rw[ef .i64 (by omega) A,<-aax]
     have R:=YX (i+3*k) U;obtain⟨y,hy,-,-⟩:=af R;obtain⟨row,ur5,ur6⟩:=ur3 _ y hy;have ur6:=ea.1 ur6;subst ur6;have hlt:(i+3*k) % us.length<ur.length:=by rw[ur2];exact R
     have rm2:cL .rem (.int .u8 (y.toNat:Int)) (.int .u8 4)=.val (.int .u8 ((y.toNat:Int) % 4)):=ef .u8 (by omega) (by decide);simp only[sz,simprocAttr,h7,h8,Xp,I,f,q3,lz,w,h2,lU,A,w1,w2,rm,ur1,hlt,ur5,rm2];exact⟨decide ((y.toNat:Int) % 4=0),λh=>absurd h J,by simp[St,U3,sx,h1,h2,h3,h7,h8,h9,Xp]⟩
  rintro t df g2 ⟨rfl,rfl,D,hD,K,h9,h1,h2,h3,h7,h8,Xp,-⟩;cases D with
  | true =>
   have H:=hz.cell;simp only[sz,simprocAttr,K,h9,h7,Xp,I,f,q3];rw[nB 1 [.XC] z g2 (by rw[H.1];rfl) H.2,H.1];simp only[sz,simprocAttr];refine vC (α:=List Int) (b:=0) (k:=0) (l:=N) (y:=bl) (cs:=[z]) (a.hN.step (Fr.new _ _)) (by rw[show Rp.sz (List Int)=1 from rfl,bi];simp[VO];rfl) (bo.2 ⟨z,rfl,?_⟩) (Yi _) (by simp[aH];omega) λv3 g3 hv3 n3 f3 vid3 _=>?_
   ·have h5:=a.hB;obtain⟨z',e,q⟩:=Rp.mono (P':=Tb (g2.new (Xy 1 [[z]])) 0 next) (k':=0) (h':=(g2.new (Xy 1 [[z]])).h) (show Rp.rp (λi=>i<B) 0 g2.h bl [z] from ⟨z,rfl,hz⟩) (λi hi=>⟨⟨Yi _,by have hi:i<B:=hi;simp;omega,λe=>by have:=a.hv i e;have hi:i<B:=hi;omega⟩,by have hi:i<B:=hi;simp[VO,show ¬i=g2.nx by omega]⟩) (XH _);injection e with e;subst e;exact q
   simp only[sz,simprocAttr];have he:g2.nx+1<=g3.nx:=n3;have Z:¬us=[]:=λh=>by have:=hD h;cases this
   refine⟨⟨by simp[St,sx,h1,h2,h3,h7,h8],⟨N++[bl],a.step (by omega) (λi hi hv=>?_) hv3 ?_,by simp;omega,λx hx=>?_,λh=>absurd h Z⟩,by omega⟩,Xp⟩
   ·rw[f3 i (by simp;omega) hv];simp[VO,show ¬i=g2.nx by omega]
   ·rcases vid3 with e|⟨j,e,X⟩
    ·exact .inl e
    ·exact .inr ⟨j,e,by have X:g2.nx+1<=j:=X;omega⟩
   ·rcases Yf.1 hx with h|h
    ·exact o x h
    ·have:x=bl:=by simpa using h
     rw[this];omega
  | false =>
   simp only[sz,simprocAttr,K];refine be8 (p:=p) (c:=c) (L:=L) (N0:=N) (bl:=bl) (n:=n) (b:=b) (B:=B) (out:=out) (i:=i) (k:=k) (u:=u) (lw:=lw) hN hu hk hp hc hc4 M (by omega) (by omega) (by simpa [sx,h9] using a) (by simp[St,U3,sx,h1,h2,h3,h7,h8,Xp]) (by simp[sx]) ?_;rintro t g3 ⟨h1,h2,h3,h7,h8,Xp,-⟩ V ha;simp only[sz,simprocAttr];refine⟨⟨by simp[St,h1,h2,h3,h7,h8],⟨_,V,by simp;omega,λx hx=>?_,λh=>?_⟩,by omega⟩,Xp⟩
   ·rcases Yf.1 hx with h|h
    ·exact o x h
    ·obtain⟨y,-,rfl⟩:=Ys.1 h;simp;omega
   ·rw[O,Z3,m h];simp
 ·rintro t df g' ⟨rfl,⟨h1,h2,h3,h7,h8,-⟩,⟨N,a,C,o,m⟩,E⟩;rw[XV]at m;exact fin t g' N (by simp[St,h1,h2,h3,h8]) a C o m E
def LsV(p:List (List Int)->Prop):VS:=λP k h v=>∃L,p L/\Xu P k h L v
def Q_(p:List (List Int)->Prop):Q6 (LsV p) 0:=by
 refine⟨λ{P k h v n} d r hn=>?_,λ{k h v n} r hn=>?_⟩
 ·let⟨L,hp,r⟩:=r;let⟨v',e,w,hw,q⟩:=(aI L).Xm d (show One L P k h v from ⟨v,rfl,r⟩) hn;cases hw;exact⟨v',e,L,hp,q⟩
 ·let⟨L,hp,r⟩:=r;exact (aI L).tag (show One L Xt k h v from ⟨v,rfl,r⟩) hn
def be6[Xr]{us:List UInt8}(hd:0<d)(hm:WG n Xt 0 g.h v)(hv:Xu P1 k1 g.h XF u)(hus:Xu P2 k2 g.h us lw)(hr:NR n)(hp:CY XF (n.XD.length:Int)=true) :
  ∃r,ah C0 d 25 [v,u,lw] g=.val r/\LsV (λL=>(us=[]->L=c8 (BM n XF) XF.length)/\L.length<=65536/\∀bl∈L,bl.length<=8) Xt 0 .nil r:=by
 obtain⟨b,rows,rfl,e1,R,hN,-⟩:=cg d hm;let⟨u',e2,y⟩:=aB hv d;let⟨lw',e3,w⟩:=aB hus d;let⟨D,Q⟩:=rN hr hp;have P:=hr.l2;have U:=bc hp (by omega);have lu:∀g:G,bC .slice u' g=.val (XE (XF.length:Int)):=λg=>(y .nil).len g;obtain⟨K,hK⟩:∃K,K=max (max k1 d) (max k2 d):=⟨_,rfl⟩;have F:Xu Xt K .nil XF u':=(y .nil).tree (by omega);have hl2:Xu Xt K .nil us lw':=(w .nil).tree (by omega);rw[WL];refine aP GL (xs:=[.agg [XE n.Xz,b],u',lw']) (by simp only[aD,e1,e2,e3]) (by simp[wx]) (Q_ _) (by decide) hd ?_;simp only[sz,simprocAttr,wx,xY];unfold wy wB;refine aU XF.length (by omega) (λk t df g=>df=[]/\St t [(1,u'),(2,lw'),(3,Xq 0)]/\g.h.get 0=Xy 2 [[XE n.Xz,b]]/\1<=g.nx/\∃L,rq g 0 0 (Xs t 7) L/\L.length<=4 ^ k/\(∀bl∈L,bl.length<=k)/\(us=[]->L=c8 (BM n XF) k))
  ⟨rfl,by simp[St,sx],by simp[VO,show G.empty.nx=0 from rfl],by simp,[[]],?_,by simp,by simp,λ_=>rfl⟩ (by simp[sx]) (by decide)
  (by rintro j t df g v s (rfl|rfl|rfl) ⟨a1,⟨b1,b2,H,-⟩,c1,I,J⟩<;>exact⟨a1,by simp[St,sx,b1,b2,H],c1,I,by simpa [sx] using J⟩) ?_ ?_ ?_
 ·refine⟨[[.XC]],.inr ⟨1,0,false,Yi _,by simp,by simp[sx],by simp[VO,show G.empty.nx=0 from rfl];rfl⟩,⟨bo.2 ⟨.XC,rfl,by simp,rfl⟩,trivial⟩⟩
 ·rintro k t df g W ⟨rfl,⟨h1,h2,h3,-⟩,g0,gn,L,o,l,f,a⟩ h8;simp only[sz,simprocAttr,h1,h8,lu];exact⟨by simp[St,sx,h1,h2,h3],g0,gn,L,o,l,f,a⟩
 ·rintro k t df g hk ⟨rfl,⟨h1,h2,h3,-⟩,g0,gn,L,o,l,f,a⟩ h8;obtain⟨p,x,-,E⟩:=af hk;let⟨V,X⟩:=aO hp p E;obtain⟨pn,rfl⟩:=XU V;obtain⟨c,hc⟩:∃c,(IO n)[pn]?=some c:=⟨_,XJ (by rw[ap];omega)⟩;have q:(BM n XF)[k]?=some c:=by simp[BM,EP,x,hc]
  have O:=D.b c (XL q);obtain⟨cn,rfl⟩:=XU (show 0<=c by omega);have z:4 ^ k<=4 ^ 7:=Yr (by decide) (by omega);simp only[sz,simprocAttr];refine be7 (out:=Xs t 7) hN F hl2 x (by omega) (by omega) hc (by omega) f (λh bl hb=>?_) l ⟨g0,?_,by simpa [sx] using rq.XC,by simp[sx,W5],gn,XH _⟩ (by simp[St,sx,h1,h2,h3,h8]) (by simp[sx]) ?_
  ·rw[a h]at hb;exact (H7 k (by omega) bl hb).1
  ·have:=o.sl (by omega);have e:(λi=>0<=i/\i<g.nx)=λi=>i<g.nx:=by funext i;simp
   rwa [e]at this
  ·rintro t g3 N ⟨h1,h2,h3,h8,-⟩ m M C A T;simp only[sz,simprocAttr,wA];refine⟨⟨by simp[St,sx,h1,h2,h3],m.g0,by omega,N,m.hN,?_,C,λh=>?_⟩,h8⟩
   ·rw[Zn];omega
   ·rw[A h,a h,c8,q];simp
 ·rintro t df g ⟨rfl,⟨h1,h2,h3,-⟩,g0,gn,L,o,l,f,a⟩;have z:4 ^ XF.length<=4 ^ 8:=Yr (by decide) (by omega);simp only[sz,simprocAttr,wC];exact⟨_,L,⟨a,by omega,λbl hb=>by have:=f bl hb;omega⟩,o.sl (by omega)⟩
end
def be5{b b':Nat}{sz:Nat}(h:Own g b v sz rows)(hb:b'<=b):Own g b' v sz rows:=by
 rcases h with h|⟨id,ep,lo,c,k,a,p4⟩
 ·exact .inl h
 ·exact .inr ⟨id,ep,lo,by omega,k,a,p4⟩
structure NS (g:G) (out:AV) (L:List (List Int)) (zs:List AV):Prop where
 ho:Own g 1 out 1 (zs.map λz=>[z])
 hz:Xl (λl z=>Own g 1 z 1 (l.map ci)) L zs
 ne:∀z∈zs,∀i,W5 z=some i->W5 out≠some i
 nd:∀(i j:Nat) (x y:AV) (k:Nat),zs[i]?=some x->zs[j]?=some y->W5 x=some k->W5 y=some k->i=j
def yS(h:NS g out L zs)(hz:z∈zs):∃l∈L,Own g 1 z 1 (l.map ci):=by let⟨i,hi⟩:=Yd hz;let⟨l,hl,h⟩:=h.hz.get' hi;exact⟨l,XL hl,h⟩
def be4[Xr]{cs:List AV}(hL:Xu Xt k .nil L w')(hL1:L.length<=65536)(hL8:∀l∈L,l.length<=8)(g0:g.h.get 0=Xy 4 [cs])(gn:1<=g.nx)
  (ht:St t [(1,w'),(2,Xq 0)]) (h5:Xs t 5=.XC) (h6:Xs t 6=XE 0)
  (fin:∀t g' zs,St t [(1,w'),(2,Xq 0)]->g'.h.get 0=Xy 4 [cs]->1<=g'.nx->NS g' (Xs t 5) L zs->Q (.exit 0) t [] g'):VY (wp C0 d none jm) Q t [] g:=by
 let⟨rows,N,V,O,W⟩:=gC hL;have lw:∀g:G,bC .slice w' g=.val (XE (L.length:Int)):=λg=>hL.len g;unfold jm;refine aU L.length hL.1 (λj t df g=>df=[]/\St t [(1,w'),(2,Xq 0)]/\g.h.get 0=Xy 4 [cs]/\1<=g.nx/\∃zs,NS g (Xs t 5) (L.take j) zs) ⟨rfl,ht,g0,gn,[],.inl ⟨h5,rfl⟩,trivial,by simp,by simp⟩ h6 (by decide)
  (by rintro j t df g v s (rfl|rfl|rfl) h<;>simpa[St,sx]using h) ?_ ?_ ?_
 ·rintro j t df g D ⟨rfl,⟨h1,h2,-⟩,g0,gn,zs,hB⟩ h6;simp only[sz,simprocAttr,h1,h6,lw];exact⟨by simp[St,sx,h1,h2],g0,gn,zs,hB⟩
 ·rintro j t df g D ⟨rfl,⟨h1,h2,-⟩,g0,gn,zs,hB⟩ h6;let⟨l,hl,hlt,A⟩:=af D;have I:=hL8 l A;obtain⟨z,P,R,hz⟩:=O j l hl;obtain⟨out,m⟩:∃out,out=Xs t 5:=⟨_,rfl⟩;rw[<-m]at hB;have h5:=m.symm;have C:=hB.hz.len;rw[X5,YG (by omega)]at C;simp only[sz,simprocAttr,h1,h5,h6,N,P,R];refine aM (b:=g.nx) (v:=.XC) (rows:=[]) (new:=l.map ci) (.inl ⟨rfl,rfl⟩) (hz.tree (h':=g.h) (XH _)).ints (XH _) (by simp[aH];omega) λv1 g1 hv1 n1 f1 vid1 _=>?_;rw[X3]at hv1;have p:=hv1.cell;simp only[sz,simprocAttr];rw[nB 1 [.XC] v1 g1 (by rw[p.1];rfl) p.2,p.1];simp only[sz,simprocAttr];have n:Fr g (g1.new (Xy 1 [[v1]])):=⟨by simp;omega,λi hi=>by
   have:(g1.new (Xy 1 [[v1]])).h.get i=g1.h.get i:=by simp[VO,show ¬i=g1.nx by omega]
   rw[this,f1 i hi (by simp[W5])]⟩
  refine aM (b:=1) (v:=out) (rows:=zs.map λz=>[z]) (new:=[[v1]]) (hB.ho.step n) (by rw[bi];simp[VO];rfl) (by simp) (by simp[aH];omega) λv2 g2 hv2 n2 f2 vid2 _=>?_;have M:g1.nx+1<=g2.nx:=n2;simp only[sz,simprocAttr];have o:W5 out≠some 0:=λe=>by have:=(hB.ho.lt e).1;omega
  have w1:IntKind.wrap .i64 ((j:Int)+1)=((j+1:Nat):Int):=by rw[an];rfl
  refine⟨⟨by simp[St,sx,h1,h2],?_,by omega,zs++[v1],?_,?_,?_,?_⟩,h6⟩
  ·rw[f2 0 (by simp) o,n.2 0 (by omega),g0]
  ·rw[YV];exact hv2
  ·rw[hlt];have B:g.nx<=g2.nx:=by omega
   refine Xl.append (rE (by rw[X5];omega) λi a b ha hb=>?_) ⟨?_,trivial⟩
   ·obtain⟨a',f,h⟩:=hB.hz.get' hb;rw[ha]at f;injection f with f;subst f;refine h.fr B λi hi=>?_;have q:=h.lt hi;rw[f2 i (by simp;omega) (hB.ne b (XL hb) i hi),n.2 i q.2]
   ·refine (be5 hv1 (show 1<=g.nx by omega)).fr (by omega) λi hi=>?_;have q:=hv1.lt hi;rw[f2 i (by simp;omega) (λe=>by have:=(hB.ho.lt e).2;omega)];simp[VO,show ¬i=g1.nx by omega]
  ·intro z hz i hi e;have hv:∀x,W5 v2=some x->W5 out=some x\/g1.nx+1<=x:=λx hx=>by
    rcases vid2 with e2|⟨K,e2,r⟩
    ·exact .inl (by rw[<-e2];exact hx)
    ·rw[e2]at hx;injection hx with hx;have r:g1.nx+1<=K:=r;exact .inr (by omega)
   rcases Yf.1 hz with h|h
   ·obtain⟨l',-,h'⟩:=yS hB h;have:=(h'.lt hi).2;rcases hv i e with e3|e3
    ·exact hB.ne z h i hi e3
    ·omega
   ·have:z=v1:=by simpa using h
    subst this;have h3:=hv1.lt hi;rcases hv i e with e3|e3
    ·have:=(hB.ho.lt e3).2;omega
    ·omega
  ·intro i1 E x y k hx J u w;have lt1:∀(i:Nat) (x:AV),(zs++[v1])[i]?=some x->W5 x=some k->(i<zs.length/\zs[i]?=some x/\k<g.nx)\/(i=zs.length/\g.nx<=k):=by
    intro i x hx hk
    by_cases c:i<zs.length
    ·rw[XW c]at hx;obtain⟨l',-,h'⟩:=yS hB (XL hx);exact .inl ⟨c,hx,(h'.lt hk).2⟩
    ·have hi:=(XI.1 hx).1;rw[Yo,Zj]at hi;have:i=zs.length:=by omega
     subst this;rw[X_ (by omega)]at hx;have:x=v1:=by simpa using hx.symm
     subst this;exact .inr ⟨rfl,(hv1.lt hk).1⟩
   rcases lt1 i1 x hx u with⟨a1,a2,S⟩|⟨a1,a2⟩<;>rcases lt1 E y J w with⟨b1,b2,U⟩|⟨b1,b2⟩
   ·exact hB.nd i1 E x y k a2 b2 u w
   ·omega
   ·omega
   ·omega
 ·rintro t df g ⟨rfl,ht,g0,gn,zs,hB⟩;rw[XV]at hB;exact fin t g zs ht g0 gn hB
def VP(h:H)(v:AV):Prop:=∃M:List (List Int),Xu (λ_=>True) 0 h M v
def Gd(h:H)(z:AV):Prop:=∃l:List Int,Xu (λ_=>True) 0 h l z
def L6(hr:ak h 1 v=some rows)(hv:v=.XC\/∃id ep off len lim,v=.Xj id ep off len lim)(hl:rows.length<2^63)(hg:∀row∈rows,∃z,row=[z]/\Gd h z):VP h v:=by
 have key:∀rows:List (List AV),(∀row∈rows,∃z,row=[z]/\Gd h z)->∃M:List (List Int),Xl (Rp.rp (λ_=>True) 0 h) M rows:=by
  intro rows
  induction rows with
  |nil=>intro _;exact⟨[],trivial⟩
  | cons r rows ih =>intro hg;obtain⟨z,rfl,l,hl⟩:=hg r (by simp);obtain⟨M,k⟩:=ih λrow h=>hg row (Yw _ h);exact⟨l::M,bo.2 ⟨z,rfl,hl⟩,k⟩
 obtain⟨M,k⟩:=key rows hg;refine⟨M,by rw[k.len];exact hl,?_⟩;rcases hv with rfl|⟨id,ep,off,len,lim,rfl⟩
 ·have:rows=[]:=by injection hr with hr;exact hr.symm
  subst this
  match M,k with
  |[],_=>rfl
 ·exact⟨trivial,rows,hr,k⟩
def Kt{b:Nat}(h:Own g b z 1 (l.map ci))(hl:l.length<2^63):Gd g.h z :=⟨l,h.sl (α:=Int) hl (VJ (λa=>aK.2 rfl) _) λ_ _=>trivial⟩
def Ea{b sz:Nat}(h:Own g b v sz rows):v=.XC\/∃id ep off len lim,v=.Xj id ep off len lim:=by
 rcases h with⟨rfl,-⟩|⟨id,ep,lo,-,-,rfl,-⟩
 ·exact .inl rfl
 ·exact .inr ⟨_,_,_,_,_,rfl⟩
def Ls(hB:NS g out L zs)(hL8:∀l∈L,l.length<=8)(hn:g.nx<=g'.nx){x:Option Nat}(hf:∀i,i<g.nx->W5 out≠some i->x≠some i->g'.h.get i=g.h.get i)(hz:z∈zs)(hx:∀i,W5 z=some i->x≠some i):Gd g'.h z:=by let⟨l,hl,h⟩:=yS hB hz;have:=hL8 l hl;exact Kt (h.fr hn λi hi=>hf i (h.lt hi).2 (hB.ne z hz i hi) (hx i hi)) (by omega)
def MC{b sz:Nat}(hu:Own g b u sz rows)(hne:rows≠[]){n:Nat}(hn:n<=rows.length) :
  ∃id ep lo,u=.Xj id ep 0 rows.length none/\g.h.get id=.cells sz rows ep lo false/\fE sz u none (some (XE (n:Int))) g=.val (.Xj id ep 0 n none):=by
 rcases hu with⟨rfl,rfl⟩|⟨id,ep,lo,h1,h2,rfl,h3⟩
 ·exact absurd rfl hne
 ·refine⟨id,ep,lo,rfl,h3,?_⟩;simp only[fE,ip,h3,Yl,Yl,YO,ay,YT,aa,Yt,XH,if_true,aS,YU,Zo];simp only[cd];rw[show ax (n.ble rows.length) (some n) none=some n from by rw[aa,XO (by simpa using hn)]];dsimp only;have hb:rows.length.beq 0=false:=by cases rows with|nil=>exact absurd rfl hne|cons a l=>rfl
  rw[hb]
  rfl
def OD:SC:=.W6 [0,0,3,0,0,16,56,127,255] [oM 48 5,oM 49 8,o 50 (.OK 1 (.t 48) [] [.t 49]),oM 51 5,oM 52 8,oA 53 52,o 54 (.OK 1 (.t 51) [.t 53] []),acq 55 1 24 50 54,oM 5 55]
def be3[Xr](hB:NS g out L zs)(hL1:L.length<=65536)(hL8:∀l∈L,l.length<=8)(hi:i<zs.length)(h5:Xs t 5=out)(h8:Xs t 8=XE (i:Int))
  (fin:∀t g',VP g'.h (Xs t 5)->Q .norm t [] g'):wp C0 d none OD Q t [] g:=by
 have o:=hB.hz.len;obtain⟨id,ep,lo,e1,e2,e3⟩:=MC (n:=i) hB.ho (by intro h;rw[aal]at h;rw[h]at hi;cases hi) (by rw[XN];omega);obtain⟨y,r,s⟩:=Ey (n:=i+1) hB.ho (by rw[XN];omega);have w1:IntKind.wrap .i64 ((i:Int)+1)=((i+1:Nat):Int):=by rw[an];rfl
 unfold OD;have m:∀g':G,g'.h=g.h->fE 1 out (some (XE ((i+1:Nat):Int))) none g'=.val y:=λg' h=>by rw[<-r];unfold fE;rw[h]
 have k:∀g':G,g'.h=g.h->fE 1 out none (some (XE (i:Int))) g'=.val (.Xj id ep 0 i none):=λg' h=>by rw[<-e3];unfold fE;rw[h]
 simp only[sz,simprocAttr,sf,h5,h8,YD,Yz];rw[k _ (by simp[sy])];simp only[sz,simprocAttr,sf,h5,h8,YD,Yz,w1];rw[m _ (by simp[sy])];simp only[sz,simprocAttr,sf];refine Ow (rows:=zs.map λz=>[z]) (new:=(zs.map λz=>[z]).drop (i+1)) (lo:=lo) (by simp[e2]) (by rw[<-s];congr 1) (by simp;omega) (by simp[aH];omega) λg2 n2 q2 f2=>?_;simp only[sz,simprocAttr,sf];refine⟨?_,fin _ _ ?_⟩
 ·simp only[X7,X8,X3,XY];exact aE (false::(OQ (KI (true::(false::[]))))) [] (by simp[Xl,am,aC]) (by decide) (λp hp=>by cases hp)
 ·simp only[cw,↓reduceIte];have c:W5 out=some id:=by rw[e1];rfl
  have q:g2.nx=g.nx+7:=by rw[n2];simp[sy]
  have a:∀j,j≠id->g2.h.get j=g.h.get j:=λj hj=>by rw[f2 j hj];simp[sy]
  have b:ak g2.h 1 (.Xj id ep 0 (i+((zs.map λz=>[z]).drop (i+1)).length) none)=some ((zs.take i++zs.drop (i+1)).map λz=>[z]):=by rw[bi,q2,ck,XO (by simp;omega),Zc];congr 1;rw[<-YA,aam (by simp;omega),XZ (by simp;omega),YV,aaC,List.map_drop]
  refine L6 (rows:=(zs.take i++zs.drop (i+1)).map λz=>[z]) (by simpa [sy] using b) (.inr ⟨_,_,_,_,_,rfl⟩) (by simp;omega) λrow hrow=>?_;obtain⟨z,hz,rfl⟩:=Ys.1 hrow;have f:z∈zs:=by
   rcases Yf.1 hz with h|h
   ·exact Ym h
   ·exact Y2 h
  refine⟨z,rfl,?_⟩;have:=Ls (g':=g2) (x:=none) hB hL8 (by omega) (λj hj hv _=>a j λe=>hv (by rw[c,e])) f (λ_ _ h=>by cases h);simpa [sy] using this
def OC:SC:=.ops [oM 39 5,oM 40 5,oM 41 8,oX 42 40 41,oL 43 42,PL 44 43,acq 45 1 24 39 44,oM 5 45]
def yf(h:zs[i]?=some z):(zs.map λz=>[z])[i]?=some [z]:=by rw[XK,h];rfl
def be2[Xr](hB:NS g out L zs)(hL1:L.length<=65536)(hL8:∀l∈L,l.length<=8)(gn:1<=g.nx)(hi:i<zs.length)(h5:Xs t 5=out)(h8:Xs t 8=XE (i:Int))
  (fin:∀t g',VP g'.h (Xs t 5)->Q .norm t [] g'):wp C0 d none OC Q t [] g:=by
 have f:=hB.hz.len;obtain⟨z,hz,-,k⟩:=af hi;obtain⟨l,hl,c⟩:=yS hB k;have zc:=c.cell;have n:i<(zs.map λz=>[z]).length:=by rw[XN];exact hi
 unfold OC;simp only[sz,simprocAttr,h5,h8,hB.ho.rows,n,yf hz];rw[nB 1 [.XC] z g (by rw[zc.1];rfl) zc.2,zc.1];simp only[sz,simprocAttr];refine aM (b:=1) (v:=out) (rows:=zs.map λz=>[z]) (new:=[[z]]) (hB.ho.step (Fr.new _ _)) (by rw[bi];simp[VO];rfl) (by simp) (by simp[aH];omega) λv2 g2 hv2 n2 f2 vid2 _=>?_;have m:g.nx+1<=g2.nx:=n2;simp only[sz,simprocAttr];refine fin _ _ ?_;simp only[cw,↓reduceIte];refine L6 hv2.rows (Ea hv2) (by simp;omega) λrow hrow=>?_;have e:∃y∈zs,row=[y]:=by
  rcases Yf.1 hrow with h|h
  ·obtain⟨y,a,rfl⟩:=Ys.1 h;exact⟨y,a,rfl⟩
  ·exact⟨z,k,by simpa using h⟩
 obtain⟨y,a,rfl⟩:=e;exact⟨y,rfl,Ls (x:=none) hB hL8 (by omega) (λj hj hv _=>by rw[f2 j (by simp;omega) hv];simp[VO,show ¬j=g.nx by omega]) a (λ_ _ h=>by cases h)⟩
def OE:SC:=sQ [oM 58 5,oM 59 8,oX 60 58 59,oL 61 60,oN 62 61,W0 63 .gtr 62 0] (Xf 63 (.W6 [0,0,0,0,12,28,0,0,192,448,960,1984,4092,8191,16383] [oM 64 5,oM 65 8,oM 66 5,oM 67 8,oX 68 66 67,oL 69 68,oM 70 5,oM 71 8,oX 72 70 71,oL 73 72,oN 74 73,W0 75 .sub 74 1,o 76 (.OK 1 (.t 69) [] [.t 75]),oX 77 64 65,W8 1 77 76]) (.skip))
theorem OP(hB:NS g out L zs)(hL1:L.length<=65536)(hL8:∀l∈L,l.length<=8):VP g.h out:=by have a:=hB.hz.len;refine L6 hB.ho.rows (Ea hB.ho) (by simp;omega) λrow hrow=>?_;obtain⟨y,k,rfl⟩:=Ys.1 hrow;exact⟨y,rfl,Ls (x:=none) hB hL8 (XH _) (λ_ _ _ _=>rfl) k (λ_ _ h=>by cases h)⟩
def JY{y:AV}(hB:NS g out L zs)(hL1:L.length<=65536)(hL8:∀l∈L,l.length<=8)(ho:Own g' 1 out 1 ((zs.map λz=>[z]).set i [y]))(hy:Gd g'.h y)(hn:g.nx<=g'.nx){x:Option Nat}(hf:∀i,i<g.nx->W5 out≠some i->x≠some i->g'.h.get i=g.h.get i)(hx:∀(j:Nat) (z:AV),j≠i->zs[j]?=some z->∀k,W5 z=some k->x≠some k):VP g'.h out:=by
 have b:=hB.hz.len;refine L6 ho.rows (Ea ho) (by simp;omega) λrow hrow=>?_;let⟨j,a⟩:=Yd hrow;rw[YB]at a
 by_cases c:i=j
 ·rw[XO c]at a
  split at a
  ·injection a with a;exact⟨y,a.symm,hy⟩
  ·cases a
 ·rw[XS c,XK]at a;cases hz:zs[j]? with
  |none=>rw[hz]at a;cases a
  | some z =>
   rw[hz]at a;have a:row=[z]:=by injection a with a;exact a.symm
   exact⟨z,a,Ls hB hL8 hn hf (XL hz) (hx j z (λe=>c e.symm) hz)⟩
def be1[Xr](hB:NS g out L zs)(hL1:L.length<=65536)(hL8:∀l∈L,l.length<=8)(gn:1<=g.nx)(hi:i<zs.length)(h5:Xs t 5=out)(h8:Xs t 8=XE (i:Int))
  (fin:∀t g',VP g'.h (Xs t 5)->Q .norm t [] g'):wp C0 d none OE Q t [] g:=by
 have w:=hB.hz.len;obtain⟨z,hz,-,e⟩:=af hi;obtain⟨l,hl,f⟩:=yS hB e;have u:=hL8 l hl;have s:i<(zs.map λz=>[z]).length:=by rw[XN];exact hi
 have lz:∀g':G,bC .slice z g'=.val (XE (l.length:Int)):=λg'=>by have:=bQ f.rows g';rwa [XN]at this
 unfold OE
 by_cases c:l=[]
 ·have c':¬(0:Int)<(l.length:Int):=by rw[c];simp
  simp only[sz,simprocAttr,h5,h8,hB.ho.rows,s,yf hz,lz,c'];exact fin _ _ (by simpa [sx,h5] using OP hB hL1 hL8)
 ·have hp:=aa_.2 c;have c':(0:Int)<(l.length:Int):=by omega
  have w1:IntKind.wrap .i64 ((l.length:Int) - 1)=((l.length - 1:Nat):Int):=by rw[an];omega
  obtain⟨id,ep,lo,e1,e2,e3⟩:=MC (n:=l.length - 1) f (by intro h;rw[aal]at h;exact c h) (by rw[XN];omega);have m:∀g':G,g'.h=g.h->fE 1 z none (some (XE ((l.length - 1:Nat):Int))) g'=.val (.Xj id ep 0 (l.length - 1) none):=λg' h=>by rw[<-e3];unfold fE;rw[h]
  simp only[sz,simprocAttr,sf,h5,h8,hB.ho.rows,s,yf hz,lz,c',w1,YD,Yz];rw[m _ (by simp[sy])];simp only[sz,simprocAttr,sf,hB.ho.rows,s];refine bF (b:=1) (v:=out) (sz:=1) (n:=1) (i:=i) (off:=0) (x:=.Xj id ep 0 (l.length - 1) none) (row:=[z]) (row':=[.Xj id ep 0 (l.length - 1) none]) (rows:=zs.map λz=>[z]) (hB.ho.fr (by simp[sy];omega) λj _=>by simp[sy]) (yf hz) rfl rfl rfl λg2 o2 n2 f2=>?_;simp only[sz];have r:g.nx<=g2.nx:=by rw[n2];simp[sy];omega
  have k:∀j,W5 out≠some j->g2.h.get j=g.h.get j:=λj hj=>by rw[f2 j hj];simp[sy]
  refine⟨?_,fin _ _ ?_⟩
  ·simp only[X7,X8,X3,XY];exact aE (OQ (KI (OO (true::[])))) [] (by simp[Xl,am,aC]) (by decide) (λp hp=>by cases hp)
  ·simp only[cw,h5];have q:W5 out≠some id:=hB.ne z e id (by rw[e1];rfl);have o:Gd g2.h (.Xj id ep 0 (l.length - 1) none):=by refine⟨l.take (l.length - 1),by rw[X5];omega,trivial,(l.take (l.length - 1)).map ci,?_,VJ (λa=>aK.2 rfl) _⟩;rw[show Rp.sz Int=1 from rfl,bi,k id q,e2,ck,XO (by simp),Zc,aaC]
   have:=JY (g':=g2) (x:=none) hB hL1 hL8 o2 o r (λj _ hv _=>k j hv) (λ_ _ _ _ _ _ h=>by cases h);simpa [sy] using this
def be0{b sz:Nat}(hu:Own g b u sz rows)(hne:rows≠[]):∃id,aw u=[id]/\W5 u=some id/\id<g.nx/\∀i off,aw (jK sz u i off)=[id]:=by
 rcases hu with⟨rfl,rfl⟩|⟨id,ep,lo,h1,h2,rfl,h3⟩
 ·exact absurd rfl hne
 ·exact⟨id,rfl,rfl,h2,λ_ _=>rfl⟩
def OF:SC:=.W6 [0,0,0,0,12,28,0,64,192,508,1023,2047] [oM 80 5,oM 81 8,oM 82 5,oM 83 8,oX 84 82 83,oL 85 84,oF 86 3 2,oL 87 86,KA 88 87,acq 89 1 8 85 88,oX 90 80 81,W8 1 90 89]
def bd_[Xr]{a c:AV}(hB:NS g out L zs)(hL1:L.length<=65536)(hL8:∀l∈L,l.length<=8)(gn:1<=g.nx)(g0:g.h.get 0=Xy 4 [[a,b,c,XE x]])(h2:Xs t 2=Xq 0)(hi:i<zs.length)(h5:Xs t 5=out)(h8:Xs t 8=XE (i:Int))
  (fin:∀t g',VP g'.h (Xs t 5)->Q .norm t [] g'):wp C0 d none OF Q t [] g:=by
 obtain⟨z,hz,-,m⟩:=af hi;let⟨l,hl,w⟩:=yS hB m;have F:=hL8 l hl;have E:i<(zs.map λz=>[z]).length:=by rw[XN];exact hi
 obtain⟨io,o1,o2,o3,J⟩:=be0 hB.ho (by intro h;rw[aal]at h;rw[h]at hi;cases hi);have ld:a_ (Xy 4 [[a,b,c,XE x]]) 0 0 false 1 3=.val (XE x):=rfl;unfold OF;simp only[sz,simprocAttr,sf,h2,h5,h8,hB.ho.rows,E,yf hz,g0,ld];refine aM (b:=1) (v:=z) (rows:=l.map ci) (new:=[[XE x]]) (w.fr (by simp[sy];omega) λj f=>?_) (by rw[bi];simp[sy]) (by simp[sy]) (by simp[aH];omega) λz2 g2 hv2 n2 f2 vid2 _=>?_
 ·have:=(w.lt f).2;simp[sy,show ¬j=g.nx+8 by omega]
 have I:g.nx+9<=g2.nx:=by simp[sy]at n2;omega
 have q:∀j,j<g.nx->W5 z≠some j->g2.h.get j=g.h.get j:=λj f hv=>by rw[f2 j (by simp[sy];omega) hv];simp[sy,show ¬j=g.nx+8 by omega]
 have o:=hv2.cell;have s:Own g2 1 out 1 (zs.map λz=>[z]):=hB.ho.fr (by omega) λj f=>q j (hB.ho.lt f).2 (λe=>hB.ne z m j e f);simp only[sz,simprocAttr,sf,s.rows,E];refine bF (b:=1) (v:=out) (sz:=1) (n:=1) (i:=i) (off:=0) (x:=z2) (row:=[z]) (row':=[z2]) (rows:=zs.map λz=>[z]) (s.fr (by simp[sy];omega) λj _=>by simp[sy]) (yf hz) (by rw[o.1];rfl) o.2 (by rw[o.1];rfl) λg3 o3' n3 f3=>?_;simp only[sz,simprocAttr];have D:g2.nx<=g3.nx:=by rw[n3];simp[sy];omega
 have r:∀j,W5 out≠some j->g3.h.get j=g2.h.get j:=λj f=>by rw[f3 j f];simp[sy]
 have u:∀j,W5 z2=some j->W5 out≠some j:=λj f e=>by
  rcases vid2 with e2|⟨k,e2,hk⟩
  ·exact hB.ne z m j (by rw[<-e2];exact f) e
  ·rw[e2]at f;injection f with f;have:=(hB.ho.lt e).2;simp[sy]at hk;omega
 refine⟨?_,fin _ _ ?_⟩
 ·simp only[X7,X8,X3,XY];refine aE (OO (true::(true::(false::(true::[]))))) [(0,8),(1,8),(2,8),(3,8),(4,8),(5,8),(0,9),(1,9)] (by simp[Xl,am,aC]) (by decide) ?_;rintro p hp x y hx A;simp only[Yh,Yc,ZQ]at hp;rcases hp with rfl|rfl|rfl|rfl|rfl|rfl|rfl|rfl<;>(simp[o1,J]at hx A;subst hx;subst A;refine cK rfl rfl rfl rfl ?_ ?_ ?_<;>simp[am,aC]<;>omega)
 ·simp only[cw,h5];have B:Gd g3.h z2:=by
   have e:l.map ci++[[XE x]]=(l++[x]).map ci:=by simp[ci]
   rw[e]at hv2;refine Kt (g:=g3) (b:=1) (l:=l++[x]) (hv2.fr D λj f=>r j (u j f)) (by simp;omega)
  have:=JY hB hL1 hL8 o3' B (by omega) (λj f hv hv2=>by rw[r j hv,q j f hv2]) (λj y hji A k hk e=>hji (hB.nd j i y z k A hz hk e));simpa [sy] using this
def OG:SC:=sQ [oM 93 5,oM 94 8,oX 95 93 94,oL 96 95,oN 97 96,W0 98 .gtr 97 0] (Xf 98 (.W6 [0,0,3,7,0,16,48,0,0,384,896,1920,4080,0,8192,32767,65535] [oM 99 5,oM 100 8,oX 101 99 100,oL 102 101,oF 103 2 2,oL 104 103,M_ 105 .i64 104,oM 106 5,oM 107 8,oX 108 106 107,oL 109 108,oN 110 109,Xk 111 .rem 105 110,oF 112 3 2,oL 113 112,oX 114 102 111,W8 1 114 113]) (.skip))
def bd9[Xr]{a:AV}{kv:UInt8}(hB:NS g out L zs)(hL1:L.length<=65536)(hL8:∀l∈L,l.length<=8)(gn:1<=g.nx)(g0:g.h.get 0=Xy 4 [[a,b,Xc kv,XE x]])(h2:Xs t 2=Xq 0)(hi:i<zs.length)(h5:Xs t 5=out)(h8:Xs t 8=XE (i:Int))
  (fin:∀t g',VP g'.h (Xs t 5)->Q .norm t [] g'):wp C0 d none OG Q t [] g:=by
 obtain⟨z,hz,-,q⟩:=af hi;let⟨l,hl,f⟩:=yS hB q;have D:=hL8 l hl;have B:i<(zs.map λz=>[z]).length:=by rw[XN];exact hi
 have lz:∀g':G,bC .slice z g'=.val (XE (l.length:Int)):=λg'=>by have:=bQ f.rows g';rwa [XN]at this
 have ld3:a_ (Xy 4 [[a,b,Xc kv,XE x]]) 0 0 false 1 3=.val (XE x):=rfl;have ld2:a_ (Xy 4 [[a,b,Xc kv,XE x]]) 0 0 false 1 2=.val (.int .u8 (kv.toNat:Int)):=rfl;unfold OG
 by_cases c:l=[]
 ·have c':¬(0:Int)<(l.length:Int):=by rw[c];simp
  simp only[sz,simprocAttr,h5,h8,hB.ho.rows,B,yf hz,lz,c'];exact fin _ _ (by simpa [sx,h5] using OP hB hL1 hL8)
 ·have hp:=aa_.2 c;have c':(0:Int)<(l.length:Int):=by omega
  have C:kv.toNat<256:=kv.toNat_lt;have w1:IntKind.wrap .i64 (kv.toNat:Int)=(kv.toNat:Int):=an;have rm:cL .rem (XE (kv.toNat:Int)) (XE (l.length:Int))=.val (XE ((kv.toNat % l.length:Nat):Int)):=by rw[ef .i64 (by omega) c',<-aax]
  have o:=YX kv.toNat hp;obtain⟨y,A,-,-⟩:=af o;have F:kv.toNat % l.length<(l.map ci).length:=by rw[XN];exact o
  have H:(l.map ci)[kv.toNat % l.length]?=some (ci y):=by rw[XK,A];rfl
  simp only[sz,simprocAttr,sf,h2,h5,h8,hB.ho.rows,B,yf hz,lz,c',g0,ld2,ld3,w1,rm,f.rows,F];refine bF (b:=1) (v:=z) (sz:=1) (n:=1) (i:=kv.toNat % l.length) (off:=0) (x:=XE x) (row:=ci y) (row':=ci x) (rows:=l.map ci) (f.fr (by simp[sy];omega) λj _=>by simp[sy]) H rfl rfl rfl λg2 o2 n2 f2=>?_;simp only[sz,simprocAttr];have r:g.nx<=g2.nx:=by rw[n2];simp[sy];omega
  have m:∀j,W5 z≠some j->g2.h.get j=g.h.get j:=λj hj=>by rw[f2 j hj];simp[sy]
  refine⟨?_,fin _ _ ?_⟩
  ·simp only[X7,X8,X3,XY];exact aE (OO (OO (true::[]))) [] (by simp[Xl,am,aC]) (by decide) (λp hp=>by cases hp)
  ·simp only[cw,h5];rw[<-YS]at o2;have u:Gd g2.h z:=Kt o2 (by simp;omega);have w:(zs.map λz=>[z]).set i [z]=zs.map λz=>[z]:=by
    refine Zd λj=>?_;rw[YB]
    by_cases e:i=j
    ·subst e;rw[XO rfl,XO B,yf hz]
    ·rw[XS e]
   have s:Own g2 1 out 1 ((zs.map λz=>[z]).set i [z]):=by rw[w];exact hB.ho.fr r λj hj=>m j (λe=>hB.ne z q j e hj)
   have:=JY hB hL1 hL8 s u r (λj _ _ hv=>m j hv) (λj y hji A k hk e=>hji (hB.nd j i y z k A hz hk e));simpa [sy] using this
def bd8:oP=Xw (sQ [oM 24 5,oN 25 24,W0 26 .eql 25 0] (Xf 26 (sQ [oM 27 5,oM 4 27] (.ret)) (.skip))) (sQ [oF 28 1 2,oL 29 28,M_ 30 .i64 29,oM 31 5,oN 32 31,Xk 33 .rem 30 32,oM 8 33] (Xw (sQ [oF 34 0 2,oL 35 34,KF 36 .rem 35 .u8 6] (.blk 2 (sQ [KF 38 .eql 36 .u8 0,oM 37 38] (Xf 37 OC (sQ [KF 47 .eql 36 .u8 1,oM 46 47] (Xf 46 OD (sQ [KF 57 .eql 36 .u8 2,oM 56 57] (Xf 56 OE (sQ [KF 79 .eql 36 .u8 3,oM 78 79] (Xf 78 OF (sQ [KF 92 .eql 36 .u8 4,oM 91 92] (Xf 91 OG (.ops [Wu 5]))))))))))))) bL)):=rfl
def Ej[Xr]{x:gF}(hd:0<d)(hx:WG x Xt 0 g.h v)(hw:Xu P1 k1 g.h L w)(hL1:L.length<=65536)(hL8:∀l∈L,l.length<=8) :
  ∃r,ah C0 d 26 [v,w] g=.val r/\LsV (λ_=>True) Xt 0 .nil r:=by
 have e1:=jM d hx;obtain⟨cs,rfl,hc⟩:=hx;have hc:=mG.1 hc;subst hc;obtain⟨w',e2,b⟩:=aB hw d;rw[WL];refine aP AZ (xs:=[.agg [Xc x.1,Xc x.2.1,Xc x.2.2.1,XE x.2.2.2],w']) (by simp only[aD,e1,e2]) (by simp[mX]) (Q_ _) (by decide) hd ?_;simp only[sz,simprocAttr,mX,pZ];refine be4 (cs:=[Xc x.1,Xc x.2.1,Xc x.2.2.1,XE x.2.2.2]) (b .nil) hL1 hL8 (by simp[VO,show G.empty.nx=0 from rfl,Xc]) (by simp) (by simp[St,sx]) (by simp[sx]) (by simp[sx]) ?_;rintro t g1 zs ⟨h1,h2,-⟩ g0 gn hB;obtain⟨out,a⟩:∃out,out=Xs t 5:=⟨_,rfl⟩;rw[<-a]at hB;have h5:=a.symm;have f:=hB.hz.len;have lo:∀g:G,bC .slice out g=.val (XE (zs.length:Int)):=λg=>by have:=bQ hB.ho.rows g;rwa [XN]at this
 simp only[sz,simprocAttr,bd8,h5,lo]
 by_cases c:zs.length=0
 ·have c':(zs.length:Int)=0:=by omega
  simp only[sz,simprocAttr,c',h5];obtain⟨M,k⟩:=OP hB hL1 hL8;exact⟨_,M,trivial,k⟩
 have c':¬(zs.length:Int)=0:=by omega
 have ld1:a_ (Xy 4 [[Xc x.1,Xc x.2.1,Xc x.2.2.1,XE x.2.2.2]]) 0 0 false 1 1=.val (.int .u8 (x.2.1.toNat:Int)):=rfl;have ld0:a_ (Xy 4 [[Xc x.1,Xc x.2.1,Xc x.2.2.1,XE x.2.2.2]]) 0 0 false 1 0=.val (.int .u8 (x.1.toNat:Int)):=rfl;have e:x.2.1.toNat<256:=x.2.1.toNat_lt;have w1:IntKind.wrap .i64 (x.2.1.toNat:Int)=(x.2.1.toNat:Int):=an;have rm:cL .rem (XE (x.2.1.toNat:Int)) (XE (zs.length:Int))=.val (XE ((x.2.1.toNat % zs.length:Nat):Int)):=by rw[ef .i64 (by omega) (by omega),<-aax]
 have rm6:cL .rem (.int .u8 (x.1.toNat:Int)) (.int .u8 6)=.val (.int .u8 ((x.1.toNat % 6:Nat):Int)):=by rw[ef .u8 (by omega) (by decide)];rfl
 have hi:=YX x.2.1.toNat (show 0<zs.length by omega);have h6:=YX x.1.toNat (show 0<6 by decide);have cases:x.1.toNat % 6=0\/x.1.toNat % 6=1\/x.1.toNat % 6=2\/x.1.toNat % 6=3\/x.1.toNat % 6=4\/x.1.toNat % 6=5:=by omega
 rcases cases with hm|hm|hm|hm|hm|hm<;>rw[hm]at rm6<;>simp only[sz,simprocAttr,c',h2,h5,g0,ld1,w1,lo,rm,ld0,rm6]
 ·refine be2 hB hL1 hL8 gn hi (by simp[sx,h5]) (by simp[sx]) λt g' hLs=>?_;obtain⟨M,k⟩:=hLs;simp only[sz,simprocAttr,bL];exact⟨_,M,trivial,k⟩
 ·refine be3 hB hL1 hL8 hi (by simp[sx,h5]) (by simp[sx]) λt g' hLs=>?_;obtain⟨M,k⟩:=hLs;simp only[sz,simprocAttr,bL];exact⟨_,M,trivial,k⟩
 ·refine be1 hB hL1 hL8 gn hi (by simp[sx,h5]) (by simp[sx]) λt g' hLs=>?_;obtain⟨M,k⟩:=hLs;simp only[sz,simprocAttr,bL];exact⟨_,M,trivial,k⟩
 ·refine bd_ hB hL1 hL8 gn g0 (by simp[sx,h2]) hi (by simp[sx,h5]) (by simp[sx]) λt g' hLs=>?_;obtain⟨M,k⟩:=hLs;simp only[sz,simprocAttr,bL];exact⟨_,M,trivial,k⟩
 ·refine bd9 hB hL1 hL8 gn g0 (by simp[sx,h2]) hi (by simp[sx,h5]) (by simp[sx]) λt g' hLs=>?_;obtain⟨M,k⟩:=hLs;simp only[sz,simprocAttr,bL];exact⟨_,M,trivial,k⟩
 ·simp only[sz,simprocAttr,bL];exact⟨λ_=>True,[],trivial,by simp,rfl⟩
def dX:SC:=sQ [W0 133 .lss 132 2] (Xw (WX 133 6) (Xw (.blk 7 (sQ [o 134 (.ix false 2 1 (.t 131) (.t 132)),oM 30 134] (Xw (.quiet [WR 135 2 16,o 136 (.Ka 2 1 (.t 18) (qI 0)),oL 137 136,o 138 (.Ka 2 1 (.t 18) (qI 1)),oL 139 138,oM 140 30,oM 141 28,o 142 (.call 27 [.t 135,.t 137,.t 139,.t 140,.t 141]),WR 143 2 16,o 144 (.Ka 2 1 (.t 18) (qI 0)),oL 145 144,o 146 (.Ka 2 1 (.t 18) (qI 1)),oL 147 146,oM 148 30,oM 149 28,o 150 (.call 24 [.t 143,.t 145,.t 147,.t 148,.t 149]),Xk 151 .neq 142 150]) (Xf 151 (sQ [WE 14 false] (.ret)) (.skip))))) (.ops [oA 152 132,oM 132 152])))
def iL:SC:=.ops [oA 153 121,oM 121 153]
def dY:SC:=sQ [Xk 122 .lss 121 120] (Xw (WX 122 4) (Xw (.blk 5 (sQ [oX 123 119 121,oL 124 123,oM 28 124] (sQ [oM 125 22,oM 126 5,oM 127 5,oN 128 127,o 129 (.mn (.t 128) (qI 10)),o 130 (.OK 1 (.t 126) [] [.t 129]),o 131 (.build [.XC,.XC] [(0,1),(1,1)] [.t 125,.t 130]),oK 132 0] (.blk 6 (.loop dX))))) iL))
def iM:SC:=sQ [oM 119 25,oN 120 119,oK 121 0] (.blk 4 (.loop dY))
def iO:SC:=.ops [oA 154 43,oM 43 154]
def dZ:SC:=sQ [W0 44 .lss 43 3] (Xw (WX 44 2) (Xw (.blk 3 (sQ [o 45 (.ix true 3 2 (.t 42) (.t 43)),o 18 (.alloc [.XC,.XC]),W8 2 18 45] (sQ [WR 47 2 16,o 48 (.Ka 2 1 (.t 18) (qI 0)),oL 49 48,o 50 (.Ka 2 1 (.t 18) (qI 1)),oL 51 50,RK 52 23 47 49 51,oM 46 52,OJ 53 46 0,OJ 54 46 1,OJ 55 46 2,oM 19 53,oM 20 54,oM 21 55] (sQ [WR 57 2 16,o 58 (.Ka 2 1 (.t 18) (qI 0)),oL 59 58,o 60 (.Ka 2 1 (.t 18) (qI 1)),oL 61 60,RK 62 17 57 59 61,oM 56 62,OJ 63 56 0,OJ 64 56 1,OJ 65 56 2,o 23 (.alloc [XE 0,XE 0]),oM 22 63,W8 2 23 64,oM 24 65] (Xw (sQ [oM 66 21,oM 67 24,Xk 68 .neq 66 67,oM 69 68,WW 70 69 false 19,WW 71 69 false 22,og 72 69 false (.call 18 [.t 70,.t 71]),og 73 69 false (.not (.t 72)),SD 74 69 73,oM 75 74,WW 76 75 false 21,Oo 77 75 false .neq 76 0,WW 78 75 false 77,WW 79 78 true 20,Tc 80 78 true 79,Oo 81 78 true .gtr 80 0,og 82 75 false (.pick (.t 78) (.t 81) (.k (.bool false))),SD 83 75 82] (Xf 83 (sQ [WE 14 false] (.ret)) (.skip))) (sQ [oM 84 6,oM 85 6,oN 86 85,o 87 (.mn (.t 86) (qI 8)),o 88 (.OK 1 (.t 84) [] [.t 87]),o 89 (.NF 1 2 [.XC] [0,1] [.k (.XC),.t 88]),oM 25 89] (Xw (sQ [oM 90 21,W0 91 .eql 90 0] (Xf 91 (Xw (sQ [WR 92 2 16,o 93 (.Ka 2 1 (.t 18) (qI 0)),oL 94 93,o 95 (.Ka 2 1 (.t 18) (qI 1)),oL 96 95,oM 97 19,oM 98 20,o 99 (.call 24 [.t 92,.t 94,.t 96,.t 97,.t 98]),W0 100 .neq 99 0] (Xf 100 (sQ [WE 14 false] (.ret)) (.skip))) (sQ [WR 101 2 16,o 102 (.Ka 2 1 (.t 18) (qI 1)),oL 103 102,oM 104 3,RK 105 25 101 103 104,oM 26 105] (.W6 [0,0,0,0,8,0,56,0,128,0,1016,2046,4095,8191] [oM 106 25,oM 107 20,oM 108 26,o 109 (.Ka 2 4 (.t 11) (qI 0)),WR 110 4 109,oM 111 26,WD 112 26 110 111,o 113 (.Ka 2 4 (.t 11) (qI 1)),WR 114 4 113,oM 115 20,WD 116 26 114 115,o 117 (.NF 1 4 [.XC] [0,1,2,3] [.t 107,.t 108,.t 112,.t 116]),acq 118 1 24 106 117,oM 25 118]))) (.skip))) iM))))))) iO))
def iP:SC:=.ops [oA 155 36,oM 36 155]
def iK:SC:=sQ [W0 37 .lss 36 2] (Xw (WX 37 0) (Xw (.blk 1 (sQ [o 38 (.ix true 2 2 (.t 35) (.t 36)),o 16 (.alloc [XE 0,.XC]),W8 2 16 38] (Xw (.quiet [WR 39 12 9,WR 40 3 7,Wf 41 15 40,WD 42 14 39 41,oK 43 0]) (.blk 2 (.loop dZ))))) iP))
def iQ:SC:=sQ [WE 14 true] (.ret)
def jy:SC:=Xw (sQ [o 31 (.call 12 []),RH 32 31] (Xf 32 (sQ [WE 14 false] (.ret)) (.skip))) (Xw (sQ [WR 33 3 7,WR 34 4 8,WD 35 13 33 34,oK 36 0] (.blk 0 (.loop iK))) iQ)
def fB:SF:=⟨156,[.tm 14],sQ [Wp 7 0,Wp 8 1,Wp 9 2,Wp 11 4,WE 14 false] jy⟩
def bd7[Xr]:WY C0 5=some fB:=by kernel_rfl
end
end Hx
