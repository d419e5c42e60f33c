/- A part of the proof. -/
import Derived.Test.YteaikmdilmfbeaaGreatHx8
set_option linter.all false
set_option maxRecDepth 20000
set_option maxHeartbeats 8000000
namespace Hx
open Go
noncomputable section
variable {g:G}{d k i K kk k2 tg:Nat}{gr m:Int}{Q:QT}{t:T}{P:Nat->Prop}{XF mw Xd l pl:List Int}{V:Ky->AV}{E:Ky->En}{L:List Node}{D:ND}{x:Node}{r0 pe:List AV}{r5 w W wv u vw ev:AV}{h:H}
def Ed(os:List UInt8):∀k,(AC os k).Perm ((List.range k).map λi:Nat=>(i:Int))
 |0=>.refl _
 | k+1=>by rw[YF,YV,AC];refine List.perm_middle.trans ?_;rw[YC];exact ((Ed os k).cons _).trans (List.perm_append_comm (l₁:=[(k:Int)]))
structure Sm (n:Nat) (pl:List Int) (num:Nat->Nat):Prop where
 len:pl.length=n
 at_:∀k,k<n->pl[k]?=some (num k:Int)
 lt:∀k,k<n->num k<n
 inj:∀i j,i<n->j<n->num i=num j->i=j
 sur:∀u,u<n->∃k,k<n/\num k=u
def Us(os:List UInt8)(n:Nat):∃num,Sm n (AC os n) num:=by
 have hp:=Ed os n;have hl:=tb os n;have f:∀x∈AC os n,∃i:Nat,i<n/\x=(i:Int):=λx hx=>by have:=hp.mem_iff.1 hx;obtain⟨i,hi,rfl⟩:=Ys.1 this;exact⟨i,X0.1 hi,rfl⟩
 have l:(AC os n).Nodup:=by rw[hp.nodup_iff];refine List.Pairwise.map _ ?_ (List.nodup_range (n:=n));intro a b h e;exact h (by omega)
 have c:∀k,k<n->(AC os n)[k]?=some (((AC os n)[k]?.getD 0).toNat:Int)/\((AC os n)[k]?.getD 0).toNat<n:=λk hk=>by
  have d:k<(AC os n).length:=by omega
  have e:=XJ d;obtain⟨i,hi,h⟩:=f _ (Zi d);rw[e,XP,h];simp[hi]
 refine⟨λk=>((AC os n)[k]?.getD 0).toNat,hl,λk hk=>(c k hk).1,λk hk=>(c k hk).2,λi j hi hj h=>?_,λu hu=>?_⟩
 ·have h1:=(c i hi).1;have h2:=(c j hj).1;refine (List.getElem?_inj (by omega) l).1 ?_;rw[h1,h2];exact congrArg (λx:Nat=>some (x:Int)) h
 ·have:(u:Int)∈AC os n:=hp.mem_iff.2 (Ys.2 ⟨u,X0.2 hu,rfl⟩);obtain⟨k,hk,he⟩:=Y7.1 this;refine⟨k,by omega,?_⟩;rw[XJ hk,he];rfl
def S9(m n:Nat):∃z:Int,cL .shl (XE (m:Int)) (R7 (n:Int))=.val (XE z):=⟨_,rfl⟩
def OS(X:Ky->Prop)(n:Nat)(D:ND):Ky->Prop:=λk=>LN n D k\/X k
def X1:Ky->Prop:=λk=>k=(0,1)
def X2:Ky->Prop:=λk=>k=(0,1)\/k=(0,2)
structure DN (X:Ky->Prop) (r0:List AV) (n q K:Nat) (gr:Int) (V:Ky->AV) (E:Ky->En) (D:ND) (g:G):Prop where
 hp:Hp g 2 (OS X n D) V E
 bn:BN K n V E D
 vb:V (0,1)=Xq q
 bx:E (0,1)=.bx [XE gr,V (0,0)]
 h0:g.h.get 0=Xy 3 [r0]
 h1:g.h.get 1=Xy 2 [[XE 0,.XC]]
def DN.q{X:Ky->Prop}{r0:List AV}{n q K:Nat}{gr:Int}{V:Ky->AV}{E:Ky->En}{D:ND}{g:G}(h:DN X r0 n q K gr V E D g)(hX:X (0,1)):g.h.get q=Xy 2 [[XE gr,V (0,0)]]/\2<=q/\q<g.nx:=by let⟨id,h1,h2,h3,h4⟩:=h.hp.box (k:=(0,1)) (.inr hX) h.bx;rw[h.vb]at h3;cases h3;exact⟨h4,h1,h2⟩
def DN.ns{X:Ky->Prop}{r0:List AV}{n q K:Nat}{gr:Int}{V:Ky->AV}{E:Ky->En}{D:ND}{g:G}(h:DN X r0 n q K gr V E D g):Own g 2 (V (0,0)) 3 ((List.range n).map (im D V)):=h.hp.own (.inl LN.z) h.bn.ns
def DN.same{X:Ky->Prop}{n q:Nat}{g':G}(h:DN X r0 n q K gr V E D g)(hf:Fr g g'):DN X r0 n q K gr V E D g':=by have:=h.hp.nx;exact⟨h.hp.step hf.1 λi _ hi=>hf.2 i hi,h.bn,h.vb,h.bx,by rw[hf.2 0 (by omega),h.h0],by rw[hf.2 1 (by omega),h.h1]⟩
def f_{b:Nat}{v:AV}{sz:Nat}{rows:List (List AV)}(h:Own g b v sz rows)(hr:0<rows.length):px v=true:=by
 rcases h with⟨rfl,rfl⟩|⟨id,ep,lo,-,-,rfl,-⟩
 ·simp at hr
 ·rfl
def DN.Xx{X:Ky->Prop}{n q:Nat}{c:Int}{KK:AV->G->Prop}{DD:Xo->Prop}(h:DN X r0 n q K gr V E D g)(hi:i<n)(hX:∀k,X k->k≠(0,0))
  (kk:∀g' E',DN X r0 n q K gr V E' { D with c:=ups D.c i c } g'->g'.nx=g.nx->KK .undef g'):(pA 1 (jK 3 (V (0,0)) i 0) (XE c) g).sat KK g DD:=by
 refine h.hp.put (k:=(0,0)) (row:=im D V i) (row':=[XE c,V (i+1,0),V (i+1,1)]) (.inl LN.z) h.bn.ns (iZ _ hi) rfl rfl rfl λg' hH hn hf1 hf2=>?_;refine kk g' _ ⟨hH.sub λk hk=>hk,⟨?_,λj hj=>?_,λj hj=>?_,λj r hj hr=>?_⟩,h.vb,?_,by rw[hf1 0 (by omega),h.h0],by rw[hf1 1 (by omega),h.h1]⟩ hn
 ·rw[au,q_ _ _ hi];congr 1;refine D6 (by simp[im,au]) λj hj hne=>by simp[im,ae hne]
 ·rw[ae];exact h.bn.ps j hj
 ·rw[ae];exact h.bn.rs j hj
 ·rw[ae];exact h.bn.rr j r hj hr
 ·rw[ae];exact h.bx
structure DAok (D:ND) (n i:Nat) (num:Nat->Nat):Prop where
 e:∀v,v<n->D.P v=[]/\D.m v=0
 c:∀k,k<i->D.c (num k)=2\/D.c (num k)=3
 o:∀u,D.o u=0
def Tf(n q:Nat)(r5:AV):List (Nat×AV):=[(1,Xq 0),(2,Xq 1),(3,XE (n:Int)),(4,Xq q),(5,r5)]
structure DA (r0:List AV) (n q:Nat) (gr:Int) (r5:AV) (num:Nat->Nat) (i:Nat) (t:T) (g:G):Prop where
 st:St t (Tf n q r5)
 w:∃w:Nat,Xs t 6=XE (w:Int)/\w<=3 ^ i
 hd:∃V E D,DN X1 r0 n q 1000 gr V E D g/\DAok D n i num
def VG(h:i<=5):3 ^ i<=243:=by
 have:i=0\/i=1\/i=2\/i=3\/i=4\/i=5:=by omega
 rcases this with rfl|rfl|rfl|rfl|rfl|rfl<;>decide
def Um[Xr]{n q:Nat}{x:yg}{a b:AV}{num:Nat->Nat}(hn:1<=n/\n<=5)(ha:Xu Xt kk .nil x.2.1 a)(h5:IT 0 pl r5)(hN:Sm n pl num)
  (h0:DA [Xc x.1,a,b] n q gr r5 num 0 t g) (h7:Xs t 7=XE 0)
  (fin:∀t g,DA [Xc x.1,a,b] n q gr r5 num n t g->Q (.exit 0) t [] g):VY (wp C0 d none fS) Q t [] g:=by
 obtain⟨pr,M,r2,r3,r4⟩:=ha.all;have M:∀h',ak h' 3 a=some pr:=M;have la:=ha.len;have hc:=ha.1;have N:∀h,ak h 1 r5=some (pl.map ci):=λh=>(h5.sl h).ints;simp only[fS,mm];refine aU n (by omega) (λj t df g=>df=[]/\DA [Xc x.1,a,b] n q gr r5 num j t g) ⟨rfl,h0⟩ h7 (by decide) ?_ ?_ ?_ ?_
 ·rintro j t df g v s (rfl|rfl|rfl) ⟨a1,⟨b1,b2,W,X,Y,-⟩,⟨w,c1,Z⟩,c3⟩<;>exact⟨a1,by simp[St,Tf,sx,b1,b2,W,X,Y],⟨w,by simp[sx,c1],Z⟩,c3⟩
 ·rintro j t df g K ⟨rfl,⟨h1,h2,h3,h4,h5,-⟩,⟨w,h6,hw⟩,F⟩ h7;simp only[sz,simprocAttr,h7,h3];exact⟨by simp[St,Tf,sx,h1,h2,h3,h4,h5],⟨w,by simp[sx,h6],hw⟩,F⟩
 ·rintro j t df g K ⟨rfl,⟨h1,h2,h3,h4,h5,-⟩,⟨w,h6,hw⟩,V,E,D,F,u⟩ h7;obtain⟨p,A⟩:∃p,p=g.nx:=⟨_,rfl⟩;have he:=F.hp.nx;refine jR (P:=λt' df g'=>df=[]/\g'=g.new (Xy 3 [[.int .u8 0,.int .u8 0,.XC]])/\St t' ((6,XE (w:Int))::(7,XE (j:Int))::(8,Xq p)::Tf n q r5)) ?_ ?_
  ·simp only[sz,simprocAttr];simp[St,Tf,sx,h1,h2,h3,h4,h5,h6,h7,A]
  clear h1 h2 h3 h4 h5 h6 h7;rintro t df g1 ⟨rfl,l,⟨h6,h7,h8,h1,h2,h3,h4,h5,-⟩⟩;have f1:Fr g g1:=by rw[l];exact Fr.new _ _
  have J:g1.h.get p=Xy 3 [[.int .u8 0,.int .u8 0,.XC]]:=by rw[l,A];simp[VO]
  have n1:p<g1.nx:=by rw[l,A];simp
  clear l;have H:=F.same f1;have e0:=H.h0;refine jR (P:=λt' df g'=>df=[]/\Fr g g'/\St t' ((6,XE (w:Int))::(7,XE (j:Int))::(8,Xq p)::Tf n q r5)/\p<g'.nx/\∃(y:UInt8) (S U:AV),g'.h.get p=Xy 3 [[Xc y,S,U]]) ?_ ?_
  ·simp only[sz,simprocAttr,h7,h1,e0,la];refine bk (λhb=>?_) (λhb=>?_)
   ·have hb:j<x.2.1.length:=by simpa using hb
    obtain⟨y,hy,-,-⟩:=af hb;obtain⟨row,q1,q2⟩:=r3 j y hy;obtain⟨wv,rfl,hg⟩:=Gb.1 q2;have hlt:j<pr.length:=by omega
    have I:=r4 (by omega);simp only[sz,simprocAttr,h7,h1,e0,M,hlt,q1,h8,J];refine⟨?_,by simp[St,Tf,sx,h1,h2,h3,h4,h5,h6,h7,h8],by simpa using n1,y.1,Xc y.2.1,wv,by simp[VO]⟩;exact⟨Ya f1.1 (by simp),λi hi=>by simp[VO,show ¬i=p by omega];exact f1.2 i hi⟩
   ·simp only[sx,sy];exact⟨f1,by simp[St,Tf,sx,h1,h2,h3,h4,h5,h6,h7,h8],n1,0,.int .u8 0,.XC,J⟩
  clear h1 h2 h3 h4 h5 h6 h7 h8 e0 H J n1 f1;rintro t df g2 ⟨rfl,f2,⟨h6,h7,h8,h1,h2,h3,h4,h5,-⟩,n2,y,S,U,J⟩;have f:=F.same f2;have q2:=ef .u8 (a:=(y.toNat:Int)) (b:=2) (by omega) (by omega);obtain⟨m,hm⟩:∃m:Nat,(y.toNat:Int) % 2=(m:Int):=XU (aa5 _ (by decide));have hd:m<2:=by have:=aaF (y.toNat:Int) (show (0:Int)<2 by decide);omega
  rw[hm]at q2;have w2:IntKind.wrap .i64 (m:Int)=(m:Int):=an;have R:IntKind.wrap .i64 (2+(m:Int))=((2+m:Nat):Int):=by rw[an];rfl
  have hf:=VG (i:=j) (by omega);have B:w*(2+m)<=243*3:=abf (by omega) (by omega);have L:IntKind.wrap .i64 ((w:Int)*((2+m:Nat):Int))=((w*(2+m):Nat):Int):=by rw[<-ZP,an]
  have w5:IntKind.wrap .i64 ((n:Int) - 1)=((n - 1:Nat):Int):=by rw[an];omega
  have w6:IntKind.wrap .i64 (((n - 1:Nat):Int) - (j:Int))=((n - 1 - j:Nat):Int):=by rw[an];omega
  have w7:IntKind.wrap .u64 ((n - 1 - j:Nat):Int)=((n - 1 - j:Nat):Int):=xJ (by omega) (by omega);let⟨z,hz⟩:=S9 (w*(2+m)) (n - 1 - j);refine jR (P:=λt' df g'=>df=[]/\g'=g2/\St t' ((6,XE (w:Int))::(7,XE (j:Int))::(9,XE ((2+m:Nat):Int))::Tf n q r5)) ?_ ?_
  ·simp only[sz,simprocAttr,h8,J,Xc,q2,w2,R];simp[St,Tf,sx,h1,h2,h3,h4,h5,h6,h7]
  clear h1 h2 h3 h4 h5 h6 h7 h8;rintro t df g3 ⟨rfl,rfl,⟨h6,h7,h9,h1,h2,h3,h4,h5,-⟩⟩;refine jR (P:=λt' df g'=>df=[]/\g'=g3/\∃C:Nat,(C=2\/C=3)/\St t' ((6,XE (w:Int))::(7,XE (j:Int))::(9,XE (C:Int))::Tf n q r5)) ?_ ?_
  ·simp only[sz,simprocAttr,h6,h7,h9,h3,L,w5,w6,w7,hz];refine bk (λhb=>?_) (λhb=>?_)
   ·simp only[sz,simprocAttr];refine⟨2,.inl rfl,?_⟩;simp[St,Tf,sx,h1,h2,h3,h4,h5,h6,h7]
   ·simp only[sx,sy];refine⟨2+m,by omega,?_⟩;simp[St,Tf,sx,h1,h2,h3,h4,h5,h6,h7,h9]
  clear h1 h2 h3 h4 h5 h6 h7 h9 B L hz R;rintro t df g4 ⟨rfl,rfl,C,hC,⟨h6,h7,h9,h1,h2,h3,h4,h5,-⟩⟩;have B:w*C<=3 ^ j*3:=abf hw (by omega);have O:w*C<=243*3:=abf (by omega) (by omega);have L:IntKind.wrap .i64 ((w:Int)*(C:Int))=((w*C:Nat):Int):=by rw[<-ZP,an]
  refine jR (P:=λt' df g'=>df=[]/\g'=g4/\St t' ((6,XE ((w*C:Nat):Int))::(7,XE (j:Int))::(9,XE (C:Int))::Tf n q r5)) ?_ ?_
  ·simp only[sz,simprocAttr,h6,h9,L];simp[St,Tf,sx,h1,h2,h3,h4,h5,h7,h9]
  clear h1 h2 h3 h4 h5 h6 h7 h9;rintro t df g5 ⟨rfl,rfl,⟨h6,h7,h9,h1,h2,h3,h4,h5,-⟩⟩;let⟨kq,hh,hl⟩:=f.q rfl;have rns:=f.ns.rows;have I:=f_ f.ns (by simp;omega);have r:=hN.lt j K;have u1:j<(pl.map ci).length:=by rw[XN,hN.len];exact K
  have u2:(pl.map ci)[j]?=some (ci (num j:Int)):=by rw[XK,hN.at_ j K];rfl
  have u3:num j<((List.range n).map (im D V)).length:=by simpa using r
  have u4:=iZ (im D V) r;simp only[sz,simprocAttr,sf,h4,kq,h5,h7,h9,N,u1,u2,rns,u3,I,ci];refine (f.same ⟨?_,?_⟩).Xx r (λk hk=>by rw[hk];simp) λg6 E' hD6 n6=>?_
  ·simp;omega
  ·intro i hi;simp
  simp only[sx,sy,↓reduceIte,Nat.reduceEqDiff];refine⟨?_,⟨by simp[St,Tf,sx,h1,h2,h3,h4,h5],⟨w*C,by simp[sx,h6],by rw[Zn];exact B⟩,V,E',_,hD6.same ⟨by simp,λi _=>by simp⟩,u.e,λk hk=>?_,u.o⟩,by simp[h7]⟩
  ·simp only[X7,X8,X3,XY];exact aE (false::(OO (true::[]))) [] (by simp[Xl,am,aC]) (by decide) (by simp)
  ·by_cases e:num k=num j
   ·simp[e,au];omega
   ·show ups D.c (num j) (C:Int) (num k)=2\/ups D.c (num j) (C:Int) (num k)=3;rw[ae e];refine u.c k ?_;have:k≠j:=λh=>e (by rw[h]);omega
 ·rintro t df g ⟨rfl,h⟩;exact fin t g h
def vB{g:G}{b:Nat}{v x:AV}{sz bytes:Nat}{rows new:List (List AV)}{K:AV->G->Prop}{D:Xo->Prop}(hv:Own g b v sz rows)(hx:ak g.h sz x=some new)(hb:b<=g.nx)
  (hr:(rows.length+new.length)*bytes<=aH)
  (k:∀v' g',Own g' b v' sz (rows++new)->g.nx<=g'.nx->(∀i,i<g.nx->W5 v≠some i->g'.h.get i=g.h.get i)->(W5 v'=W5 v\/∃i,W5 v'=some i/\g.nx<=i)->(∀i∈g'.lg,i∈g.lg\/W5 v=some i\/g.nx<=i)->K v' g') :
  (cZ sz bytes v x g).sat K g D:=by
 unfold cZ;rw[hx];dsimp only;rcases hv with⟨rfl,rfl⟩|⟨id,ep,lo,h1,h2,rfl,h3⟩
 ·cases new with
  |nil=>exact k _ _ (.inl ⟨rfl,rfl⟩) (XH _) (λ_ _ _=>rfl) (.inl rfl) (λi hi=>.inl hi)
  | cons r new =>simp only[bB,ay,aa,Yt];rw[XO (by simpa using hr)];refine k _ _ (.inr ⟨g.nx,0,true,hb,by simp,rfl,by simp[aY]⟩) (by simp) (λi hi _=>?_) (.inr ⟨g.nx,rfl,XH _⟩) (λi hi=>by simp at hi;rcases hi with rfl|hi;exact .inr (.inr (XH _));exact .inl hi);rw[G.new_h,aq]
 ·simp only[bB,G.get_eq,h3,ay,aa,show Nat.beq ep ep=true from Yl ep,show Nat.beq sz sz=true from Yl sz,YO,Yt,XM,YT,YU,Zo];rw[XO ⟨XH _,hr⟩];cases new with
  | nil =>rw[XO (by simp)];refine k _ _ (.inr ⟨id,ep,lo,h1,h2,by simp,by simpa using h3⟩) (XH _) (λ_ _ _=>rfl) (.inl rfl) (λi hi=>.inl hi)
  | cons r new =>
   rw[XS (by simp)];have ht:h_ rows.length (gG 0 rows)=rows:=by rw[bI,bK];simp
   cases lo with
   | false =>rw[XO (by simp)];refine k _ _ (.inr ⟨g.nx,0,true,by omega,by simp,by simp,by simp[aY,ht]⟩) (by simp) (λi hi _=>?_) (.inr ⟨g.nx,rfl,XH _⟩) (λi hi=>by simp at hi;rcases hi with rfl|hi;exact .inr (.inr (XH _));exact .inl hi);rw[G.new_h,aq]
   | true =>rw[XS (by simp)];refine k _ _ (.inr ⟨id,ep+1,true,h1,by simpa using h2,by simp,by simp[aY,ht]⟩) (by simp) (λi hi hne=>?_) (.inl rfl) (λi hi=>by simp at hi;rcases hi with rfl|hi;exact .inr (.inl rfl);exact .inl hi);rw[G.put_h,aq (λe=>hne (by rw[e];rfl))]
section
variable {κ:Type} [DecidableEq κ]{g:G}{b:Nat}{L:κ->Prop}{V:κ->AV}{E:κ->En}{k:κ}
def Hp.app2(h:Hp g b L V E)(hk:L k){sz bytes:Nat}{rows new:List (List AV)}(he:E k=.sl sz rows){x:AV}{K:AV->G->Prop}{D:Xo->Prop}(hx:ak g.h sz x=some new)
  (hr:(rows.length+new.length)*bytes<=aH)
  (kk:∀v' g',Hp g' b L (ups V k v') (ups E k (.sl sz (rows++new)))->g.nx<=g'.nx->(∀i,i<b->g'.h.get i=g.h.get i)->(∀i,i<g.nx->MX (V k)≠some i->g'.h.get i=g.h.get i)->(∀i∈g'.lg,i∈g.lg\/MX (V k)=some i\/g.nx<=i)->v'.cells=[v']->v'.isTup=false->K v' g') :
  (cZ sz bytes (V k) x g).sat K g D:=by
 have ho:=h.own hk he;refine vB ho hx h.nx hr λv' g' hv' hn hf hvid hlg=>?_;refine kk v' g' (h.set hk hv' hn (λi _ hi hne=>hf i hi (by rw[<-cJ ho];exact hne)) ?_) hn (λi hi=>hf i (XX hi h.nx) λe=>by have:=(ho.lt e).1;omega)
  (λi hi hne=>hf i hi (by rw[<-cJ ho];exact hne)) (λi hi=>by rw[cJ ho];exact hlg i hi) hv'.cell.1 hv'.cell.2
 rw[cJ hv',cJ ho];exact hvid
def Hp.putv(h:Hp g b L V E)(hk:L k){v0:AV}(hv:V k=v0){sz n off:Nat}{rows:List (List AV)}{row row':List AV}(he:E k=.sl sz rows){x:AV}{K:AV->G->Prop}{D:Xo->Prop}(hr:rows[i]?=some row)
  (hl:x.cells.length=n) (ht:x.isTup=false) (hp:cN row off x.cells=some row')
  (kk:∀g',Hp g' b L V (ups E k (.sl sz (rows.set i row')))->g'.nx=g.nx->(∀i,i<b->g'.h.get i=g.h.get i)->(∀i,MX (V k)≠some i->g'.h.get i=g.h.get i)->K .undef g'):(pA n (jK sz v0 i off) x g).sat K g D:=by
 subst hv;exact h.put hk he hr hl ht hp kk
end
def Aw(m n:Nat):∃z:Nat,cL .shr (.int .u8 (m:Int)) (R7 (n:Int))=.val (.int .u8 (z:Int)) :=⟨m / 2 ^ (Nat.min n 8),rfl⟩
def Av(m n:Nat):∃z:Int,cL .and (.int .u8 (m:Int)) (.int .u8 (n:Int))=.val (.int .u8 z):=by have:∃z:Int,Op.intBits .and .u8 (.ofNat m) (.ofNat n)=.pure (.int .u8 z):=⟨_,rfl⟩;let⟨z,hz⟩:=this;refine⟨z,?_⟩;show VW (tc (Op.intBits .and .u8 (.ofNat m) (.ofNat n)))=_;rw[hz];rfl
structure DB (D:ND) (n i v:Nat) (num:Nat->Nat):Prop where
 c:∀u,u<n->D.c u=2\/D.c u=3
 p:∀u,u<n->(D.P u).length<=3/\∀y∈D.P u,0<=y/\y<n
 m:∀u,u<n->D.m u<=64
 o:∀u,D.o u=0
 f:∀k,i<k->k<n->D.P (num k)=[]/\D.m (num k)=0
def p8(P0:List Int)(c0:Nat->Int):Int:=EO (P0.map λy=>c0 y.toNat)
structure DOk (gr:Int) (D:ND) (n i:Nat) (num:Nat->Nat):Prop where
 s:∀u,u<n->(D.P u).Pairwise (·<·)
 a:∀k,k<n->∀y∈D.P (num k),∃k',k'<k/\y=(num k':Int)
 w:∀k,k<i->(D.m (num k):Int)=p8 (D.P (num k)) D.c
 r:∀u r,u<n->r<D.m u->RE gr (D.c u) (D.R u r)
def RJ(n q i p v:Nat)(r5:AV):List (Nat×AV):=[(1,Xq 0),(2,Xq 1),(3,XE (n:Int)),(4,Xq q),(5,r5),(10,XE (i:Int)),(11,Xq p),(12,XE (v:Int))]
structure DP (r0 Wj:List AV) (n q i p v:Nat) (gr:Int) (r5:AV) (num:Nat->Nat) (g:G) (V:Ky->AV) (E:Ky->En) (D:ND):Prop where
 dn:DN X2 r0 n q 1000 gr V E D g
 pb:V (0,2)=Xq p/\E (0,2)=.bx Wj
 db:DB D n i v num
 mv:D.m v=0
 ok:DOk gr D n i num
def DP.p{r0 Wj:List AV}{n q i p v:Nat}{gr:Int}{r5:AV}{num:Nat->Nat}{g:G}{V:Ky->AV}{E:Ky->En}{D:ND}(h:DP r0 Wj n q i p v gr r5 num g V E D):g.h.get p=Xy Wj.length [Wj]/\2<=p/\p<g.nx:=by let⟨id,h1,h2,h3,h4⟩:=h.dn.hp.box (k:=(0,2)) (.inr (.inr rfl)) h.pb.2;rw[h.pb.1]at h3;cases h3;exact⟨h4,h1,h2⟩
def GV{X:Ky->Prop}{n:Nat}{V:Ky->AV}{E:Ky->En}{g:G}(h:Hp g 2 (OS X n D) V E){j k:Ky}(hj:OS X n D j)(hk:OS X n D k)(hne:j≠k){id:Nat}(he:MX (V j)=some id):MX (V k)≠some id:=h.sep j k hj hk hne id he
def Eb:SC:=.W6 [0,1,0,0,8,0,56,120,248,0,512,2040,4095,8191,16383] [oF 131 1 4,oL 132 131,oM 133 12,oF 134 1 4,oL 135 134,oM 136 12,Wb 137 3 135 136,oF 138 1 137,oL 139 138,oM 140 13,KA 141 140,acq 142 1 8 139 141,Wb 143 3 132 133,oF 144 1 143,W8 1 144 142]
def Sv[Xr]{n q p v u:Nat}{Wj:List AV}{num:Nat->Nat}{g:G}{V:Ky->AV}{E:Ky->En}{rest:List (Nat×AV)}(hn:1<=n/\n<=5)(hv:v<n)(hvi:∀k,i<k->k<n->num k≠v)(hu:u<n)(hvl:∀k,k<i->num k≠v)(hua:∃k',k'<i/\u=num k')(hlt:∀y∈D.P v,y<(u:Int))
  (h4:Xs t 4=Xq q) (h12:Xs t 12=XE (v:Int)) (h13:Xs t 13=XE (u:Int)) (hP:DP r0 Wj n q i p v gr r5 num g V E D) (hl:(D.P v).length<3)
  (fin:∀t' g' V' E' D',(∀s,(s<131\/144<s)->Xs t' s=Xs t s)->D'.P v=D.P v++[(u:Int)]->DP r0 Wj n q i p v gr r5 num g' V' E' D'->Q .norm t' [] g') :
  wp C0 d none Eb Q t [] g:=by
 have l:=hP.dn;let⟨kq,U,W⟩:=l.q (.inl rfl);unfold Eb;have rns:=l.ns.rows;have K:=f_ l.ns (by simp;omega);have u3:v<((List.range n).map (im D V)).length:=by simpa using hv
 have N:=iZ (im D V) hv;have M:=l.bn.ps v hv;simp only[sz,simprocAttr,sf,h4,h12,h13,kq,rns,u3,N,K,im];refine (l.hp.step ?_ ?_).app2 (.inl (LN.p hv)) M.1 (new:=[ci (u:Int)]) (by simp[sx,sy,ci]) (by unfold aH;simp;omega) λv1 g1 hH1 n1 fb1 fo1 lg1 vc vt=>?_
 ·simp;omega
 ·intro i _ hi;simp[VO];omega
 simp only[sx,sy]at n1 fb1 fo1 lg1;have H:ups V (v+1,0) v1 (0,0)=V (0,0):=ae;have C:ups E (v+1,0) (.sl 1 ((D.P v).map ci++[ci (u:Int)])) (0,0)=.sl 3 ((List.range n).map (im D V)):=by rw[ae];exact l.bn.ns
 have rns1:ak g1.h 3 (V (0,0))=some ((List.range n).map (im D V)):=by rw[<-H];exact (hH1.own (.inl LN.z) C).rows
 simp only[sz,simprocAttr,sf,rns1,u3,K];refine (hH1.same (g':=_) ?_ ?_).putv (k:=(0,0)) (.inl LN.z) H (row':=[XE (D.c v),v1,V (v+1,1)]) C N (by rw[vc];rfl) vt (by rw[vc];rfl) λg2 hH2 n2 fb2 fo2=>?_
 ·simp
 ·simp;omega
 simp only[sy];refine⟨?_,?_⟩
 ·simp only[X7,X8,X3,XY];refine aE (OQ (OO (true::(true::(OQ (true::[])))))) [(0,10),(1,10),(2,10),(3,10),(4,10),(5,10),(6,10),(7,10),(8,10),(0,11),(1,11),(2,11)] (by simp[Xl,am,aC]) (by decide) ?_;have I:∀i∈g1.lg,i≠q:=λi hi e=>by
   rcases lg1 i hi with h|h|h
   ·simp at h
   ·exact GV l.hp (.inl (LN.p hv)) (.inr (.inl rfl)) (by simp) h (by rw[l.vb,e];rfl)
   ·omega
  obtain⟨id0,ep0,O,L⟩:∃id ep,id<g.nx/\V (0,0)=.Xj id ep 0 ((List.range n).map (im D V)).length none:=by
   rcases l.ns with⟨h,e⟩|⟨id,ep,lo,-,h1,h2,-⟩
   ·have:=congrArg List.length e;simp at this;omega
   ·exact⟨id,ep,h1,h2⟩
  have F:∀i∈g1.lg,i≠id0:=λi hi e=>by
   rcases lg1 i hi with h|h|h
   ·simp at h
   ·exact GV l.hp (.inl (LN.p hv)) (.inl LN.z) (by simp) h (by rw[L,e];rfl)
   ·omega
  rintro p J x y hx B;simp only[Yh,Yc,ZQ]at J;rcases J with rfl|rfl|rfl|rfl|rfl|rfl|rfl|rfl|rfl|rfl|rfl|rfl<;>(simp at hx B;subst hx;subst B;refine cK rfl rfl rfl rfl ?_ ?_ ?_<;>simp[am,aC,aw,L,jK]<;>first|omega|exact I|exact F|exact λi hi e=>I i hi e.symm|exact λi hi e=>F i hi e.symm)
 refine fin _ _ (ups V (v+1,0) v1) _ { D with P:=ups D.P v (D.P v++[(u:Int)]) } (λs hs=>?_) (au _ _ _) ⟨⟨(hH2.same (g':=_) (by simp) (by simp)).sub λk hk=>hk,⟨?_,λj hj=>?_,λj hj=>?_,λj r hj hr=>?_⟩,?_,?_,?_,?_⟩,⟨?_,?_⟩,⟨hP.db.c,λw hw=>?_,hP.db.m,hP.db.o,λk hk hkn=>?_⟩,hP.mv,?_⟩
 ·simp only[cw]
  repeat rw[aJ]
 ·rw[au,q_ _ _ hv];congr 1;refine D6 (by simp[im,au,ae]) λj hj hne=>by simp[im,ae,hne]
 ·by_cases e:j=v
  ·subst e;rw[ae,au];show En.sl 1 _=En.sl 1 ((ups D.P j (D.P j++[(u:Int)]) j).map ci)/\(ups D.P j (D.P j++[(u:Int)]) j).length<=1000;rw[au];exact⟨by simp,by simp;omega⟩
  ·rw[ae,ae (by simp[e])];show E (j+1,0)=En.sl 1 ((ups D.P v (D.P v++[(u:Int)]) j).map ci)/\(ups D.P v (D.P v++[(u:Int)]) j).length<=1000;rw[ae e];exact l.bn.ps j hj
 ·rw[ae,ae];have:=l.bn.rs j hj;refine⟨?_,this.2⟩;rw[this.1];congr 1;exact YZ λr _=>by simp[KL,ae]
 ·rw[ae,ae,ae];exact l.bn.rr j r hj hr
 ·rw[ae];exact l.vb
 ·rw[ae,ae,ae];exact l.bx
 ·simp only[WS];rw[fb2 0 (by omega)];simp;rw[fb1 0 (by omega),aJ,l.h0]
 ·simp only[WS];rw[fb2 1 (by omega)];simp;rw[fb1 1 (by omega),aJ,l.h1]
 ·rw[ae];exact hP.pb.1
 ·rw[ae,ae];exact hP.pb.2
 ·by_cases e:w=v
  ·subst e;show (ups D.P w (D.P w++[(u:Int)]) w).length<=3/\∀y∈ups D.P w (D.P w++[(u:Int)]) w,0<=y/\y<n;rw[au];refine⟨by simp;omega,λy B=>?_⟩;rcases Yf.1 B with h|h
   ·exact (hP.db.p w hw).2 y h
   ·rw[Yy.1 h];omega
  ·show (ups D.P v (D.P v++[(u:Int)]) w).length<=3/\∀y∈ups D.P v (D.P v++[(u:Int)]) w,0<=y/\y<n;rw[ae e];exact hP.db.p w hw
 ·show ups D.P v (D.P v++[(u:Int)]) (num k)=[]/\D.m (num k)=0;rw[ae (hvi k hk hkn)];exact hP.db.f k hk hkn
 ·have A:=hP.ok;refine⟨λw hw=>?_,λk hk y B=>?_,λk hk=>?_,A.r⟩
  ·show (ups D.P v (D.P v++[(u:Int)]) w).Pairwise (·<·)
   by_cases e:w=v
   ·rw[e,au];rw[List.pairwise_append];exact⟨A.s v hv,List.pairwise_singleton _ _,λa ha b hb=>by rw[Yy.1 hb];exact hlt a ha⟩
   ·rw[ae e];exact A.s w hw
  ·have B:y∈ups D.P v (D.P v++[(u:Int)]) (num k):=B
   by_cases e:num k=v
   ·rw[e,au]at B;rcases Yf.1 B with h|h
    ·rw[<-e]at h;exact A.a k hk y h
    ·let⟨k',h1,h2⟩:=hua;have:¬k<i:=λh=>hvl k h e;exact⟨k',by omega,by rw[Yy.1 h,h2]⟩
   ·rw[ae e]at B;exact A.a k hk y B
  ·show (D.m (num k):Int)=p8 (ups D.P v (D.P v++[(u:Int)]) (num k)) D.c;rw[ae (hvl k hk)];exact A.w k hk
structure DJ (r0 Wj:List AV) (n q i p v u:Nat) (gr:Int) (r5:AV) (num:Nat->Nat) (j:Nat) (t:T) (g:G):Prop where
 st:St t ((13,XE (u:Int))::RJ n q i p v r5)
 hd:∃V E D,DP r0 Wj n q i p v gr r5 num g V E D/\(∀y∈D.P v,y<=(u:Int))/\((∃k,k<j/\num k=u)\/∀y∈D.P v,y<(u:Int))
theorem Un[Xr]{n q p v u:Nat}{y1 y2:UInt8}{num:Nat->Nat}(hn:1<=n/\n<=5)(h5:IT 0 pl r5)(hN:Sm n pl num)(hi:i<n)(hv:v=num i)(hu:u<n)
  (h0:DJ r0 [Xc y1,Xc y2,wv] n q i p v u gr r5 num 0 t g) (h14:Xs t 14=XE 0)
  (fin:∀t g,DJ r0 [Xc y1,Xc y2,wv] n q i p v u gr r5 num i t g->Q (.exit 6) t [] g):VY (wp C0 d none fT) Q t [] g:=by
 have z:∀h,ak h 1 r5=some (pl.map ci):=λh=>(h5.sl h).ints;have m:v<n:=by rw[hv];exact hN.lt i hi
 have O:∀k,i<k->k<n->num k≠v:=λk h1 h2 e=>by have:=hN.inj k i h2 hi (by rw[e,hv]);omega
 have R:∀k,k<i->num k≠v:=λk h1 e=>by have:=hN.inj k i (by omega) hi (by rw[e,hv]);omega
 obtain⟨FR,C⟩:∃FR,FR=Eb:=⟨_,rfl⟩;simp only[fT,mo];rw[show (SC.W6 [0,1,0,0,8,0,56,120,248,0,512,2040,4095,8191,16383] [oF 131 1 4,oL 132 131,oM 133 12,oF 134 1 4,oL 135 134,oM 136 12,Wb 137 3 135 136,oF 138 1 137,oL 139 138,oM 140 13,KA 141 140,acq 142 1 8 139 141,Wb 143 3 132 133,oF 144 1 143,W8 1 144 142])=FR from C.symm];refine aU i (by omega) (λj t df g=>df=[]/\DJ r0 [Xc y1,Xc y2,wv] n q i p v u gr r5 num j t g) ⟨rfl,h0⟩ h14 (by decide) ?_ ?_ ?_ ?_
 ·rintro j t df g w s (rfl|rfl|rfl) ⟨a1,⟨b1,b2,Z,b4,b5,b6,b7,b8,b9,-⟩,c⟩<;>exact⟨a1,by simp[St,RJ,sx,b1,b2,Z,b4,b5,b6,b7,b8,b9],c⟩
 ·rintro j t df g U ⟨rfl,⟨a,h1,h2,h3,h4,h5,Xp,b,f,-⟩,hD⟩ h14;simp only[sz,simprocAttr,h14,Xp];exact⟨by simp[St,RJ,sx,a,h1,h2,h3,h4,h5,Xp,b,f],hD⟩
 ·rintro j t df g U ⟨rfl,⟨a,h1,h2,h3,h4,h5,Xp,b,f,-⟩,V,E,D,r,x,F⟩ h14;obtain⟨kp,-,-⟩:=r.p;have kp:g.h.get p=Xy 3 [[Xc y1,Xc y2,wv]]:=kp;obtain⟨kq,h6,h7⟩:=r.dn.q (.inl rfl);have rns:=r.dn.ns.rows;have H:=f_ r.dn.ns (by simp;omega);have I:j<(pl.map ci).length:=by rw[XN,hN.len];omega
  have J:(pl.map ci)[j]?=some (ci (num j:Int)):=by rw[XK,hN.at_ j (by omega)];rfl
  have u3:v<((List.range n).map (im D V)).length:=by simpa using m
  have W:((List.range n).map (im D V))[v]?=some [XE (D.c v),V (v+1,0),V (v+1,1)]:=iZ (im D V) m;have M:=r.dn.bn.ps v m;have A:∀g2:G,bC .slice (V (v+1,0)) g2=.val (XE ((D.P v).length:Int)):=λg2=>by have:=(r.dn.hp.own (.inl (LN.p m)) M.1).rows;rw[bQ this];simp
  have w1:IntKind.wrap .u64 (j:Int)=(j:Int):=xJ (by omega) (by omega);obtain⟨X,B⟩:=Aw y2.toNat j;obtain⟨Y,S⟩:=Av X 1;have l:(∃k,k<j+1/\num k=u)\/∀y∈D.P v,y<(u:Int):=by
   rcases F with⟨k,h1,h2⟩|h
   ·exact .inl ⟨k,by omega,h2⟩
   ·exact .inr h
  have o:cL .and (.int .u8 (X:Int)) (.int .u8 1)=.val (.int .u8 Y):=S
  by_cases c1:(num j:Int)=(u:Int)
  ·by_cases c2:Y=1
   ·by_cases c3:((D.P v).length:Int)<3
    ·simp only[sz,simprocAttr,h14,h5,a,z,I,J,ci,c1,b,kp,Xc,w1,B,o,c2,h4,kq,f,rns,u3,W,H,A,c3];rw[C];refine Sv (n:=n) (q:=q) (i:=i) (p:=p) (v:=v) (u:=u) (r5:=r5) (num:=num) hn m O hu R ⟨j,U,by omega⟩ ?_ ?_ ?_ ?_ r (by omega) (rest:=[]) ?_
     ·rcases F with⟨k,h1,h2⟩|h
      ·have:=hN.inj k j (by omega) (by omega) (by omega);omega
      ·exact h
     ·simp[sx,h4]
     ·simp[sx,f]
     ·simp[sx,a]
     intro t' g' V' E' D' N L K;simp only[sy];have hs:∀s,s<131->Xs t' s=_:=λs h=>N s (.inl h);refine⟨⟨?_,V',E',D',K,λy hy=>?_,.inl ⟨j,by omega,by omega⟩⟩,?_⟩
     ·simp[St,RJ,hs,sx,a,h1,h2,h3,h4,h5,Xp,b,f]
     ·rw[L]at hy;rcases Yf.1 hy with h|h
      ·exact x y h
      ·rw[Yy.1 h];exact Sq _
     ·simp[hs,sx,h14]
    ·simp only[sz,simprocAttr,h14,h5,a,z,I,J,ci,c1,b,kp,Xc,w1,B,o,c2,h4,kq,f,rns,u3,W,H,A,c3];exact⟨by simp[St,RJ,sx,a,h1,h2,h3,h4,h5,Xp,b,f],V,E,D,r,x,l⟩
   ·simp only[sz,simprocAttr,h14,h5,a,z,I,J,ci,c1,b,kp,Xc,w1,B,o,c2];exact⟨by simp[St,RJ,sx,a,h1,h2,h3,h4,h5,Xp,b,f],V,E,D,r,x,l⟩
  ·simp only[sz,simprocAttr,h14,h5,a,z,I,J,ci,c1];exact⟨by simp[St,RJ,sx,a,h1,h2,h3,h4,h5,Xp,b,f],V,E,D,r,x,l⟩
 ·rintro t df g ⟨rfl,h⟩;exact fin t g h
structure DK (r0 Wj:List AV) (n q i p v:Nat) (gr:Int) (r5:AV) (num:Nat->Nat) (j:Nat) (t:T) (g:G):Prop where
 st:St t (RJ n q i p v r5)
 hd:∃V E D,DP r0 Wj n q i p v gr r5 num g V E D/\∀y∈D.P v,y<(j:Int)
theorem Uq[Xr]{n q p v:Nat}{y1 y2:UInt8}{num:Nat->Nat}(hn:1<=n/\n<=5)(h5:IT 0 pl r5)(hN:Sm n pl num)(hi:i<n)(hv:v=num i)
  (h0:DK r0 [Xc y1,Xc y2,wv] n q i p v gr r5 num 0 t g) (h13:Xs t 13=XE 0)
  (fin:∀t g,DK r0 [Xc y1,Xc y2,wv] n q i p v gr r5 num n t g->Q (.exit 4) t [] g):VY (wp C0 d none fU) Q t [] g:=by
 simp only[fU,mq];refine aU n (by omega) (λj t df g=>df=[]/\DK r0 [Xc y1,Xc y2,wv] n q i p v gr r5 num j t g) ⟨rfl,h0⟩ h13 (by decide) ?_ ?_ ?_ ?_
 ·rintro j t df g w s (rfl|rfl|rfl) ⟨a1,⟨b1,b2,A,B,C,F,H,I,-⟩,c⟩<;>exact⟨a1,by simp[St,RJ,sx,b1,b2,A,B,C,F,H,I],c⟩
 ·rintro j t df g z ⟨rfl,⟨h1,h2,h3,h4,h5,Xp,k,a,-⟩,f⟩ h13;simp only[sz,simprocAttr,h13,h3];exact⟨by simp[St,RJ,sx,h1,h2,h3,h4,h5,Xp,k,a],f⟩
 ·rintro j t df g z ⟨rfl,⟨h1,h2,h3,h4,e,Xp,k,a,-⟩,V,E,D,f,hlt⟩ h13;simp only[sz,simprocAttr];refine Un (u:=j) hn h5 hN hi hv z ⟨by simp[St,RJ,sx,h13,h1,h2,h3,h4,e,Xp,k,a],V,E,D,f,λy hy=>Int.le_of_lt (hlt y hy),.inr hlt⟩ (by simp[sx]) ?_;rintro N g2 ⟨⟨x,J,k2,K,L,M,m,o,r,-⟩,V2,E2,D2,l,b,-⟩;simp only[sx,sy,↓reduceIte];exact⟨⟨by simp[St,RJ,J,k2,K,L,M,m,o,r],V2,E2,D2,l,λy hy=>by have:=b y hy;omega⟩,x⟩
 ·rintro t df g ⟨rfl,h⟩;exact fin t g h
def Eo:SC:=.W6 [0,1,0,0,8,0,56,120,248,0,512,0,2048,0,14336,30720,63488,0,131072,0,0,1048576,0,7340032,15728640,32505856,66060288,133693440,268434944,536870400,1073741816,2147483647,4294967295,8589934591] [oF 153 1 4,oL 154 153,oM 155 12,oF 156 1 4,oL 157 156,oM 158 12,Wb 159 3 157 158,oF 160 2 159,oL 161 160,oF 162 0 4,oL 163 162,oF 164 1 4,oL 165 164,oM 166 12,Wb 167 3 165 166,oF 168 0 167,oL 169 168,oF 170 2 11,oL 171 170,oM 172 15,oF 173 1 4,oL 174 173,oM 175 12,Wb 176 3 174 175,oF 177 0 176,oL 178 177,oA 179 178,Xk 180 .mul 172 179,QG 181 50 163 169 171 180,PL 182 181,acq 183 1 24 161 182,Wb 184 3 154 155,oF 185 2 184,W8 1 185 183]
structure DQ (r0 Wj:List AV) (n q i p v j:Nat) (gr:Int) (r5:AV) (num:Nat->Nat) (P0:List Int) (c0:Nat->Int) (g:G) (V:Ky->AV) (E:Ky->En) (D:ND):Prop where
 dn:DN X2 r0 n q 1000 gr V E D g
 pb:V (0,2)=Xq p/\E (0,2)=.bx Wj
 db:DB D n i v num
 mv:D.m v=j
 pv:D.P v=P0
 cv:D.c=c0
 ok:DOk gr D n i num
def DQ.p{r0 Wj:List AV}{n q i p v j:Nat}{gr:Int}{r5:AV}{num:Nat->Nat}{P0:List Int}{c0:Nat->Int}{g:G}{V:Ky->AV}{E:Ky->En}{D:ND}(h:DQ r0 Wj n q i p v j gr r5 num P0 c0 g V E D):g.h.get p=Xy Wj.length [Wj]/\2<=p/\p<g.nx:=by let⟨id,h1,h2,h3,h4⟩:=h.dn.hp.box (k:=(0,2)) (.inr (.inr rfl)) h.pb.2;rw[h.pb.1]at h3;cases h3;exact⟨h4,h1,h2⟩
def Sw[Xr]{n q p v j:Nat}{y1 y2:UInt8}{W:List UInt8}{num:Nat->Nat}{P0:List Int}{c0:Nat->Int}(hd:0<d)(hn:1<=n/\n<=5)(hv:v<n)(hvi:∀k,i<k->k<n->num k≠v)(hvl:∀k,k<i->num k≠v)(hj:j<64)(hgr:0<=gr/\gr<=60)(hwv:Xu Xt kk .nil W wv)
  (h4:Xs t 4=Xq q) (h11:Xs t 11=Xq p) (h12:Xs t 12=XE (v:Int)) (U4:Xs t 15=XE (j:Int)) (hP:DQ r0 [Xc y1,Xc y2,wv] n q i p v j gr r5 num P0 c0 g V E D)
  (fin:∀t' g' V' E' D',(∀s,(s<153\/185<s)->Xs t' s=Xs t s)->DQ r0 [Xc y1,Xc y2,wv] n q i p v (j+1) gr r5 num P0 c0 g' V' E' D'->Q .norm t' [] g') :
  wp C0 d none Eo Q t [] g:=by
 have A:=hP.dn;obtain⟨kq,ha,hb⟩:=A.q (.inl rfl);obtain⟨kp,-,h9⟩:=hP.p;have kp:g.h.get p=Xy 3 [[Xc y1,Xc y2,wv]]:=kp;unfold Eo;have rns:=A.ns.rows;have S:=f_ A.ns (by simp;omega);have u3:v<((List.range n).map (im D V)).length:=by simpa using hv
 have u4:=iZ (im D V) hv;have X:((List.range n).map (im D V))[v]?=some [XE (D.c v),V (v+1,0),V (v+1,1)]:=u4;have h3:=A.bn.rs v hv;have h8:=A.hp.nx;obtain⟨C,hC,h6⟩:∃C:Nat,D.c v=(C:Int)/\(C=2\/C=3):=by
  rcases hP.db.c v hv with h|h
  ·exact⟨2,h,.inl rfl⟩
  ·exact⟨3,h,.inr rfl⟩
 have h7:j*(C+1)<=64*4:=abf (by omega) (by omega);have w1:IntKind.wrap .i64 ((C:Int)+1)=((C+1:Nat):Int):=by rw[an];rfl
 have w2:IntKind.wrap .i64 ((j:Int)*((C+1:Nat):Int))=((j*(C+1):Nat):Int):=by rw[<-ZP,an]
 rw[hC]at X;simp only[sz,simprocAttr,sf,h4,h11,h12,U4,kq,kp,rns,u3,X,S,w1,w2,Dy];refine aG (UF (C:=C) (F:=j*(C+1)) (gr:=gr) (l:=W) hd (by omega) (by omega) hgr hwv) ?_;rintro r ⟨l,⟨hl,M⟩,_,e1,hr⟩;injection e1 with e1;subst e1;have O:=hr.cell;simp only[sz,simprocAttr,sf,O.1,O.2];refine (A.hp.step (g':=_) ?_ ?_).app2 (k:=(v+1,1)) (.inl (LN.r hv)) h3.1 (new:=[[r]]) (by simp[sx,sy]) (by unfold aH;simp;rw[hP.mv];omega) λv1 g1 H n1 fb1 fo1 lg1 vc vt=>?_
 ·simp;omega
 ·intro i _ hi;simp[VO];omega
 simp only[sx,sy]at n1 fb1 fo1 lg1;have Z:¬OS X2 n D (v+1,2+j):=by
  rintro (h|h)
  ·rcases h with h|⟨i',q',h,-,hq⟩
   ·simp at h
   ·rw[hP.db.o]at hq;simp only[abI]at h;omega
  ·rcases h with h|h<;>simp at h
 have H:=H.off (x:=r) Z;have K:ups (ups V (v+1,1) v1) (v+1,2+j) r (0,0)=V (0,0):=by rw[ae,ae]
 have I:ups E (v+1,1) (.sl 1 ((List.range (D.m v)).map (KL V v)++[[r]])) (0,0)=.sl 3 ((List.range n).map (im D V)):=by rw[ae];exact A.bn.ns
 have rns1:ak g1.h 3 (V (0,0))=some ((List.range n).map (im D V)):=by rw[<-K];exact (H.own (k:=(0,0)) (.inl LN.z) I).rows
 simp only[sz,simprocAttr,sf,rns1,u3,S];refine (H.same (g':=_) ?_ ?_).putv (k:=(0,0)) (.inl LN.z) K (row':=[XE (C:Int),V (v+1,0),v1]) I u4 (by rw[vc];rfl) vt (by rw[vc,im,hC];rfl) λg2 hH2 n2 fb2 fo2=>?_
 ·simp
 ·simp;omega
 simp only[sy];refine⟨?_,?_⟩
 ·simp only[X7,X8,X3,XY];refine aE (false::(KI (OO (OO (OO (true::(true::(OQ (true::[]))))))))) [(0,29),(1,29),(2,29),(3,29),(4,29),(5,29),(6,29),(7,29),(8,29),(0,30),(1,30),(2,30)] (by simp[Xl,am,aC]) (by decide) ?_;have L:∀i∈g1.lg,i≠q:=λi hi e=>by
   rcases lg1 i hi with h|h|h
   ·simp at h
   ·exact GV A.hp (.inl (LN.r hv)) (.inr (.inl rfl)) (by simp) h (by rw[A.vb,e];rfl)
   ·omega
  obtain⟨id0,ep0,h5,U⟩:∃id ep,id<g.nx/\V (0,0)=.Xj id ep 0 ((List.range n).map (im D V)).length none:=by
   rcases A.ns with⟨h,e⟩|⟨id,ep,lo,-,h1,h2,-⟩
   ·have:=congrArg List.length e;simp at this;omega
   ·exact⟨id,ep,h1,h2⟩
  have J:∀i∈g1.lg,i≠id0:=λi hi e=>by
   rcases lg1 i hi with h|h|h
   ·simp at h
   ·exact GV A.hp (.inl (LN.r hv)) (.inl LN.z) (by simp) h (by rw[U,e];rfl)
   ·omega
  rintro p N x y hx hy;simp only[Yh,Yc,ZQ]at N;rcases N with rfl|rfl|rfl|rfl|rfl|rfl|rfl|rfl|rfl|rfl|rfl|rfl<;>(simp at hx hy;subst hx;subst hy;refine cK rfl rfl rfl rfl ?_ ?_ ?_<;>simp[am,aC,aw,U,jK]<;>first|omega|exact L|exact J|exact λi hi e=>L i hi e.symm|exact λi hi e=>J i hi e.symm)
 have Y:=hP.mv;refine fin _ _ (ups (ups V (v+1,1) v1) (v+1,2+j) r) _ { D with m:=ups D.m v (j+1),R:=ups D.R v (ups (D.R v) j l) } (λs hs=>?_) ⟨⟨(hH2.same (g':=_) (by simp) (by simp)).sub λk hk=>hk,⟨?_,λu hu=>?_,λu hu=>?_,λu r' hu b=>?_⟩,?_,?_,?_,?_⟩,⟨?_,?_⟩,⟨hP.db.c,hP.db.p,λu hu=>?_,hP.db.o,λk hk hkn=>?_⟩,au _ _ _,hP.pv,hP.cv,?_⟩
 ·simp only[cw]
  repeat rw[aJ]
 ·rw[au,q_ _ _ hv];congr 1;refine D6 ?_ λj hj hne=>by simp[im,ae,hne]
  show _=[XE (D.c v),ups (ups V (v+1,1) v1) (v+1,2+j) r (v+1,0),ups (ups V (v+1,1) v1) (v+1,2+j) r (v+1,1)];rw[hC,ae (by first| (simp;done)| (simp;omega)),ae (by first| (simp;done)| (simp;omega)),ae (by first| (simp;done)| (simp;omega)),au]
 ·rw[ae,ae];exact A.bn.ps u hu
 ·by_cases e:u=v
  ·subst e;rw[ae,au];show En.sl 1 _=En.sl 1 ((List.range (ups D.m u (j+1) u)).map _)/\ups D.m u (j+1) u<=1000;rw[au];refine⟨?_,by omega⟩;rw[Y,YF,YV];congr 2
   ·exact YZ λr' b=>by have:=X0.1 b;simp[KL,ae,show ¬r'=j by omega,show ¬2+r'=1 by omega]
   ·simp[KL,au]
  ·rw[ae,ae (by simp[e])];show E (u+1,1)=En.sl 1 ((List.range (ups D.m v (j+1) u)).map _)/\ups D.m v (j+1) u<=1000;rw[ae e];have:=A.bn.rs u hu;refine⟨?_,this.2⟩;rw[this.1];congr 1;exact YZ λr' _=>by simp[KL,ae,e]
 ·by_cases e:u=v
  ·subst e;have b:r'<ups D.m u (j+1) u:=b;rw[au]at b;show (ups D.R u (ups (D.R u) j l) u r').length<=1000/\((r'<D.o u/\_=En.sl 1 ((ups D.R u (ups (D.R u) j l) u r').map ci))\/Xu Xt 0 .nil (ups D.R u (ups (D.R u) j l) u r') _);rw[au]
   by_cases e2:r'=j
   ·subst e2;rw[au,au];exact⟨by omega,.inr hr⟩
   ·rw[ae e2,ae (by first| (simp;done)| (simp;omega)),ae (by first| (simp;done)| (simp;omega)),ae (by simp[e2]),ae (by first| (simp;done)| (simp;omega))];exact A.bn.rr u r' hu (by omega)
  ·have b:r'<ups D.m v (j+1) u:=b;rw[ae e]at b;show (ups D.R v (ups (D.R v) j l) u r').length<=1000/\((r'<D.o u/\_=En.sl 1 ((ups D.R v (ups (D.R v) j l) u r').map ci))\/Xu Xt 0 .nil (ups D.R v (ups (D.R v) j l) u r') _);rw[ae e,ae (by first| (simp;done)| (simp;omega)),ae (by first| (simp;done)| (simp;omega)),ae (by simp[e]),ae (by simp[e])];exact A.bn.rr u r' hu b
 ·rw[ae,ae];exact A.vb
 ·rw[ae,ae,ae,ae];exact A.bx
 ·simp only[WS];rw[fb2 0 (by omega)];simp;rw[fb1 0 (by omega),aJ,A.h0]
 ·simp only[WS];rw[fb2 1 (by omega)];simp;rw[fb1 1 (by omega),aJ,A.h1]
 ·rw[ae,ae];exact hP.pb.1
 ·rw[ae,ae];exact hP.pb.2
 ·show ups D.m v (j+1) u<=64
  by_cases e:u=v
  ·rw[e,au];omega
  ·rw[ae e];exact hP.db.m u hu
 ·show D.P (num k)=[]/\ups D.m v (j+1) (num k)=0;rw[ae (hvi k hk hkn)];exact hP.db.f k hk hkn
 ·have B:=hP.ok;refine⟨B.s,B.a,λk hk=>?_,λu r' hu b=>?_⟩
  ·show ((ups D.m v (j+1) (num k):Nat):Int)=_;rw[ae (hvl k hk)];exact B.w k hk
  ·show RE gr (D.c u) (ups D.R v (ups (D.R v) j l) u r');have b:r'<ups D.m v (j+1) u:=b
   by_cases e:u=v
   ·rw[e,au]at b ⊢
    by_cases e2:r'=j
    ·rw[e2,au,hC];exact M
    ·rw[ae e2];exact B.r v r' hv (by omega)
   ·rw[ae e]at b ⊢;exact B.r u r' hu b
def L9{n v:Nat}(hv:v<n)(hp:∀y∈D.P v,0<=y/\y<n):EP (IO ⟨gr,(List.range n).map D.node⟩) (D.P v)=(D.P v).map λy=>D.c y.toNat:=by
 unfold EP IO;refine YZ λy hy=>?_;have:=hp y hy;rw[abV];have h:y.toNat<n:=by omega
 simp[h,ND.node]
theorem D1{n v:Nat}(hv:v<n)(hc:∀u,u<n->D.c u=2\/D.c u=3)(hp:(D.P v).length<=3/\∀y∈D.P v,0<=y/\y<n):(∀c∈(D.P v).map λy=>D.c y.toNat,1<=c/\c<=4)/\1<=p8 (D.P v) D.c/\p8 (D.P v) D.c<=64:=by
 have h1:∀c∈(D.P v).map λy=>D.c y.toNat,1<=c/\c<=4:=λc h=>by obtain⟨y,k,rfl⟩:=Ys.1 h;have:=hp.2 y k;have:=hc y.toNat (by omega);omega
 have h2:=cH h1;have h3:=lV (a:=((D.P v).map λy=>D.c y.toNat).length) (b:=3) (by simpa using hp.1);have h4:(4:Int) ^ 3=64:=by decide
 refine⟨h1,h2.1,?_⟩;unfold p8;omega
structure DRw (r0 Wj:List AV) (n q i p v j:Nat) (gr:Int) (r5:AV) (num:Nat->Nat) (P0:List Int) (c0:Nat->Int) (t:T) (g:G):Prop where
 st:St t (RJ n q i p v r5)
 hd:∃V E D,DQ r0 Wj n q i p v j gr r5 num P0 c0 g V E D
def Ur[Xr]{n q p v:Nat}{y1 y2:UInt8}{W:List UInt8}{num:Nat->Nat}{P0:List Int}{c0:Nat->Int}(hd:0<d)(hn:1<=n/\n<=5)(hv:v<n)(hvi:∀k,i<k->k<n->num k≠v)(hvl:∀k,k<i->num k≠v)(hgr:0<=gr/\gr<=60)(hwv:Xu Xt kk .nil W wv)
  (h0:DRw r0 [Xc y1,Xc y2,wv] n q i p v 0 gr r5 num P0 c0 t g) (U4:Xs t 15=XE 0)
  (fin:∀(t:T) (g:G) (j:Nat),(j:Int)=p8 P0 c0->DRw r0 [Xc y1,Xc y2,wv] n q i p v j gr r5 num P0 c0 t g->Q (.exit 8) t [] g):VY (wp C0 d none fV) Q t [] g:=by
 have X:1<=p8 P0 c0/\p8 P0 c0<=64:=by obtain⟨-,V,E,D,a⟩:=h0;have:=(D1 hv a.db.c (a.db.p v hv)).2;rw[a.pv,a.cv]at this;exact this
 obtain⟨M,o⟩:=XU (show 0<=p8 P0 c0 by omega);obtain⟨FR,m⟩:∃FR,FR=Eo:=⟨_,rfl⟩;simp only[fV];rw[show (SC.W6 [0,1,0,0,8,0,56,120,248,0,512,0,2048,0,14336,30720,63488,0,131072,0,0,1048576,0,7340032,15728640,32505856,66060288,133693440,268434944,536870400,1073741816,2147483647,4294967295,8589934591] [oF 153 1 4,oL 154 153,oM 155 12,oF 156 1 4,oL 157 156,oM 158 12,Wb 159 3 157 158,oF 160 2 159,oL 161 160,oF 162 0 4,oL 163 162,oF 164 1 4,oL 165 164,oM 166 12,Wb 167 3 165 166,oF 168 0 167,oL 169 168,oF 170 2 11,oL 171 170,oM 172 15,oF 173 1 4,oL 174 173,oM 175 12,Wb 176 3 174 175,oF 177 0 176,oL 178 177,oA 179 178,Xk 180 .mul 172 179,QG 181 50 163 169 171 180,PL 182 181,acq 183 1 24 161 182,Wb 184 3 154 155,oF 185 2 184,W8 1 185 183])=FR from m.symm];refine aU M (by omega) (λj t df g=>df=[]/\DRw r0 [Xc y1,Xc y2,wv] n q i p v j gr r5 num P0 c0 t g) ⟨rfl,h0⟩ U4 (by decide) ?_ ?_ ?_ ?_
 ·rintro j t df g w s (rfl|rfl|rfl) ⟨a1,⟨b1,b2,H,I,J,K,L,N,-⟩,c⟩<;>exact⟨a1,by simp[St,RJ,sx,b1,b2,H,I,J,K,L,N],c⟩
 ·rintro j t df g O ⟨rfl,⟨h1,h2,h3,h4,h5,Xp,e,b,-⟩,V,E,D,a⟩ U4;obtain⟨kq,R,U⟩:=a.dn.q (.inl rfl);have f:=a.dn.bn.XD a.dn.hp (λk h=>.inl h) (by omega) (by omega);have u:WG (⟨gr,(List.range n).map D.node⟩:Xb) (λj=>2<=j) 0 g.h (.agg [XE gr,V (0,0)]):=⟨_,rfl,dh.2 ⟨_,rfl,f⟩⟩;have l:=a.db.p v hv;obtain⟨r,er,hr⟩:=A9 (d:=d) (g:=g) (i:=v) (x:=D.node v) hd u (by simp;omega) (by simp[hv]) (by show (D.P v).length<_;omega) (λy hy=>by have:=l.2 y hy;simp;omega);have z:=L9 (gr:=gr) hv l.2;have hb:=D1 hv a.db.c l;have A:=Af (d:=d) (g:=g) hd (hr.sl g.h);have C:vI (EP (IO ⟨gr,(List.range n).map D.node⟩) (D.node v).XA)=(M:Int):=by show vI (EP (IO ⟨gr,(List.range n).map D.node⟩) (D.P v))=(M:Int);rw[z,gE hb.1 (by simp;omega),<-o,p8,<-a.pv,<-a.cv]
  rw[C]at A;simp only[sz,simprocAttr,U4,h4,kq,b,er,A];exact⟨by simp[St,RJ,sx,h1,h2,h3,h4,h5,Xp,e,b],V,E,D,a⟩
 ·rintro j t df g O ⟨rfl,⟨h1,h2,h3,h4,h5,Xp,e,b,-⟩,V,E,D,a⟩ U4;rw[m];refine Sw (n:=n) (q:=q) (i:=i) (p:=p) (v:=v) (j:=j) (r5:=r5) (num:=num) hd hn hv hvi hvl (by omega) hgr hwv h4 e b U4 a ?_;intro t' g' V' E' D' F B;have hs:∀s,s<153->Xs t' s=Xs t s:=λs h=>F s (.inl h);rw[GX];exact⟨⟨rfl,by simp[St,RJ,hs,h1,h2,h3,h4,h5,Xp,e,b],V',E',D',B⟩,by rw[hs 15 (by omega),U4]⟩
 ·rintro t df g ⟨rfl,h⟩;exact fin t g M o.symm h
structure DBl (D:ND) (n i:Nat) (num:Nat->Nat):Prop where
 c:∀u,u<n->D.c u=2\/D.c u=3
 p:∀u,u<n->(D.P u).length<=3/\∀y∈D.P u,0<=y/\y<n
 m:∀u,u<n->D.m u<=64
 o:∀u,D.o u=0
 f:∀k,i<=k->k<n->D.P (num k)=[]/\D.m (num k)=0
structure DL (r0:List AV) (n q:Nat) (gr:Int) (r5:AV) (num:Nat->Nat) (i:Nat) (t:T) (g:G):Prop where
 st:St t (Tf n q r5)
 hd:∃V E D,DN X1 r0 n q 1000 gr V E D g/\DBl D n i num/\DOk gr D n i num
def bq3{n:Nat}:∀k,OS X1 n D k->OS X2 n D k:=λk h=>by
 rcases h with h|h
 ·exact .inl h
 ·exact .inr (.inl h)
theorem bq2[Xr]{n q:Nat}{x:yg}{a b:AV}{num:Nat->Nat}(hd:0<d)(hgr:0<=gr/\gr<=60)(hn:1<=n/\n<=5)(ha:Xu Xt kk .nil x.2.1 a)(h5:IT 0 pl r5)(hN:Sm n pl num)
  (h0:DL [Xc x.1,a,b] n q gr r5 num 0 t g) (Xp:Xs t 10=XE 0)
  (fin:∀t g,DL [Xc x.1,a,b] n q gr r5 num n t g->Q (.exit 2) t [] g):VY (wp C0 d none fC) Q t [] g:=by
 obtain⟨pr,r1,r2,r3,r4⟩:=ha.all;have r1:∀h',ak h' 3 a=some pr:=r1;have la:=ha.len;have hc:=ha.1;have h9:∀h,ak h 1 r5=some (pl.map ci):=λh=>(h5.sl h).ints;simp only[fC,kX];refine aU n (by omega) (λj t df g=>df=[]/\DL [Xc x.1,a,b] n q gr r5 num j t g) ⟨rfl,h0⟩ Xp (by decide) ?_ ?_ ?_ ?_
 ·rintro j t df g v s (rfl|rfl|rfl) ⟨a1,⟨b1,b2,b3,b4,b5,-⟩,c3⟩<;>exact⟨a1,by simp[St,Tf,sx,b1,b2,b3,b4,b5],c3⟩
 ·rintro j t df g I ⟨rfl,⟨h1,h2,h3,h4,h5,-⟩,B⟩ Xp;simp only[sz,simprocAttr,Xp,h3];exact⟨by simp[St,Tf,sx,h1,h2,h3,h4,h5],B⟩
 ·rintro j t df g I ⟨rfl,⟨h1,h2,h3,h4,l,-⟩,V,E,D,B,hb,Z⟩ Xp;obtain⟨p,hp⟩:∃p,p=g.nx:=⟨_,rfl⟩;have he:=B.hp.nx;refine jR (P:=λt' df g'=>df=[]/\g'=g.new (Xy 3 [[.int .u8 0,.int .u8 0,.XC]])/\St t' ((10,XE (j:Int))::(11,Xq p)::Tf n q r5)) ?_ ?_
  ·simp only[sz,simprocAttr];simp[St,Tf,sx,h1,h2,h3,h4,l,Xp,hp]
  clear h1 h2 h3 h4 l Xp;rintro t df g1 ⟨rfl,H,⟨Xp,A,h1,h2,h3,h4,l,-⟩⟩;have f1:Fr g g1:=by rw[H];exact Fr.new _ _
  have R:g1.h.get p=Xy 3 [[.int .u8 0,.int .u8 0,.XC]]:=by rw[H,hp];simp[VO]
  have n1:p<g1.nx:=by rw[H,hp];simp
  clear H;have L:=B.same f1;have e0:=L.h0;refine jR (P:=λt' df g'=>df=[]/\Fr g g'/\St t' ((10,XE (j:Int))::(11,Xq p)::Tf n q r5)/\p<g'.nx/\∃(S U:UInt8) (W:List UInt8) (wv:AV),Xu Xt kk .nil W wv/\g'.h.get p=Xy 3 [[Xc S,Xc U,wv]]) ?_ ?_
  ·simp only[sz,simprocAttr,Xp,h1,e0,la];refine bk (λhb=>?_) (λhb=>?_)
   ·have hb:j<x.2.1.length:=by simpa using hb
    obtain⟨y,X,-,-⟩:=af hb;obtain⟨row,q1,q2⟩:=r3 j y X;obtain⟨wv,rfl,K⟩:=Gb.1 q2;have hlt:j<pr.length:=by omega
    have hf:=r4 (by omega);simp only[sz,simprocAttr,Xp,h1,e0,r1,hlt,q1,A,R];refine⟨?_,by simp[St,Tf,sx,h1,h2,h3,h4,l,Xp,A],by simpa using n1,y.1,y.2.1,y.2.2,wv,K,by simp[VO]⟩;exact⟨Ya f1.1 (by simp),λi hi=>by simp[VO,show ¬i=p by omega];exact f1.2 i hi⟩
   ·simp only[sx,sy];exact⟨f1,by simp[St,Tf,sx,h1,h2,h3,h4,l,Xp,A],n1,0,0,[],.XC,⟨by show 0<2^63;decide,rfl⟩,R⟩
  clear h1 h2 h3 h4 l Xp A e0 L R n1 f1;rintro t df g2 ⟨rfl,f2,⟨Xp,A,h1,h2,h3,h4,l,-⟩,n2,S,U,W,wv,K,R⟩;have hH:=B.hp.add (g':=g2) (k:=(0,2)) (L':=OS X2 n D) (v':=Xq p) (e':=.bx [Xc S,Xc U,wv]) (by
   rintro (h|h)
   ·rcases h with h|⟨i',q',h,-,-⟩<;>simp at h
   ·simp[X1]at h) ⟨p,by omega,n2,rfl,R⟩ f2.1 (λi _ hi=>f2.2 i hi) (λi hi=>by injection hi with hi;omega) (λk hk=>by
   rcases hk with h|h|h
   ·exact .inl (.inl h)
   ·exact .inl (.inr h)
   ·exact .inr h)
  have O:=hb.f j (XH _) I;have h8:=hN.lt j I;have h6:∀k,j<k->k<n->num k≠num j:=λk h1 h2 e=>by have:=hN.inj k j h2 I e;omega
  have h7:∀k,k<j->num k≠num j:=λk h1 e=>by have:=hN.inj k j (by omega) I e;omega
  have N:DP [Xc x.1,a,b] [Xc S,Xc U,wv] n q j p (num j) gr r5 num g2 (ups V (0,2) (Xq p)) (ups E (0,2) (.bx [Xc S,Xc U,wv])) D:=by
   refine⟨⟨hH,⟨?_,λu hu=>?_,λu hu=>?_,λu r hu hr=>?_⟩,?_,?_,by rw[f2.2 0 (by omega),B.h0],by rw[f2.2 1 (by omega),B.h1]⟩,⟨au _ _ _,au _ _ _⟩,⟨hb.c,hb.p,hb.m,hb.o,λk h1 h2=>hb.f k (by omega) h2⟩,O.2,Z⟩
   ·rw[ae,B.bn.ns];exact congrArg (En.sl 3) (YZ λu _=>by simp[im,ae])
   ·rw[ae];exact B.bn.ps u hu
   ·rw[ae];have:=B.bn.rs u hu;refine⟨?_,this.2⟩;rw[this.1];exact congrArg (En.sl 1) (YZ λr _=>by simp[KL,ae])
   ·rw[ae,ae];exact B.bn.rr u r hu hr
   ·rw[ae];exact B.vb
   ·rw[ae,ae];exact B.bx
  have u1:j<(pl.map ci).length:=by rw[XN,hN.len];exact I
  have u2:(pl.map ci)[j]?=some (ci (num j:Int)):=by rw[XK,hN.at_ j I];rfl
  simp only[sz,simprocAttr,kW,l,Xp,h9,u1,u2,ci];refine Uq (n:=n) (q:=q) (i:=j) (p:=p) (v:=num j) (r5:=r5) (num:=num) hn h5 hN I rfl ⟨by simp[St,RJ,sx,h1,h2,h3,h4,l,Xp,A],_,_,_,N,λy X=>by rw[O.1]at X;simp at X⟩ (by simp[sx]) ?_;clear h1 h2 h3 h4 l Xp A N hH;rintro t g3 ⟨⟨h1,h2,h3,h4,l,Xp,A,J,-⟩,V3,E3,D3,C,-⟩;simp only[sz,simprocAttr,mr];refine Ur (n:=n) (q:=q) (i:=j) (p:=p) (v:=num j) (r5:=r5) (num:=num) (P0:=D3.P (num j)) (c0:=D3.c) hd hn h8 h6 h7 hgr K ⟨by simp[St,RJ,sx,h1,h2,h3,h4,l,Xp,A,J],V3,E3,D3,C.dn,C.pb,C.db,C.mv,rfl,rfl,C.ok⟩ (by simp[sx]) ?_;clear h1 h2 h3 h4 l Xp A J C;rintro t g4 M Y ⟨⟨h1,h2,h3,h4,l,Xp,A,J,-⟩,V4,E4,D4,z⟩;simp only[sx,sy,↓reduceIte];have F:=z.dn;refine⟨⟨by simp[St,Tf,h1,h2,h3,h4,l],V4,E4,D4,⟨F.hp.sub bq3,F.bn,F.vb,F.bx,F.h0,F.h1⟩,⟨z.db.c,z.db.p,z.db.m,z.db.o,λk hk hkn=>z.db.f k hk hkn⟩,⟨z.ok.s,z.ok.a,λk hk=>?_,z.ok.r⟩⟩,Xp⟩
  by_cases e:k=j
  ·rw[e,z.mv,z.pv,z.cv,Y]
  ·exact z.ok.w k (by omega)
 ·rintro t df g ⟨rfl,h⟩;exact fin t g h
structure SK (m:Xb):Prop where
 l:1<=m.XD.length/\m.XD.length<=5
 c:∀x∈m.XD,x.Xx=2\/x.Xx=3
 b:∀x∈m.XD,x.XA.length<=1000/\x.rows.length<=1000/\∀r∈x.rows,r.length<=1000
 nr:NR m
def bq1{n:Int}(hs:l.Pairwise (·<·))(hb:∀y∈l,0<=y/\y<n):CY l n=true:=by
 simp only[CY,zj,XQ,X0,XM,YE,X9,beq_iff_eq];intro i hi;obtain⟨x,hx⟩:∃x,l[i]?=some x:=⟨_,XJ hi⟩;have:=hb x (XL hx);rw[hx,XP];refine⟨this,?_⟩
 by_cases e:i=0
 ·exact .inl e
 ·right;obtain⟨y,h⟩:∃y,l[i - 1]?=some y:=⟨_,XJ (by omega)⟩;rw[h,XP];have h1:=(XI.1 hx).2;have h2:=(XI.1 h).2;rw[<-h1,<-h2];exact List.pairwise_iff_getElem.1 hs (i - 1) i (by omega) hi (by omega)
def Qi(num:Nat->Nat):Nat->Nat
 |0=>0
 |k+1=>Qi num k ||| w8 (num k)
def G8{n:Nat}{pl:List Int}{num:Nat->Nat}(hN:Sm n pl num)(hn:n<=64)(v:Nat):∀k,k<=n->((Qi num k).testBit v=true↔∃k',k'<k/\num k'=v)
 |0,_=>by simp[Qi]
 | k+1,hk=>by
  have hlt:=hN.lt k (by omega);rw[Qi,wR,CO (by omega),YE,X9,G8 hN hn v k (by omega)];constructor
  ·rintro (⟨k',h1,h2⟩|h)
   ·exact⟨k',by omega,h2⟩
   ·exact⟨k,by omega,h⟩
  ·rintro⟨k',h1,h2⟩
   by_cases e:k'=k
   ·subst e;exact .inr h2
   ·exact .inl ⟨k',by omega,h2⟩
theorem bq0{n:Nat}{num:Nat->Nat}(hN:Sm n pl num)(hn:1<=n/\n<=5)(hgr:1<=gr/\gr<=60)(hb:DBl D n n num)(hok:DOk gr D n n num):NR ⟨gr,(List.range n).map D.node⟩:=by
 have hcl:(IO ⟨gr,(List.range n).map D.node⟩)=(List.range n).map D.c:=by unfold IO;rw[abV];rfl
 refine⟨hgr.1,hgr.2,by simpa using hn.1,by simp;omega,λx hx=>?_,λx hx=>?_,?_,?_,λx hx=>?_,λx hx r hr=>?_⟩
 ·obtain⟨u,hu,rfl⟩:=Ys.1 hx;have:=hb.c u (X0.1 hu);show 1<=D.c u/\D.c u<=4;omega
 ·obtain⟨u,hu,rfl⟩:=Ys.1 hx;have hu:=X0.1 hu;refine bq1 (hok.s u hu) λy hy=>?_;have:=(hb.p u hu).2 y hy;simpa using this
 ·rw[hcl];have h1:∀c∈(List.range n).map D.c,1<=c/\c<=4:=λc hc=>by obtain⟨u,hu,rfl⟩:=Ys.1 hc;have:=hb.c u (X0.1 hu);omega
  have h2:=cH h1;have h3:=lV (a:=((List.range n).map D.c).length) (b:=5) (by simpa using hn.2);have h4:(4:Int) ^ 5=1024:=by decide
  omega
 ·have e:(BQ ⟨gr,(List.range n).map D.node⟩).length=n:=by simp[BQ]
  have d:∀v,v<n->OH (BQ ⟨gr,(List.range n).map D.node⟩) v=BL (D.P v):=λv hv=>by simp[OH,BQ,hv,ND.node]
  have h:∀k,k<=n->MT (BQ ⟨gr,(List.range n).map D.node⟩) (Qi num k):=λk=>by
   induction k with
   |zero=>exact λ_=>FN
   | succ k ih =>intro hk;have hlt:=hN.lt k (by omega);refine Iq (ih (by omega)) (by omega) λu hu=>?_;rw[d _ hlt]at hu;have hu:=(G3 λx hx=>by have:=(hb.p _ hlt).2 x hx;omega).1 hu;obtain⟨k',h1,h2⟩:=hok.a k (by omega) _ hu;exact (G8 hN (by omega) u k (by omega)).2 ⟨k',h1,by omega⟩
  refine za (h n (XH _)) λv hv=>?_;rw[e]at hv;exact (G8 hN (by omega) v n (XH _)).2 (hN.sur v hv)
 ·obtain⟨u,hu,rfl⟩:=Ys.1 hx;have hu:=X0.1 hu;obtain⟨k,hk,rfl⟩:=hN.sur u hu;show (((List.range (D.m (num k))).map (D.R (num k))).length:Int)=EO (EP _ (D.P (num k)));rw[L9 hu (hb.p _ hu).2];have:=hok.w k hk;unfold p8 at this;rw[<-this];simp
 ·obtain⟨u,hu,rfl⟩:=Ys.1 hx;have hu:=X0.1 hu;obtain⟨r',f,rfl⟩:=Ys.1 hr;exact hok.r u r' hu (X0.1 f)
def bp_:VS:=λP k h v=>∃m:Xb,SK m/\WG m P k h v
def V0(W:AV)(q:Nat):Ky->AV:=λk=>match k with
 | (0,0)=>W
 | (0,1)=>Xq q
 |_=>.XC
def E0(W:AV)(n:Nat)(gr:Int):Ky->En:=λk=>match k with
 | (0,0)=>.sl 3 (List.replicate n [XE 0,.XC,.XC])
 | (0,1)=>.bx [XE gr,W]
 |_=>.sl 1 []
def D0:ND:=⟨λ_=>0,λ_=>[],λ_=>0,λ_ _=>[],λ_=>0⟩
def hp0{n q:Nat}(hW:Own g 2 W 3 (List.replicate n [XE 0,.XC,.XC]))(hq:g.h.get q=Xy 2 [[XE gr,W]])(h2:2<=q/\q<g.nx)(hne:W5 W≠some q):Hp g 2 (OS X1 n D0) (V0 W q) (E0 W n gr):=by
 have hk:∀k,OS X1 n D0 k->k=(0,0)\/k=(0,1)\/∃i s,k=(i+1,s):=λk h=>by
  rcases h with h|h
  ·rcases h with h|⟨i,s,h,-⟩
   ·exact .inl h
   ·exact .inr (.inr ⟨i,s,h⟩)
  ·exact .inr (.inl h)
 refine⟨λk h=>?_,λk l h h' hkl id h1 h3=>?_,by omega⟩
 ·rcases hk k h with rfl|rfl|⟨i,s,rfl⟩
  ·exact hW
  ·exact⟨q,h2.1,h2.2,rfl,hq⟩
  ·exact .inl ⟨rfl,rfl⟩
 ·rcases hk k h with rfl|rfl|⟨i,s,rfl⟩<;>rcases hk l h' with rfl|rfl|⟨i',s',rfl⟩
  ·exact hkl rfl
  ·have h1:MX W=some id:=h1;have h3:some q=some id:=h3;rw[cJ hW]at h1;cases h3;exact hne h1
  ·cases h3
  ·have h3:MX W=some id:=h3;have h1:some q=some id:=h1;rw[cJ hW]at h3;cases h1;exact hne h3
  ·exact hkl rfl
  ·cases h3
  ·cases h1
  ·cases h1
  ·cases h1
def bp9{x:Int}(h:w.cells=[w])(h2:w.isTup=false):d_ [XE 0,.XC] [((0,1),XE x),((1,1),w)]=some [XE x,w]:=by
 have k:(XE x).cells=[XE x]:=rfl;have k2:(XE x).isTup=false:=rfl;simp[d_,h,h2,gc,k,k2]
 rfl
def bp8{a b:AV}(ha:a.cells=[a]/\a.isTup=false)(hb:b.cells=[b]/\b.isTup=false):d_ [.XC,.int .u16 0,.XC] [((0,1),a),((2,1),b)]=some [a,.int .u16 0,b]:=by
 simp[d_,ha,hb,gc]
 rfl
theorem LE[Xr]{v:AV}{x:yg}(hd:0<d)(hm:WG x P k g.h v):∃r,ah C0 d 15 [v] g=.val r/\bp_ Xt 0 .nil r:=by
 obtain⟨v',e,cs,rfl,hc⟩:=mK (di x) (by decide) d hm;obtain⟨a,b,rfl,ha,hb⟩:=Bb.1 hc;have ha:=ha.tree (h':=.nil) (XH _);have hb:=hb.tree (h':=.nil) (XH _);rw[WL];refine aP yC (xs:=[.agg [Xc x.1,a,b]]) (by simp only[aD,e]) (by simp[kj]) (qw λm=>di _) (by decide) hd ?_;simp only[sz,simprocAttr,kj];obtain⟨g0,hg0⟩:∃g0,g0=(G.empty.new (Xy 3 [[Xc x.1,a,b]])).new (Xy 2 [[XE 0,.XC]]):=⟨_,rfl⟩;rw[<-hg0];have f0:g0.h.get 0=Xy 3 [[Xc x.1,a,b]]:=by rw[hg0];simp[sx,VO]
 have f1:g0.h.get 1=Xy 2 [[XE 0,.XC]]:=by rw[hg0];simp[sx]
 have f2:g0.nx=2:=by rw[hg0];simp[sx]
 clear hg0;have la:=ha.len;have X:=ha.1;unfold nm;obtain⟨n,hn,w⟩:∃n:Nat,n=min (max x.2.1.length 1) 5/\1<=n/\n<=5:=⟨_,rfl,by omega⟩;refine jR (P:=λt' df g'=>df=[]/\g'=g0/\St t' [(1,Xq 0),(2,Xq 1),(3,XE (n:Int))]) ?_ ?_
 ·simp only[sz,simprocAttr,f0,la];simp[St,sx];omega
 rintro t df g1 ⟨rfl,rfl,h1,h2,h3,-⟩;obtain⟨gr,N,M⟩:∃gr:Int,gr=1+(x.1.toNat:Int) % 60/\0<=gr/\gr<=60:=⟨_,rfl,by omega,by omega⟩;have q1:=ef .u8 (a:=(x.1.toNat:Int)) (b:=60) (by omega) (by omega);have w1:IntKind.wrap .i64 ((x.1.toNat:Int) % 60)=(x.1.toNat:Int) % 60:=an;have w2:IntKind.wrap .i64 (1+(x.1.toNat:Int) % 60)=gr:=by rw[N,an]
 refine jR (P:=λt' df g'=>df=[]/\∃q V E D,St t' [(1,Xq 0),(2,Xq 1),(3,XE (n:Int)),(4,Xq q)]/\DN X1 [Xc x.1,a,b] n q 1000 gr V E D g'/\(∀u,D.P u=[]/\D.m u=0/\D.o u=0)) ?_ ?_
 ·simp only[sz,simprocAttr,sf,h1,h3,f0,Xc,q1,w1,w2];refine s_ (b:=2) (n:=n) (by unfold aH;omega) (by unfold aH;omega) (by first| (simp;done)| (simp;omega)) λW g2 hW n2 f2' vW lg2=>?_;simp only[sy]at n2 f2' vW lg2;simp only[sz,simprocAttr,sf,bp9 hW.cell.1 hW.cell.2,lg2];have h6:g1.nx+7=g2.nx:=by omega
  have Y:g2.h.get 0=Xy 3 [[Xc x.1,a,b]]:=by rw[f2' 0 (by omega),f0]
  have Z:g2.h.get 1=Xy 2 [[XE 0,.XC]]:=by rw[f2' 1 (by omega),f1]
  refine⟨?_,g2.nx+1+1,V0 W (g2.nx+1+1),E0 W n gr,D0,by simp[St,sx,h1,h2,h3],⟨hp0 ?_ ?_ ⟨by omega,by simp⟩ ?_,⟨?_,λu _=>⟨rfl,by show 0<=1000;omega⟩,λu _=>⟨rfl,by show 0<=1000;omega⟩,λu r _ hr=>by cases hr⟩,rfl,rfl,?_,?_⟩,λu=>⟨rfl,rfl,rfl⟩⟩
  ·simp only[X7,X8,X3,XY,G.new_lg,G.put_lg,Vb];refine aE (OQ (KI (true::(false::(true::(true::[])))))) [(0,6),(1,6),(2,6),(3,6),(4,6),(0,8),(1,8),(2,8),(3,8),(4,8),(5,8),(6,8),(7,8)] (by simp[Xl,am,aC]) (by decide) ?_;rintro p s x y hx l;simp only[Yh,Yc,ZQ]at s;rcases s with rfl|rfl|rfl|rfl|rfl|rfl|rfl|rfl|rfl|rfl|rfl|rfl|rfl<;>(simp at hx l;subst hx;subst l;refine cK rfl rfl rfl rfl ?_ ?_ ?_<;>simp[am,aC,aw]<;>omega)
  ·refine hW.fr (by simp;omega) λi hi=>?_;have:=qA vW hi;simp[VO,show ¬i=g2.nx+1+1 by omega]
  ·simp[VO]
  ·intro e;have:=qA vW e;omega
  ·show En.sl 3 (List.replicate n [XE 0,.XC,.XC])=En.sl 3 ((List.range n).map λ_=>[XE 0,.XC,.XC]);congr 1;rw[List.map_const',abU]
  ·simp[VO,Y];rfl
  ·simp[VO,Z]
 clear h1 h2 h3;rintro t df g2 ⟨rfl,q,V,E,D,⟨h1,h2,h3,h4,-⟩,J,A⟩;obtain⟨num,hN⟩:=Us x.2.2 n;refine jR (P:=λt' df g'=>df=[]/\Fr g2 g'/\∃r5,IT 0 (AC x.2.2 n) r5/\St t' (Tf n q r5)) ?_ ?_
 ·simp only[sz,simprocAttr,sf,h3];refine s_ (b:=2) (n:=n) (by unfold aH;omega) (by unfold aH;omega) (by have:=J.hp.nx;first| (simp;done)| (simp;omega)) λU g3 hU n3 C vU lg3=>?_;simp only[sy]at n3 C vU lg3;have e0:g3.h.get 0=Xy 3 [[Xc x.1,a,b]]:=by rw[C 0 (by have:=J.hp.nx;omega),J.h0]
  simp only[sz,simprocAttr,sf,h1,e0,bp8 hU.cell hb.cell];have L:Own g3 2 U 1 ((List.replicate n (0:UInt8)).map λy=>[Xc y]):=by simpa [Xc] using hU
  have Q:∀B:G,B.h=g3.h->∃r,ah C0 (d+1) 47 [.agg [U,.int .u16 0,b]] B=.val r/\IT 0 (AC x.2.2 n) r:=λB h=>by
   have:=Ee (d:=d+1) (g:=B) (k:=max k d) (P:=λ_=>True) (x:=(List.replicate n (0:UInt8),(0:UInt16),x.2.2)) (v:=.agg [U,.int .u16 0,b]) (XR d) ⟨_,rfl,xE.2 ⟨U,b,rfl,?_,?_⟩⟩
   ·have e:min (List.replicate n (0:UInt8)).length 5=n:=by simp;omega
    rw[e]at this;exact this
   ·rw[h];exact Own.sl (α:=UInt8) L (by simp;omega) (VJ (λy=>ea.2 rfl) _) λ_ _=>trivial
   ·exact (hb.tree (h':=B.h) (XH _)).wd λ_ h=>h.elim
  refine aG (Q _ (by simp)) λr hr=>?_;simp only[sz,simprocAttr,sf,m8];refine⟨?_,⟨?_,λi hi=>?_⟩,r,hr,?_⟩
  ·simp only[X7,X8,X3,XY];refine aE (false::(true::(false::(KI [])))) [(1,2),(1,3)] (by simp[Xl,am,aC]) (by decide) ?_;rintro p s x y hx l;simp only[Yh,Yc,ZQ]at s;rcases s with rfl|rfl<;>(simp at hx l;subst hx;subst l;refine cK rfl rfl rfl rfl ?_ ?_ ?_<;>simp[am,aC,aw,lg3])
  ·simp;omega
  ·simp;exact C i (by omega)
  ·simp[St,Tf,sx,h1,h2,h3,h4]
 clear h1 h2 h3 h4;rintro t df g3 ⟨rfl,C,r5,I,⟨h1,h2,h3,h4,h5,-⟩⟩;have F:=J.same C;simp only[sz,simprocAttr];refine Um (n:=n) (q:=q) (x:=x) (gr:=gr) (r5:=r5) (num:=num) w ha I hN ⟨by simp[St,Tf,sx,h1,h2,h3,h4,h5],⟨1,by simp[sx],by decide⟩,V,E,D,F,λv _=>⟨(A v).1,(A v).2.1⟩,λk hk=>by omega,λu=>(A u).2.2⟩ (by simp[sx]) ?_;clear h1 h2 h3 h4 h5 F;rintro t B ⟨⟨h1,h2,h3,h4,h5,-⟩,-,V4,E4,D4,K,f⟩;simp only[sz,simprocAttr,kZ];refine bq2 (n:=n) (q:=q) (x:=x) (gr:=gr) (r5:=r5) (num:=num) (XR d) M w ha I hN ⟨by simp[St,Tf,sx,h1,h2,h3,h4,h5],V4,E4,D4,K,⟨λu hu=>?_,λu hu=>?_,λu hu=>?_,?_,λk _ hk=>f.e _ (hN.lt k hk)⟩,⟨λu hu=>by rw[(f.e u hu).1];exact .nil,λk hk y l=>by rw[(f.e _ (hN.lt k hk)).1]at l;simp at l,λk hk=>by omega,λu r hu hr=>by rw[(f.e u hu).2]at hr;omega⟩⟩ (by simp[sx]) ?_
 ·obtain⟨k,hk,rfl⟩:=hN.sur u hu;exact f.c k hk
 ·rw[(f.e u hu).1];simp
 ·rw[(f.e u hu).2];omega
 ·exact f.o
 clear h1 h2 h3 h4 h5;rintro t g5 ⟨⟨h1,h2,h3,h4,h5,-⟩,V5,E5,D5,j,H,O⟩;obtain⟨kq,h7,h8⟩:=j.q rfl;simp only[sz,simprocAttr,kY,h4,kq,h2,j.h1];have z:=j.bn.XD j.hp (λk h=>.inl h) (by omega) (by omega);refine⟨λ_=>True,⟨gr,(List.range n).map D5.node⟩,⟨by simpa using w,λy l=>?_,λy l=>?_,bq0 hN w (by omega) H O⟩,⟨_,rfl,dh.2 ⟨_,rfl,z.wd λi hi=>⟨trivial,by simp[VO,show ¬i=1 by omega]⟩⟩⟩⟩
 ·obtain⟨u,hu,rfl⟩:=Ys.1 l;exact H.c u (X0.1 hu)
 ·obtain⟨u,hu,rfl⟩:=Ys.1 l;have hu:=X0.1 hu;refine⟨(j.bn.ps u hu).2,?_,λr hr=>?_⟩
  ·show ((List.range (D5.m u)).map (D5.R u)).length<=1000;simpa using (j.bn.rs u hu).2
  ·obtain⟨r',T,rfl⟩:=Ys.1 hr;exact (j.bn.rr u r' hu (X0.1 T)).1
def EvV(n:Xb):VS:=λP k h v=>∃l:List Int,zq n l=true/\One l P k h v
def bp7(n:Xb):Q6 (EvV n) 0:=by
 refine⟨λ{P k h v n} d r hn=>?_,λ{k h v n} r hn=>?_⟩
 ·let⟨m,hm,r⟩:=r;let⟨v',e,r'⟩:=(aI m).Xm d r hn;exact⟨v',e,m,hm,r'⟩
 ·let⟨m,hm,r⟩:=r;exact (aI m).tag r hn
def evP(n:Xb)(l:List Int):Prop:=∀(i:Nat) (x:Int) (c:Node),l[i]?=some x->n.XD[i]?=some c->-1<=x/\x<c.Xx
def bp6{n:Xb}(hl:l.length=n.XD.length)(h:evP n l):zq n l=true:=by simp only[zq,XM,X9,XQ,X0];refine⟨hl,λi hi=>?_⟩;obtain⟨x,hx⟩:∃x,l[i]?=some x:=⟨_,XJ hi⟩;obtain⟨c,hc⟩:∃c,n.XD[i]?=some c:=⟨_,XJ (by omega)⟩;have:=h i x c hx hc;simpa [IO,hx,hc] using this
def bp5[Xr]{m:Xb}{vs:List UInt8}(hd:0<d)(hv:vs.length=9)(hm:WG m P k g.h w)(hn:m.XD.length<=8)(hc:∀x∈m.XD,0<x.Xx) :
  ∃r,ah C0 d 31 [.agg (vs.map Xc),w] g=.val r/\EvV m Xt 0 .nil r:=by
 obtain⟨v',e,cs,rfl,D⟩:=mK (di m) (by decide) d hm;obtain⟨b,rfl,hN⟩:=dh.1 D;obtain⟨rows,N,r2,W,Y⟩:=hN.all;have N:∀h',ak h' 3 b=some rows:=N;rw[WL];refine aP zE (xs:=[.agg (vs.map Xc),.agg [XE m.Xz,b]]) (by simp only[aD,e,Q8]) (by simp[lI]) (bp7 m) (by decide) hd ?_;obtain⟨cu8,n⟩:∃c,c=vs.map Xc:=⟨_,rfl⟩;have hcl:cu8.length=9:=by rw[n,XN,hv]
 simp only[sz,simprocAttr,lI,<-n];generalize hg0:((G.empty.new (Xy cu8.length [cu8])).new (Xy 2 [[AV.int IntKind.i64 m.Xz,b]]))=g0;have f0:g0.h.get 0=Xy 9 [cu8]:=by rw[<-hg0,hcl];simp[sx,VO]
 have f1:g0.h.get 1=Xy 2 [[XE m.Xz,b]]:=by rw[<-hg0];simp[sx]
 have f2:2<=g0.nx:=by rw[<-hg0];simp[sx]
 clear hg0;simp only[sz,simprocAttr,oB];refine aU m.XD.length (by omega) (λj t df g=>df=[]/\St t [(2,Xq 0),(3,Xq 1)]/\g.h.get 0=Xy 9 [cu8]/\g.h.get 1=Xy 2 [[XE m.Xz,b]]/\2<=g.nx/\∃u L,Xs t 5=u/\L.length=j/\evP m L/\Own g 2 u 1 (L.map ci))
  ⟨rfl,by simp[sx,St],f0,f1,f2,_,[],rfl,rfl,λi x c hx=>by simp at hx,.inl ⟨by simp[sx],rfl⟩⟩ (by simp[sx]) (by decide) (by rintro j t df g v s (rfl|rfl|rfl)<;>simp[sx,St]) ?_ ?_ ?_
 ·rintro j t df g O ⟨rfl,⟨h2,h3,-⟩,e0,e1,p,u,L,h5,hu⟩ h6;simp only[sz,simprocAttr,h2,h3,h6,e0,e1,hN.len,St];exact⟨p,u,L,h5,hu⟩
 ·rintro j t df g O ⟨rfl,⟨h2,h3,-⟩,e0,e1,p,u,L,h5,f,o,hu⟩ h6;obtain⟨x,hx,S,hm⟩:=af O;obtain⟨row,z1,z2⟩:=W j x hx;obtain⟨fa,fb,rfl,-⟩:=cE.1 z2;have hlt:j<rows.length:=by omega
  have K:=Y (by omega);have I:j<8:=by omega
  obtain⟨Q,M⟩:∃y,vs[0]?=some y:=⟨_,XJ (by omega)⟩;have C:cu8[0]?=some (.int .u8 (Q.toNat:Int)):=by rw[n,XK,M];rfl
  obtain⟨y,U⟩:∃y,vs[1+j]?=some y:=⟨_,XJ (by omega)⟩;have F:cu8[1+j]?=some (.int .u8 (y.toNat:Int)):=by rw[n,XK,U];rfl
  have V:y.toNat<256:=y.toNat_lt;have E:=hc x hm;obtain⟨z,hz⟩:=Aw Q.toNat j;obtain⟨z',q⟩:=Av z 1;have q:cL .and (.int .u8 (z:Int)) (.int .u8 1)=.val (.int .u8 z'):=q;have Z:IntKind.wrap .i64 (y.toNat:Int)=(y.toNat:Int):=an;have w9:IntKind.wrap .u64 (j:Int)=(j:Int):=xJ (by omega) (by omega);have key:∀(t:T) (X:Int),-1<=X->X<x.Xx->St t [(2,Xq 0),(3,Xq 1),(5,u),(6,XE (j:Int)),(7,XE X)] ->
    wp C0 (d+1) none ic (λe t df g=>e=.norm/\(df=[]/\St t [(2,Xq 0),(3,Xq 1)]/\g.h.get 0=Xy 9 [cu8]/\g.h.get 1=Xy 2 [[XE m.Xz,b]]/\2<=g.nx/\∃u L,Xs t 5=u/\L.length=j+1/\evP m L/\Own g 2 u 1 (L.map ci))/\Xs t 6=XE (j:Int)) t [] g:=by
   rintro t X A B ⟨h2,h3,h5,h6,h7,-⟩;simp only[sz,simprocAttr,ic,h5,h7];refine aM (new:=[ci X]) (hu.step (Fr.new _ _)) (by simp[sx,sy,ci]) (by simp;omega) (by simp[aH,f];omega) λv2 g2 hv2 n2 f2 _ l2=>?_;simp only[sz,simprocAttr,h2,h3,h6,St];refine⟨?_,?_,?_,_,L++[X],rfl,by simp[f],?_,?_⟩
   ·rw[f2 0 (by simp) (λe=>by have:=(hu.lt e).1;omega),G.new_h,aq,e0]
   ·rw[f2 1 (by simp;omega) (λe=>by have:=(hu.lt e).1;omega),G.new_h,aq,e1]
   ·simp at n2;omega
   ·intro i a c ha l
    by_cases e:i=j
    ·subst e;rw[hx]at l;injection l with l;subst l;rw[<-f,Y0]at ha;injection ha with ha;subst ha;exact⟨A,B⟩
    ·have H:i<L.length:=by have:=(XI.1 ha).1;simp at this;omega
     rw[XW H]at ha;exact o i a c ha l
   ·simpa [ci] using hv2
  simp only[sz,simprocAttr,h2,h6,e0,C,w9,hz,q];refine bk (λhb=>?_) (λhb=>?_)
  ·have R:0<=(y.toNat:Int) % x.Xx:=aa5 _ (by omega);have J:(y.toNat:Int) % x.Xx<x.Xx:=aaF _ (by omega);simp only[sz,simprocAttr,h2,h3,h6,e0,e1,Va 8 1 _ _ _ _ _ I,Nat.mul_one,F,Z,N,hlt,z1,K,ef .i64 (show 0<=(y.toNat:Int) by omega) E];refine ch _ (key _ ((y.toNat:Int) % x.Xx) (by omega) J (by simp[St,sx,h2,h3,h5,h6])) ?_;rintro e t df g ⟨rfl,h⟩;exact h
  ·simp only[sx];refine ch _ (key _ (-1) (by omega) (by omega) (by simp[St,sx,h2,h3,h5,h6])) ?_;rintro e t df g ⟨rfl,h⟩;exact h
 ·rintro t df g ⟨rfl,⟨h2,h3,-⟩,e0,e1,p,u,L,h5,f,o,hu⟩;simp only[sz,simprocAttr,ny,h5];exact⟨_,L,bp6 f o,hu.ints (by omega)⟩
def rE{α β:Type}{R:α->β->Prop}:∀{l:List α} {m:List β},l.length=m.length->(∀(i:Nat) (a:α) (b:β),l[i]?=some a->m[i]?=some b->R a b)->Xl R l m
 |[],[],_,_=>trivial
 |[],_::_,h,_=>by simp at h
 |_::_,[],h,_=>by simp at h
 |a::l,b::m,h,hr=>⟨hr 0 a b rfl rfl,rE (by simpa using h) λi x y hx hy=>hr (i+1) x y (by simpa using hx) (by simpa using hy)⟩
def nh(V:Ky->AV)(i:Nat)(c:Int):List AV:=[XE c,V (i+1,0),V (i+1,1)]
structure tI (K:Nat) (V:Ky->AV) (E:Ky->En) (i:Nat) (x:Node):Prop where
 ps:E (i+1,0)=.sl 1 (x.XA.map ci)
 rs:∃WN,E (i+1,1)=.sl 1 WN/\WN.length=x.rows.length/\∀(r:Nat) (y:List Int),x.rows[r]?=some y->WN[r]?=some [V (i+1,2+r)]
 rr:∀(r:Nat) (y:List Int),x.rows[r]?=some y->E (i+1,2+r)=.sl 1 (y.map ci)
 len:x.XA.length<=K/\x.rows.length<=K/\∀y∈x.rows,y.length<=K
def tI.congr{V':Ky->AV}{E':Ky->En}(h:tI K V E i x)(hv:∀q,V' (i+1,q)=V (i+1,q))(he:∀q,E' (i+1,q)=E (i+1,q)):tI K V' E' i x:=by let⟨WN,h1,h2,h3⟩:=h.rs;exact⟨by rw[he];exact h.ps,⟨WN,by rw[he];exact h1,h2,λr y hy=>by rw[hv];exact h3 r y hy⟩,λr y hy=>by rw[he];exact h.rr r y hy,h.len⟩
def tI.up{K':Nat}(h:tI K V E i x)(hk:K<=K'):tI K' V E i x :=⟨h.ps,h.rs,h.rr,Ya h.len.1 hk,Ya h.len.2.1 hk,λy hy=>Ya (h.len.2.2 y hy) hk⟩
def tI.rows{g:G}{K i:Nat}{V:Ky->AV}{E:Ky->En}{x:Node}{L:Ky->Prop}(h:tI K V E i x)(hH:Hp g 3 L V E)(hL:∀q,q<2+x.rows.length->L (i+1,q))(hK:K<=2000000):Xu P3 0 g.h x.rows (V (i+1,1)):=by let⟨WN,h1,h2,h3⟩:=h.rs;have ho:=hH.own (hL 1 (by omega)) h1;refine Own.sl (α:=List Int) ho (by have:=h.len;omega) (rE h2.symm λr y row hy hr=>?_) λj hj=>(ho.lt hj).1;rw[h3 r y hy]at hr;cases hr;have hr:=(XI.1 hy).1;exact bo.2 ⟨_,rfl,xG (hH.own (hL (2+r) (by omega)) (h.rr r y hy)) (by have:=h.len.2.2 y (XL hy);omega) λ_ h=>h⟩
def tI.pars{L:Ky->Prop}(h:tI K V E i x)(hH:Hp g 3 L V E)(hL:L (i+1,0))(hK:K<=2000000):Xu P3 0 g.h x.XA (V (i+1,0)) :=xG (hH.own hL h.ps) (by have:=h.len;omega) λ_ h=>h
def tI.rd{L:Ky->Prop}(h:tI K V E i x)(hH:Hp g 3 L V E)(hL:∀q,q<2+x.rows.length->L (i+1,q))(hK:K<=2000000):Rp.rp P3 0 g.h x (nh V i x.Xx) :=cE.2 ⟨_,_,rfl,h.pars hH (hL 0 (by omega)) hK,h.rows hH hL hK⟩
def LS(L:List Node):Ky->Prop:=λk=>k=(0,0)\/∃i q x,k=(i+1,q)/\L[i]?=some x/\q<2+x.rows.length
def LS.z:LS L (0,0):=.inl rfl
def LS.s{q:Nat}(h:L[i]?=some x)(hq:q<2+x.rows.length):LS L (i+1,q):=.inr ⟨i,q,x,rfl,h,hq⟩
def LS.nb:¬LS L (0,1):=by rintro (h|⟨i,q,x,h,-⟩)<;>simp at h
def LS.lt{q:Nat}(h:LS L (i+1,q)):i<L.length:=by
 rcases h with h|⟨i',q',x,h,hx,-⟩
 ·simp at h
 ·simp only[abI]at h;have:=(XI.1 hx).1;omega
structure Td (K:Nat) (V:Ky->AV) (E:Ky->En) (L:List Node):Prop where
 ns:∃rows,E (0,0)=.sl 3 rows/\rows.length=L.length/\∀(i:Nat) (x:Node),L[i]?=some x->rows[i]?=some (nh V i x.Xx)
 nd:∀(i:Nat) (x:Node),L[i]?=some x->tI K V E i x
def Td.congr{K:Nat}{V V':Ky->AV}{E E':Ky->En}{L:List Node}(h:Td K V E L)(hv:∀i q,i<L.length->V' (i+1,q)=V (i+1,q))(he:∀i q,i<L.length->E' (i+1,q)=E (i+1,q))(h0:E' (0,0)=E (0,0)):Td K V' E' L:=by let⟨rows,h1,h2,h3⟩:=h.ns;have lt:∀{i:Nat} {x:Node},L[i]?=some x->i<L.length:=λhx=>(XI.1 hx).1;exact⟨⟨rows,by rw[h0];exact h1,h2,λi x hx=>by rw[h3 i x hx,nh,nh,hv i _ (lt hx),hv i _ (lt hx)]⟩,λi x hx=>(h.nd i x hx).congr (λq=>hv i q (lt hx)) λq=>he i q (lt hx)⟩
def IV{rows:List (List AV)}(ho:Own g 3 W 3 rows)(hl:rows.length<=2000000)(h:∀(i:Nat) (row:List AV),rows[i]?=some row->∃x:Node,Rp.rp P3 0 g.h x row):∃nds:List Node,nds.length=rows.length/\Xu P3 0 g.h nds W:=by
 have key:∀(rs:List (List AV)),(∀(i:Nat) (row:List AV),rs[i]?=some row->∃x:Node,Rp.rp P3 0 g.h x row)->∃nds:List Node,nds.length=rs.length/\Xl (Rp.rp P3 0 g.h) nds rs:=by
  intro rs
  induction rs with
  |nil=>intro _;exact⟨[],rfl,trivial⟩
  | cons r rs ih =>intro a;let⟨x,hx⟩:=a 0 r rfl;let⟨nds,k,ha⟩:=ih λi row hr=>a (i+1) row (by simpa using hr);exact⟨x::nds,by simp[k],hx,ha⟩
 let⟨nds,k,ha⟩:=key rows h;exact⟨nds,k,Own.sl (α:=Node) ho (by omega) ha λi hi=>(ho.lt hi).1⟩
def Vl(g:G)(pe:List AV)(gr:Int)(b:AV):Prop:=g.h.get 0=Xy 4 [pe]/\g.h.get 1=Xy 2 [[XE gr,b]]/\g.h.get 2=Xy 2 [[XE 0,.XC]]
def Vl.fr{g':G}{b:AV}(h:Vl g pe gr b)(hf:∀i,i<3->g'.h.get i=g.h.get i):Vl g' pe gr b :=⟨by rw[hf 0 (by omega),h.1],by rw[hf 1 (by omega),h.2.1],by rw[hf 2 (by omega),h.2.2]⟩
def LX(L:List Node)(x:Node):Ky->Prop:=λk=>LS L k\/k=(0,1)\/∃q,k=(L.length+1,q)/\q<2+x.rows.length
def LX.b:LX L x (0,1):=.inr (.inl rfl)
def LX.n{q:Nat}(h:q<2+x.rows.length):LX L x (L.length+1,q):=.inr (.inr ⟨q,rfl,h⟩)
structure NB (K p:Nat) (L:List Node) (x:Node) (g:G) (pe:List AV) (gr:Int) (b W:AV) (V:Ky->AV) (E:Ky->En):Prop where
 hp:Hp g 3 (LX L x) V E
 bb:Vl g pe gr b
 vb:V (0,1)=Xq p
 bx:E (0,1)=.bx (nh V L.length x.Xx)
 nd:tI K V E L.length x
 bl:Td K V E L
 vw:V (0,0)=W
def NB.box{K p:Nat}{L:List Node}{x:Node}{g:G}{pe:List AV}{gr:Int}{b W:AV}{V:Ky->AV}{E:Ky->En}(h:NB K p L x g pe gr b W V E):g.h.get p=Xy 3 [[XE x.Xx,V (L.length+1,0),V (L.length+1,1)]]/\3<=p/\p<g.nx:=by let⟨id,h1,h2,h3,h4⟩:=h.hp.box LX.b h.bx;rw[h.vb]at h3;cases h3;exact⟨h4,h1,h2⟩
def Vn(j p:Nat)(W:AV):List (Nat×AV):=[(2,Xq 0),(3,Xq 1),(4,Xq 2),(5,W),(6,XE (j:Int)),(7,Xq p)]
def bp4[Xr]{p:Nat}{c:Int}{ps:List Int}{b fa fb:AV}{rows:List (List AV)}(hK:K<=1000000)
  (r1:∀h',ak h' 3 b=some rows) (z1:rows[L.length]?=some [XE c,fa,fb]) (hry:px b=true) (hfa:Xu Xt k .nil ps fa) (hl:ps.length<=K)
  (ht:St t (Vn L.length p W)) (hN:NB K p L ⟨c,[],[]⟩ g pe gr b W V E)
  (kk:∀t g V E,St t (Vn L.length p W)->NB K p L ⟨c,ps,[]⟩ g pe gr b W V E->Q .norm t [] g) :
  wp C0 d none (.W6 [0,1,0,4,0,28,60,124,255,511,1023] [oF 29 1 7,oL 30 29,oF 31 1 3,oL 32 31,oM 33 6,Wb 34 3 32 33,oF 35 1 34,oL 36 35,acq 37 1 8 30 36,oF 38 1 7,W8 1 38 37]) Q t [] g:=by
 obtain⟨h2,h3,h4,h5,h6,h7,-⟩:=ht;have hlt:L.length<rows.length:=(XI.1 z1).1;let⟨m,v,w⟩:=hN.box;have u:=hN.hp.nx;have l:E (L.length+1,0)=.sl 1 []:=hN.nd.ps;simp only[sz,simprocAttr,sf,h3,h6,h7,hN.bb.2.1,r1,hlt,z1,hry,m];refine (hN.hp.same (by simp) (by simp<;>omega)).app (k:=(L.length+1,0)) (LX.n (by omega)) l (new:=ps.map ci) (by simpa using (hfa.tree (h':=g.h) (XH _)).ints) (by simp[aH];omega) λv1 ga hHa na fra fsa lga vca vta=>?_;simp only[sy]at na fra fsa lga;have kb:(0,1)≠(L.length+1,0):=by simp
 obtain⟨p',o,s,a,e⟩:=hHa.box (k:=(0,1)) LX.b (by rw[ae];exact hN.bx);rw[ae,hN.vb]at a;injection a with a;subst a;have e:ga.h.get p=Xy 3 [[XE c,V (L.length+1,0),V (L.length+1,1)]]:=e;simp only[sz,simprocAttr,sf,h7,e,vca,vta];refine⟨?_,?_⟩
 ·simp only[X7,X8,X3,XY];exact aE (OO (true::(false::(true::[])))) [] (by simp[Xl,am,aC]) (by decide) (by simp)
 have f:=(hHa.same (g':=aQ (mg (aQ (mg ga []) []) []) []) (by simp) (by simp<;>omega)).putb (k:=(0,1)) LX.b (row:=nh V L.length c) (row':=[XE c,v1,V (L.length+1,1)]) (by rw[ae];exact hN.bx) (by rw[ae];exact hN.vb) rfl;refine kk _ _ (ups V (L.length+1,0) v1) (ups (ups E (L.length+1,0) (En.sl 1 ([]++ps.map ci))) (0,1) (En.bx [XE c,v1,V (L.length+1,1)])) (by simp[St,Vn,sx,h2,h3,h4,h5,h6,h7]) ?_;refine⟨f.same (by simp[nh]) (by simp),hN.bb.fr (λi hi=>by simp[VO];rw[aJ,fra i hi]),by rw[ae];exact hN.vb,?_,⟨?_,?_,λr y hr=>by simp at hr,hl,by show 0<=K;omega,λy hy=>by simp at hy⟩,?_,by rw[ae];exact hN.vw⟩
 ·rw[au,nh,au,ae]
 ·rw[ae,au];rfl
 ·let⟨WN,x,q2,q3⟩:=hN.nd.rs;exact⟨WN,by rw[ae,ae];exact x,q2,λr y hr=>by simp at hr⟩
 ·refine hN.bl.congr (λi q hi=>?_) (λi q hi=>?_) ?_
  ·rw[ae]
  ·rw[ae,ae]
  ·rw[ae,ae]
def bp3[Xr]{p:Nat}{c:Int}{ps y:List Int}{R:List (List Int)}{b fa fb fy:AV}{rows WN:List (List AV)}(hK:K<=1000000)
  (r1:∀h',ak h' 3 b=some rows) (z1:rows[L.length]?=some [XE c,fa,fb]) (hry:px b=true) (w1:∀h',ak h' 1 fb=some WN) (hryb:px fb=true) (w2:WN[i]?=some [fy]) (hfy:Xu Xt k .nil y fy) (hl:y.length<=K) (hRl:R.length=i) (hi:i<K)
  (ht:St t (Vn L.length p W)) (h8:Xs t 8=XE (i:Int)) (h9:Xs t 9=.XC) (hN:NB K p L ⟨c,ps,R⟩ g pe gr b W V E)
  (kk:∀t g V E,St t (Vn L.length p W)->Xs t 8=XE (i:Int)->NB K p L ⟨c,ps,R++[y]⟩ g pe gr b W V E->Q .norm t [] g) :
  wp C0 d none (.W6 [0,1,0,0,8,0,56,120,248,0,1016,2040,4092,8188,16383,32767,65535] [oF 50 2 7,oL 51 50,oM 52 9,oF 53 1 3,oL 54 53,oM 55 6,Wb 56 3 54 55,oF 57 2 56,oL 58 57,oM 59 8,oX 60 58 59,oL 61 60,acq 62 1 8 52 61,PL 63 62,acq 64 1 24 51 63,oF 65 2 7,W8 1 65 64]) Q t [] g:=by
 obtain⟨h2,h3,h4,h5,h6,h7,-⟩:=ht;have hlt:L.length<rows.length:=(XI.1 z1).1;have o:i<WN.length:=(XI.1 w2).1;obtain⟨w,M,N⟩:=hN.box;have J:=hN.hp.nx;obtain⟨rw0,e1,e2,e3⟩:=hN.nd.rs;have e2:rw0.length=i:=by rw[e2];exact hRl
 simp only[sz,simprocAttr,sf,h3,h6,h7,h8,h9,hN.bb.2.1,r1,hlt,z1,hry,w1,o,w2,w];refine vB (b:=3) (rows:=[]) (new:=y.map ci) (.inl ⟨rfl,rfl⟩) (by simpa using (hfy.tree (h':=g.h) (XH _)).ints) (by simp<;>omega) (by simp[aH];omega) λv2 g2 hv2 n2 fr2 vid2 lg2=>?_;simp only[sy]at n2 fr2 vid2 lg2;have A:¬LX L ⟨c,ps,R⟩ (L.length+1,2+i):=by
  rintro (h|h|⟨q,h,hq⟩)
  ·have:=h.lt;omega
  ·simp at h
  ·simp only[abI]at h;simp at hq;omega
 have u:=hN.hp.add (k:=(L.length+1,2+i)) (L':=LX L ⟨c,ps,R++[y]⟩) (v':=v2) (e':=.sl 1 (y.map ci)) A hv2 (by omega) (λj _ f=>fr2 j (by omega) (by simp[W5])) (λj f=>by
   rw[cJ hv2]at f;rcases vid2 with h|⟨i',h,I⟩
   ·rw[h]at f;cases f
   ·rw[h]at f;injection f with f;omega) (λk hk=>by
   rcases hk with h|h|⟨q,h,hq⟩
   ·exact .inl (.inl h)
   ·exact .inl (.inr (.inl h))
   ·simp at hq
    by_cases e:q=2+i
    ·rw[e]at h;exact .inr h
    ·exact .inl (.inr (.inr ⟨q,h,by simp;omega⟩)))
 simp only[sz,simprocAttr,sf,hv2.cell.1,hv2.cell.2];have C:ups V (L.length+1,2+i) v2 (L.length+1,1)=V (L.length+1,1):=ae;rw[<-C];refine (u.step (g':=_) ?_ ?_).app2 (k:=(L.length+1,1)) (LX.n (by omega)) (by rw[ae];exact e1) (new:=[[v2]]) (by simp[sx,sy]) (by simp[aH];omega) λv3 g3 hH3 n3 fb3 fo3 lg3 vc3 vt3=>?_
 ·simp;omega
 ·intro j _ f;simp[VO];omega
 simp only[sx,sy]at n3 fb3 fo3 lg3;obtain⟨p',D,F,a,l⟩:=hH3.box (k:=(0,1)) LX.b (by rw[ae,ae];exact hN.bx);rw[ae,ae,hN.vb]at a;injection a with a;subst a;have l:g3.h.get p=Xy 3 [[XE c,V (L.length+1,0),V (L.length+1,1)]]:=l;simp only[sz,simprocAttr,sf,h7,l,vc3,vt3];refine⟨?_,?_⟩
 ·simp only[X7,X8,X3,XY];refine aE (KI (OO (true::(true::(true::(false::(true::[]))))))) [(0,12),(1,12),(0,13),(1,13)] (by simp[Xl,am,aC]) (by decide) ?_;have m:∀i∈g2.lg,i≠p:=λi hi e=>by
   rcases lg2 i hi with h|h|h
   ·simp at h
   ·simp[W5]at h
   ·omega
  rintro q s x y hx H;simp only[Yh,Yc,ZQ]at s;rcases s with rfl|rfl|rfl|rfl<;>(simp at hx H;subst hx;subst H;refine cK rfl rfl rfl rfl ?_ ?_ ?_<;>simp[am,aC,aw]<;>first|omega|exact m|exact λi hi e=>m i hi e.symm)
 have v:=(hH3.same (g':=aQ (mg (aQ (mg g3 []) []) []) []) (by simp) (by simp<;>omega)).putb (k:=(0,1)) LX.b (row:=nh V L.length c) (row':=[XE c,V (L.length+1,0),v3]) (by rw[ae,ae];exact hN.bx) (by rw[ae,ae];exact hN.vb) rfl;refine kk _ _ _ _ (by simp[St,Vn,sx,h2,h3,h4,h5,h6,h7]) (by simp[sx,h8]) ⟨v.same (by simp[nh]) (by simp),hN.bb.fr (λj f=>?_),?_,?_,⟨?_,?_,λr z hr=>?_,hN.nd.len.1,by simp;omega,λz hz=>?_⟩,?_,?_⟩
 ·simp[VO];rw[aJ,fb3 j f]
  try simp[VO]
  rw[aJ,fr2 j (by omega) (by simp[W5])]
 ·rw[ae,ae];exact hN.vb
 ·rw[au,nh,au,ae,ae]
 ·rw[ae,ae,ae];exact hN.nd.ps
 ·refine⟨rw0++[[v2]],by rw[ae,au],by simp[e2,hRl],λr z hr=>?_⟩
  by_cases e:r=i
  ·subst e;rw[ae,au,<-e2,Y0]
  ·have B:r<i:=by have:=(XI.1 hr).1;simp at this;omega
   rw[ae,ae,XW (by omega)];have hr:(R++[y])[r]?=some z:=hr;rw[XW (by omega)]at hr;exact e3 r z hr
 ·rw[ae,ae];have hr:(R++[y])[r]?=some z:=hr
  by_cases e:r=i
  ·subst e;rw[<-hRl,Y0]at hr;injection hr with hr;subst hr;rw[<-hRl,au]
  ·have B:r<i:=by have:=(XI.1 hr).1;simp at this;omega
   rw[XW (by omega)]at hr;rw[ae];exact hN.nd.rr r z hr
 ·rcases Yf.1 hz with h|h
  ·exact hN.nd.len.2.2 z h
  ·rw[Yy.1 h];exact hl
 ·refine hN.bl.congr (λj q f=>?_) (λj q f=>?_) ?_
  ·rw[ae,ae]
  ·rw[ae,ae,ae]
  ·rw[ae,ae,ae]
 ·rw[ae,ae];exact hN.vw
def bp2[Xr]{p:Nat}{b fa fb:AV}{rows:List (List AV)}(hK:K<=1000000)
  (r1:∀h',ak h' 3 b=some rows) (z1:rows[L.length]?=some [XE x.Xx,fa,fb]) (hry:px b=true) (hfb:Xu Xt k .nil x.rows fb) (hl:x.rows.length<=K) (hll:∀y∈x.rows,y.length<=K)
  (ht:St t (Vn L.length p W)) (h8:Xs t 8=XE 0) (hN:NB K p L ⟨x.Xx,x.XA,[]⟩ g pe gr b W V E)
  (fin:∀t g V E,St t (Vn L.length p W)->NB K p L x g pe gr b W V E->Q (.exit 2) t [] g):VY (wp C0 d none jg) Q t [] g:=by
 let⟨WN,w1,w2,m,n⟩:=hfb.all;have w1:∀h',ak h' 1 fb=some WN:=w1;have lfb:=hfb.len;have hlt:L.length<rows.length:=(XI.1 z1).1;obtain⟨FR,h⟩:∃FR,FR=SC.W6 [0,1,0,0,8,0,56,120,248,0,1016,2040,4092,8188,16383,32767,65535] [oF 50 2 7,oL 51 50,oM 52 9,oF 53 1 3,oL 54 53,oM 55 6,Wb 56 3 54 55,oF 57 2 56,oL 58 57,oM 59 8,oX 60 58 59,oL 61 60,acq 62 1 8 52 61,PL 63 62,acq 64 1 24 51 63,oF 65 2 7,W8 1 65 64]:=⟨_,rfl⟩;simp only[jg];rw[<-h];refine aU x.rows.length (by omega) (λj t df g=>df=[]/\St t (Vn L.length p W)/\∃V E,NB K p L ⟨x.Xx,x.XA,x.rows.take j⟩ g pe gr b W V E)
  ⟨rfl,ht,V,E,by simpa using hN⟩ h8 (by decide) (by rintro j t df g v s (rfl|rfl|rfl)<;>simp[St,Vn,sx]) ?_ ?_ ?_
 ·rintro j t df g e ⟨rfl,⟨h2,h3,h4,h5,h6,h7,-⟩,V,E,hN⟩ h8;simp only[sz,simprocAttr,h3,h6,h8,hN.bb.2.1,r1,hlt,z1,hry,lfb];exact⟨by simp[St,Vn,sx,h2,h3,h4,h5,h6,h7],V,E,hN⟩
 ·clear ht h8 hN;rintro j t df g e ⟨rfl,⟨h2,h3,h4,h5,h6,h7,-⟩,V,E,hN⟩ h8;let⟨y,f,c,hm⟩:=af e;obtain⟨row,l,q2⟩:=m j y f;obtain⟨fy,rfl,a⟩:=bo.1 q2;simp only[sz];rw[h];refine bp3 hK r1 z1 hry w1 (n (by omega)) l a (hll y hm) (by simp<;>omega) (by omega) (by simp[St,Vn,sx,h2,h3,h4,h5,h6,h7]) (by simp[sx,h8]) (by simp[sx]) hN ?_;clear h2 h3 h4 h5 h6 h7 h8 hN;intro t g V E ht h8 hN;rw[<-c]at hN;exact⟨⟨rfl,ht,V,E,hN⟩,h8⟩
 ·rintro t df g ⟨rfl,ht,V,E,hN⟩;rw[XV]at hN;exact fin t g V E ht hN
def bp1{k:Ky}(h:LS (L++[x]) k):LX L x k:=by
 rcases h with h|⟨i,q,y,h,hi,hq⟩
 ·exact .inl (.inl h)
 ·by_cases e:i<L.length
  ·rw[XW e]at hi;exact .inl (.inr ⟨i,q,y,h,hi,hq⟩)
  ·have a:=(XI.1 hi).1;simp at a;have e:i=L.length:=by omega
   subst e;rw[Y0]at hi;cases hi;exact .inr (.inr ⟨q,h,hq⟩)
def bp0[Xr]{m:Xb}{b:AV}(hK:K<=1000000)(hS:Xu Xt k .nil m.XD b)(hl:m.XD.length<=K)
  (hb:∀x∈m.XD,x.XA.length<=K/\x.rows.length<=K/\∀r∈x.rows,r.length<=K)
  (ht:St t [(2,Xq 0),(3,Xq 1),(4,Xq 2)]) (h5:Xs t 5=V (0,0)) (h6:Xs t 6=XE 0) (hH:Hp g 3 (LS []) V E) (hB:Vl g pe m.Xz b) (hD:Td K V E [])
  (fin:∀t g V E,St t [(2,Xq 0),(3,Xq 1),(4,Xq 2)]->Xs t 5=V (0,0)->Hp g 3 (LS m.XD) V E->Vl g pe m.Xz b->Td K V E m.XD->Q (.exit 0) t [] g):VY (wp C0 d none jh) Q t [] g:=by
 obtain⟨rows,D,r2,Z,r4⟩:=hS.all;have D:∀h',ak h' 3 b=some rows:=D;have lS:=hS.len;obtain⟨FR,w⟩:∃FR,FR=SC.W6 [0,1,0,4,0,28,60,124,255,511,1023] [oF 29 1 7,oL 30 29,oF 31 1 3,oL 32 31,oM 33 6,Wb 34 3 32 33,oF 35 1 34,oL 36 35,acq 37 1 8 30 36,oF 38 1 7,W8 1 38 37]:=⟨_,rfl⟩;simp only[jh,oy];rw[<-w];refine aU m.XD.length (by omega) (λj t df g=>df=[]/\St t [(2,Xq 0),(3,Xq 1),(4,Xq 2)]/\∃V E,Xs t 5=V (0,0)/\Hp g 3 (LS (m.XD.take j)) V E/\Vl g pe m.Xz b/\Td K V E (m.XD.take j))
  ⟨rfl,ht,V,E,h5,by simpa using hH,hB,by simpa using hD⟩ h6 (by decide) (by rintro j t df g v s (rfl|rfl|rfl)<;>simp[St,sx]) ?_ ?_ ?_
 ·rintro j t df g N ⟨rfl,⟨h2,h3,h4,-⟩,V,E,h5,hH,hB,hD⟩ h6;simp only[sz,simprocAttr,h2,h3,h4,h5,h6,hB.2.1,lS,St];exact⟨V,E,rfl,hH,hB,hD⟩
 ·clear ht h5 h6 hH hB hD;rintro j t df g N ⟨rfl,⟨h2,h3,h4,-⟩,V,E,h5,hH,hB,hD⟩ h6;obtain⟨x,hx,u,hm⟩:=af N;obtain⟨row,R,q2⟩:=Z j x hx;obtain⟨fa,fb,rfl,H,I⟩:=cE.1 q2;have hlt:j<rows.length:=by omega
  have o:=r4 (by omega);obtain⟨l1,l2,Y⟩:=hb x hm;have U:=hH.nx;obtain⟨p,hp⟩:∃p,p=g.nx:=⟨_,rfl⟩;obtain⟨L,hL⟩:∃L,L=m.XD.take j:=⟨_,rfl⟩;have l:L.length=j:=by rw[hL];simp;omega
  rw[<-hL]at hH hD u;obtain⟨g1,f⟩:∃g1,g1=(g.new (Xy 3 [[XE 0,.XC,.XC]])).put g.nx (Xy 3 [[XE x.Xx,.XC,.XC]]):=⟨_,rfl⟩;have n1:g.nx+1=g1.nx:=by rw[f];simp
  have f1:∀i,i<g.nx->g1.h.get i=g.h.get i:=λi hi=>by rw[f,G.put_h,aq,G.new_h,aq]
  have A:=hH.add (k:=(0,1)) (L':=λk=>LS L k\/k=(0,1)) (g':=g1) (v':=Xq g.nx) (e':=.bx [XE x.Xx,.XC,.XC]) LS.nb ⟨g.nx,by omega,by omega,rfl,by rw[f];simp[aY]⟩ (by omega) (λi _ hi=>f1 i hi) (λi hi=>by injection hi with hi;omega) (λk hk=>hk);have B:=A.add (k:=(L.length+1,0)) (L':=λk=>(LS L k\/k=(0,1))\/k=(L.length+1,0)) (v':=.XC) (e':=.sl 1 []) (by rintro (h|h);exact absurd h.lt (by omega);simp at h) (.inl ⟨rfl,rfl⟩) (XH _) (λ_ _ _=>rfl) (λi hi=>by cases hi) (λk hk=>hk);have C:=B.add (k:=(L.length+1,1)) (L':=LX L ⟨x.Xx,[],[]⟩) (v':=.XC) (e':=.sl 1 []) (by rintro ((h|h)|h);exact absurd h.lt (by omega);simp at h;simp at h) (.inl ⟨rfl,rfl⟩) (XH _) (λ_ _ _=>rfl) (λi hi=>by cases hi) (λk hk=>by
   rcases hk with h|h|⟨q,h,hq⟩
   ·exact .inl (.inl (.inl h))
   ·exact .inl (.inl (.inr h))
   ·have hq:q<2:=hq;have:q=0\/q=1:=by omega
    rcases this with e|e<;>subst e
    ·exact .inl (.inr h)
    ·exact .inr h)
  have a:NB K p L ⟨x.Xx,[],[]⟩ g1 pe m.Xz b (V (0,0)) (ups (ups (ups V (0,1) (Xq g.nx)) (L.length+1,0) .XC) (L.length+1,1) .XC) (ups (ups (ups E (0,1) (.bx [XE x.Xx,.XC,.XC])) (L.length+1,0) (.sl 1 [])) (L.length+1,1) (.sl 1 [])):=by
   refine⟨C,hB.fr λi hi=>f1 i (by omega),by simp[ae,au,hp],by simp[ae,au,nh],⟨by simp[ae,au],⟨[],by simp[au],rfl,λr y hr=>by simp at hr⟩,λr y hr=>by simp at hr,by show 0<=K;omega,by show 0<=K;omega,λy c=>by simp at c⟩,hD.congr (λi q hi=>?_) (λi q hi=>?_) (by simp[ae]),by simp[ae]⟩
   ·rw[ae,ae,ae]
   ·rw[ae,ae,ae]
  clear A B C;have S:rows[L.length]?=some [XE x.Xx,fa,fb]:=by rw[l];exact R
  refine bP (P:=λt df g'=>df=[]/\g'=g1/\St t (Vn L.length p (V (0,0)))) ?_ ?_
  ·simp only[sz,simprocAttr,h3,h6,hB.2.1,D,hlt,R,o];refine⟨by rw[f],?_⟩;simp[St,Vn,sx,h2,h3,h4,h5,h6,hp,l]
  rintro t df g2 ⟨rfl,rfl,ht⟩;rw[cX,w];refine bp4 hK D S o H l1 ht a ?_;clear a ht;rintro t g V1 E1 ⟨h2,h3,h4,h5,h6,h7,-⟩ a;rw[xr];simp only[sz,simprocAttr];refine bp2 hK D S o I l2 Y (by simp[St,Vn,sx,h2,h3,h4,h5,h6,h7]) (by simp[sx]) a ?_;clear a h2 h3 h4 h5 h6 h7;rintro t g V1 E1 ⟨h2,h3,h4,h5,h6,h7,-⟩ a;let⟨J,W,X⟩:=a.box;let⟨rw0,e1,e2,e3⟩:=a.bl.ns;simp only[sz,simprocAttr,ox,h5,h7,J];rw[<-a.vw];have O:=a.hp.nx;refine (a.hp.step (by simp) (λi _ hi=>by rw[G.new_h,aq])).app (.inl LS.z) e1
   (new:=[[XE x.Xx,V1 (L.length+1,0),V1 (L.length+1,1)]]) (by simp[sx,sy]) (by simp[aH];omega) λv3 g3 hH4 n3 fr3 _ lg3 vc3 vt3=>?_
  simp only[sx,sy]at n3 fr3;simp only[sz,simprocAttr,h2,h3,h4,h6,St];rw[l];refine⟨⟨ups V1 (0,0) v3,ups E1 (0,0) (.sl 3 (rw0++[[XE x.Xx,V1 (L.length+1,0),V1 (L.length+1,1)]])),(au _ _ _).symm,?_,a.bb.fr (λi hi=>by rw[fr3 i hi,aJ]),?_⟩,rfl⟩
  ·rw[u];exact hH4.sub λk hk=>bp1 hk
  ·rw[u];have F:=a.bl.congr (V':=ups V1 (0,0) v3) (E':=ups E1 (0,0) (.sl 3 rw0)) (λi q hi=>ae) (λi q hi=>ae) (by rw[au,e1]);have M:=a.nd.congr (V':=ups V1 (0,0) v3) (E':=ups E1 (0,0) (.sl 3 (rw0++[[XE x.Xx,V1 (L.length+1,0),V1 (L.length+1,1)]]))) (λq=>ae) (λq=>ae);refine⟨⟨_,au _ _ _,by simp[e2],λi y c=>?_⟩,λi y c=>?_⟩
   ·by_cases e:i<L.length
    ·rw[XW e]at c;rw[XW (by omega),e3 i y c,nh,nh,ae,ae]
    ·have n:=(XI.1 c).1;simp at n;have e:i=L.length:=by omega
     subst e;rw[Y0]at c;cases c;rw[<-e2,Y0,e2,nh,ae,ae]
   ·by_cases e:i<L.length
    ·rw[XW e]at c;exact (F.nd i y c).congr (λq=>rfl) (λq=>by rw[ae,ae])
    ·have n:=(XI.1 c).1;simp at n;have e:i=L.length:=by omega
     subst e;rw[Y0]at c;cases c;exact M
 ·rintro t df g ⟨rfl,ht,V,E,h5,hH,hB,hD⟩;rw[XV]at hH hD;exact fin t g V E ht h5 hH hB hD
def bM{sz:Nat}{v:AV}{off:Nat}(h:px v=true):zV (jK sz v i off)=.val (jK sz v i off):=by cases v<;>first|rfl|cases h
def Xu.far{α:Type} [Rp α]{h':H}{l:List α}{v:AV}(r:Xu P k h l v)(hf:∀i,P i->h'.get i=h.get i):Xu P k h' l v:=by let⟨w,hw,q⟩:=Rp.mono (P':=P) (h':=h') (show Rp.rp P k h l [v] from ⟨v,rfl,r⟩) (λi hi=>⟨hi,hf i hi⟩) (XH _);cases hw;exact q
def Xu.heap{α:Type} [Rp α]{h':H}{l:List α}{v:AV}(r:Xu P k h l v)(hf:h'=h):Xu P k h' l v:=by subst hf;exact r
def Own.refs_lt{g:G}{b sz:Nat}{v:AV}{rows:List (List AV)}(h:Own g b v sz rows):∀i∈aw v,b<=i/\i<g.nx:=by
 rcases h with⟨rfl,-⟩|⟨id,ep,lo,h1,h2,rfl,-⟩
 ·intro i hi;simp[aw]at hi
 ·intro i hi;simp[aw]at hi;omega
def Hm{α:Type} [Rp α]{g:G}{b:Nat}{rows:List (List AV)}(hu:Own g b u (Rp.sz α) rows)(hne:rows≠[]){n:Nat}(hn:n<=rows.length) :
  ∃y,fE (Rp.sz α) u none (some (XE (n:Int))) g=.val y/\(y.cells=[y]/\y.isTup=false)/\∀(P:Nat->Prop) (k:Nat) (l:List α) (h':H),(∀i,W5 u=some i->h'.get i=g.h.get i)->Xu P k h' l u->Xu P k h' (l.take n) y:=by
 rcases hu with⟨rfl,rfl⟩|⟨id,ep,lo,h1,h2,rfl,h3⟩
 ·exact absurd rfl hne
 ·simp only[fE,ip,h3,Yl,YO,ay,YT,aa,Yt,XH,if_true,aS,YU,Zo];simp only[cd];rw[show ax (n.ble rows.length) (some n) none=some n from by rw[aa,XO (by simpa using hn)]];dsimp only;have hb:rows.length.beq 0=false:=by cases rows with|nil=>exact absurd rfl hne|cons a l=>rfl
  rw[hb];refine⟨_,rfl,⟨rfl,rfl⟩,λP k l h' hh h=>?_⟩;have c:=hh id rfl;rw[h3]at c;let⟨hl,hp,rr,d,q2⟩:=h;rw[bi,c,Bt]at d;cases d;refine⟨by rw[X5];omega,hp,rows.take n,?_,q2.take n⟩;rw[bi,c,ck,dk,Zc]
structure R4 (K:Nat) (L:List Node) (J:Nat) (V:Ky->AV) (E:Ky->En) (rows:List (List AV)):Prop where
 len:rows.length=L.length
 ns:∀(i:Nat) (y:Node),i≠J->L[i]?=some y->rows[i]?=some (nh V i y.Xx)
 nd:∀(i:Nat) (y:Node),i≠J->L[i]?=some y->tI K V E i y
def bo_{K J:Nat}{L:List Node}{V:Ky->AV}{E:Ky->En}{rows:List (List AV)}(h1:rows.length=L.length)(h2:∀(i:Nat) (x:Node),L[i]?=some x->rows[i]?=some (nh V i x.Xx))(h:Td K V E L):R4 K L J V E rows :=⟨h1,λi y _ hy=>h2 i y hy,λi y _ hy=>h.nd i y hy⟩
def R4.v{K J q:Nat}{L:List Node}{V:Ky->AV}{E:Ky->En}{rows:List (List AV)}{v:AV}(h:R4 K L J V E rows):R4 K L J (ups V (J+1,q) v) E rows :=⟨h.len,λi y hi hy=>by rw[h.ns i y hi hy,nh,nh,ae,ae],λi y hi hy=>(h.nd i y hi hy).congr (λs=>ae) λ_=>rfl⟩
def R4.e{K J q:Nat}{L:List Node}{V:Ky->AV}{E:Ky->En}{rows:List (List AV)}{v:En}(h:R4 K L J V E rows):R4 K L J V (ups E (J+1,q) v) rows :=⟨h.len,h.ns,λi y hi hy=>(h.nd i y hi hy).congr (λ_=>rfl) λs=>ae⟩
def R4.z{K J:Nat}{L:List Node}{V:Ky->AV}{E:Ky->En}{rows:List (List AV)}{v:En}(h:R4 K L J V E rows):R4 K L J V (ups E (0,0) v) rows :=⟨h.len,h.ns,λi y hi hy=>(h.nd i y hi hy).congr (λ_=>rfl) λs=>ae⟩
def yK{K J:Nat}{L:List Node}{V:Ky->AV}{E:Ky->En}{rows:List (List AV)}{row':List AV}{x':Node}{g:G}{M:Ky->Prop}(hH:Hp g 3 M V E)(hM:∀k,LS L k->M k)(hO:R4 K L J V E rows)(e0:E (0,0)=.sl 3 (rows.set J row'))
  (hw:V (0,0)=W) (hr:Rp.rp P3 0 g.h x' row') (hK:K<=1000001) (hl:L.length<=1000001):∃nds:List Node,Xu P3 0 g.h nds W:=by
 have ho:=hH.own (hM _ LS.z) e0;rw[hw]at ho;obtain⟨nds,-,h⟩:=IV ho (by simp[hO.len];omega) λi row hi=>by
  rw[YB]at hi
  by_cases e:J=i
  ·rw[XO e]at hi
   split at hi
   ·cases hi;exact⟨x',hr⟩
   ·cases hi
  ·rw[XS e]at hi;have a:=(XI.1 hi).1;obtain⟨y,b⟩:∃y,L[i]?=some y:=⟨_,XJ (by rw[<-hO.len];exact a)⟩;rw[hO.ns i y (Y5 e) b]at hi;cases hi;exact⟨y,(hO.nd i y (Y5 e) b).rd hH (λq hq=>hM _ (LS.s b hq)) (by omega)⟩
 exact⟨nds,h⟩
def Td.sl{K:Nat}{L:List Node}{V:Ky->AV}{E:Ky->En}{g:G}(h:Td K V E L)(hH:Hp g 3 (LS L) V E)(hK:K<=1000001)(hl:L.length<=1000001):Xu P3 0 g.h L (V (0,0)):=by let⟨rows,h1,h2,h3⟩:=h.ns;have ho:=hH.own LS.z h1;refine Own.sl (α:=Node) ho (by omega) (rE h2.symm λi y row hy hr=>?_) λi hi=>(ho.lt hi).1;rw[h3 i y hy]at hr;cases hr;exact (h.nd i y hy).rd hH (λq hq=>LS.s hy hq) (by omega)
structure BS (K J:Nat) (L:List Node) (x:Node) (bx:gF) (gr Rw:Int) (t:T) (g:G) (V:Ky->AV) (E:Ky->En):Prop where
 st:St t [(2,Xq 0),(3,Xq 1),(4,Xq 2),(10,jK 3 (V (0,0)) J 0),(11,XE Rw)]
 hp:Hp g 3 (LS L) V E
 f0:g.h.get 0=Xy 4 [[Xc bx.1,Xc bx.2.1,Xc bx.2.2.1,XE bx.2.2.2]]
 f1:g.h.get 1=Xy 2 [[XE gr,V (0,0)]]
 f2:g.h.get 2=Xy 2 [[XE 0,.XC]]
 bl:Td K V E L
 hx:L[J]?=some x
 hR:(Rw = -1/\x.rows.length=0)\/∃r:Nat,Rw=(r:Int)/\r<x.rows.length
 hK:K<=1000000
 hl:L.length<=K
def y9(Q:QT):Prop:=∀t g gr nv nds,Xs t 3=Xq 1->Xs t 4=Xq 2->g.h.get 1=Xy 2 [[XE gr,nv]]->g.h.get 2=Xy 2 [[XE 0,.XC]]->Xu (α:=Node) P3 0 g.h nds nv->Q .norm t [] g
structure BT (K J:Nat) (L:List Node) (x:Node) (g:G) (V:Ky->AV) (E:Ky->En) (rows:List (List AV)):Prop where
 own:Own g 3 (V (0,0)) 3 rows
 e0:E (0,0)=.sl 3 rows
 ry:px (V (0,0))=true
 hlt:J<rows.length
 row:rows[J]?=some [XE x.Xx,V (J+1,0),V (J+1,1)]
 Xd:R4 K L J V E rows
 nd:tI K V E J x
def BS.bt{K J:Nat}{L:List Node}{x:Node}{bx:gF}{gr Rw:Int}{t:T}{g:G}{V:Ky->AV}{E:Ky->En}(h:BS K J L x bx gr Rw t g V E):∃rows,BT K J L x g V E rows:=by let⟨rows,h1,h2,h3⟩:=h.bl.ns;have k:=(XI.1 h.hx).1;have ho:=h.hp.own LS.z h1;exact⟨rows,ho,h1,f_ ho (by omega),by omega,h3 J x h.hx,bo_ h2 h3 h.bl,h.bl.nd J x h.hx⟩
def BS.sl{K J:Nat}{L:List Node}{x:Node}{bx:gF}{gr Rw:Int}{t:T}{g:G}{V:Ky->AV}{E:Ky->En}(h:BS K J L x bx gr Rw t g V E):Xu P3 0 g.h L (V (0,0)):=h.bl.sl h.hp (by have:=h.hK;omega) (by have:=h.hK;have:=h.hl;omega)
def Uv(h:P3 i):¬i=1/\¬i=2:=by have:3<=i:=h;omega
section
variable {d K J:Nat}{L:List Node}{x:Node}{bx:gF}{gr Rw:Int}{t:T}{g:G}{V:Ky->AV}{E:Ky->En}{Q:QT}
def bc0[Xr](hS:BS K J L x bx gr Rw t g V E)(fin:y9 Q) :
  wp C0 d none (.ops [oF 112 3 2,oL 113 112,oF 114 0 3,W8 1 114 113]) Q t [] g:=by
 obtain⟨h2,h3,h4,Xp,h,-⟩:=hS.st;simp only[sz,simprocAttr,h2,h3,hS.f0,hS.f1];exact fin _ _ bx.2.2.2 _ _ (by simp[sx,h3]) (by simp[sx,h4]) (by simp[VO]) (by simp[VO,hS.f2]) (hS.sl.far λi hi=>by simp[VO,Uv hi])
theorem bc1[Xr](hS:BS K J L x bx gr Rw t g V E)(fin:y9 Q) :
  wp C0 d none (.ops [oM 117 10,oF 118 3 2,oL 119 118,Ww 120 117,oF 121 0 120,W8 1 121 119]) Q t [] g:=by
 obtain⟨h2,h3,h4,Xp,a,-⟩:=hS.st;obtain⟨rows,hB⟩:=hS.bt;have hK:=hS.hK;have hl:=hS.hl;simp only[sz,simprocAttr,h2,Xp,hS.f0,bM hB.ry,bT hB.ry];refine hS.hp.put LS.z (row':=[XE bx.2.2.2,V (J+1,0),V (J+1,1)]) hB.e0 hB.row rfl rfl rfl λgb hHb nb frb _=>?_;simp only[sx];have h:tI K V (ups E (0,0) (.sl 3 (rows.set J [XE bx.2.2.2,V (J+1,0),V (J+1,1)]))) J ⟨bx.2.2.2,x.XA,x.rows⟩:=by have:=hB.nd.congr (V':=V) (E':=ups E (0,0) (.sl 3 (rows.set J [XE bx.2.2.2,V (J+1,0),V (J+1,1)]))) (λ_=>rfl) (λq=>ae);exact⟨this.ps,this.rs,this.rr,this.len⟩
 obtain⟨nds,b⟩:=yK hHb (λk hk=>hk) hB.Xd.z (au _ _ _) rfl (h.rd hHb (λq hq=>LS.s hS.hx hq) (by omega)) (by omega) (by omega);exact fin _ _ gr _ nds (by simp[sx,h3]) (by simp[sx,h4]) (by rw[frb 1 (by omega),hS.f1]) (by rw[frb 2 (by omega),hS.f2]) b
theorem bc2[Xr](hS:BS K J L x bx gr Rw t g V E)(fin:y9 Q) :
  wp C0 d none (.W6 [0,0,2,6,14,0,32,96,254,511,1023,2047] [oM 124 10,oM 125 10,Ww 126 125,oF 127 1 126,oL 128 127,oF 129 3 2,oL 130 129,KA 131 130,acq 132 1 8 128 131,Ww 133 124,oF 134 1 133,W8 1 134 132]) Q t [] g:=by
 obtain⟨h2,h3,h4,Xp,u,-⟩:=hS.st;obtain⟨rows,hB⟩:=hS.bt;have hK:=hS.hK;have hl:=hS.hl;have A:=hS.hp.nx;have o:=hB.nd.ps;have f:=hB.nd.len;simp only[sz,simprocAttr,sf,h2,Xp,hS.f0,bM hB.ry,bT hB.ry,hB.own.rows,hB.hlt,hB.row];refine (hS.hp.step (g':=_) (by simp<;>omega) (λi hi hi2=>?_)).app2 (k:=(J+1,0)) (LS.s hS.hx (by omega)) o (new:=[[XE bx.2.2.2]]) (by simp[sx,sy]) (by simp[aH];omega) λv1 ga hHa na fra foa lga vca vta=>?_
 ·simp[VO];omega
 simp only[sx,sy]at na fra foa lga;have c:ups V (J+1,0) v1 (0,0)=V (0,0):=ae;simp only[sz,simprocAttr,sf,bM hB.ry,bT hB.ry];refine (hHa.same (g':=_) (by simp) (by simp<;>omega)).putv (k:=(0,0)) LS.z c (row':=[XE x.Xx,v1,V (J+1,1)]) (by rw[ae];exact hB.e0) hB.row (by rw[vca];rfl) vta (by rw[vca];rfl) λgb hHb nb frb _=>?_;simp only[sy]at nb frb ⊢;refine⟨?_,?_⟩
 ·simp only[X7,X8,X3,XY];refine aE (false::(OQ (KI (true::(true::(OQ (true::[]))))))) [(0,7),(1,7),(2,7),(3,7),(4,7),(0,8)] (by simp[Xl,am,aC]) (by decide) ?_;rintro p hp x y hx a;simp only[Yh,Yc,ZQ]at hp;have ro1:=hB.own.refs_lt;rcases hp with rfl|rfl|rfl|rfl|rfl|rfl<;>(simp at hx a;subst hx;subst a;refine cK rfl rfl rfl rfl ?_ ?_ ?_<;>simp[am,aC,jI hB.ry]<;>first|omega| (intro i' b;have:=ro1 i' b;omega)| (intro i' b;rcases lga i' b with h|h<;>first|omega|simp at h)|skip)
 have n:tI (K+1) (ups V (J+1,0) v1) (ups (ups E (J+1,0) (.sl 1 (x.XA.map ci++[[XE bx.2.2.2]]))) (0,0) (.sl 3 (rows.set J [XE x.Xx,v1,V (J+1,1)]))) J ⟨x.Xx,x.XA++[bx.2.2.2],x.rows⟩:=by
  obtain⟨WN,B,q2,q3⟩:=hB.nd.rs;exact⟨by rw[ae,au];simp[ci],⟨WN,by rw[ae,ae];exact B,q2,λr y a=>by rw[ae];exact q3 r y a⟩,
   λr y a=>by rw[ae,ae];exact hB.nd.rr r y a,by simp;omega,by show x.rows.length<=K+1;omega,λy a=>by have:=f.2.2 y a;omega⟩
 have j:=n.rd hHb (λq hq=>LS.s hS.hx hq) (by omega);rw[nh,au,ae]at j;obtain⟨nds,w⟩:=yK hHb (λk hk=>hk) hB.Xd.v.e.z (au _ _ _) c j (by omega) (by omega);have l:gb.h.get 1=Xy 2 [[XE gr,V (0,0)]]:=by rw[frb 1 (by omega)];(try simp);rw[fra 1 (by omega),aJ,hS.f1]
 have m:gb.h.get 2=Xy 2 [[XE 0,.XC]]:=by rw[frb 2 (by omega)];(try simp);rw[fra 2 (by omega),aJ,hS.f2]
 exact fin _ _ gr _ nds (by simp[sx,h3]) (by simp[sx,h4]) (by simpa using l) (by simpa using m) (w.heap (by simp))
def bc3[Xr](hS:BS K J L x bx gr Rw t g V E)(fin:y9 Q) :
  wp C0 d none (.ops [oM 137 10,Ww 138 137,oF 139 1 138,oz (.store 1 (.t 139) (.k (.XC)))]) Q t [] g:=by
 obtain⟨h2,h3,h4,Xp,c,-⟩:=hS.st;let⟨rows,hB⟩:=hS.bt;have hK:=hS.hK;have hl:=hS.hl;simp only[sz,simprocAttr,Xp,bM hB.ry,bT hB.ry];refine hS.hp.put LS.z hB.e0 hB.row rfl rfl rfl λgb hHb nb frb _=>?_;simp only[sx];have a:=hB.nd.congr (V':=V) (E':=ups E (0,0) (.sl 3 (rows.set J [XE x.Xx,.XC,V (J+1,1)]))) (λ_=>rfl) (λq=>ae);have b:Rp.rp P3 0 gb.h (⟨x.Xx,[],x.rows⟩:Node) [XE x.Xx,.XC,V (J+1,1)]:=cE.2 ⟨_,_,rfl,⟨by show 0<2^63;decide,rfl⟩,a.rows hHb (λq hq=>LS.s hS.hx hq) (by omega)⟩;let⟨nds,e⟩:=yK hHb (λk hk=>hk) hB.Xd.z (au _ _ _) rfl b (by omega) (by omega);exact fin _ _ gr _ nds (by simp[sx,h3]) (by simp[sx,h4]) (by rw[frb 1 (by omega),hS.f1]) (by rw[frb 2 (by omega),hS.f2]) e
end
abbrev Sch:=Xb×List Int×List Int×List Int×Int
def QW{n:Xb}{v o w:List Int}{cs:List AV}:Rp.rp P k h ((n,v,o,w,m):Sch) cs↔∃a b c d,cs=[XE n.Xz,a,b,c,d,XE m]/\Xu P k h n.XD a/\Xu P k h v b/\Xu P k h o c/\Xu P k h w d:=by
 constructor
 ·rintro⟨c1,e,rfl,h1,f,i,rfl,h2,j,l,rfl,h3,p,q,rfl,h4,h5⟩;obtain⟨a,rfl,ha⟩:=dh.1 h1;obtain⟨b,rfl,hb⟩:=bo.1 h2;obtain⟨c,rfl,hc⟩:=bo.1 h3;obtain⟨d,rfl,hd⟩:=bo.1 h4;rw[aK.1 h5];exact⟨a,b,c,d,rfl,ha,hb,hc,hd⟩
 ·rintro⟨a,b,c,d,rfl,ha,hb,hc,hd⟩;exact⟨[XE n.Xz,a],[b,c,d,XE m],rfl,dh.2 ⟨a,rfl,ha⟩,[b],[c,d,XE m],rfl,bo.2 ⟨b,rfl,hb⟩,[c],[d,XE m],rfl,bo.2 ⟨c,rfl,hc⟩,[d],[XE m],rfl,bo.2 ⟨d,rfl,hd⟩,aK.2 rfl⟩
def pF(XF:List Int)(j:Nat):List Int:=((List.range j).map λv:Nat=>(v:Int)).filter λv=>!decide (v∈XF)
def CZ(n:Xb)(XF:List Int):List Int:=pF XF n.XD.length
def xB(XF:List Int)(j:Nat):pF XF (j+1)=pF XF j++if (j:Int)∈XF then [] else [(j:Int)]:=by
 unfold pF;rw[YF,YV,aaG];congr 1
 by_cases h:(j:Int)∈XF<;>simp[h]
def mE(XF:List Int)(j:Nat):(pF XF j).length<=j:=by unfold pF;exact Ya (aby _ _) (by simp)
def i7(n:Xb)(e:List Int)(j w:Nat):Int:=if w<j/\BK n e w=false then 0 else BJ n w
def zm(n:Xb)(e:List Int)(j:Nat):List Int:=(List.range (C2 n)).map (i7 n e j)
def BP(n:Xb)(e:List Int):List Int:=zm n e (C2 n)
def bo9(n:Xb)(e:List Int):zm n e 0=AE n (C2 n):=by unfold zm AE;exact YZ λw _=>by simp[i7]
def ma(n:Xb)(e:List Int)(j:Nat):(zm n e j).length=C2 n:=by simp[zm]
def bo8(n:Xb)(e:List Int)(j:Nat)(h:j<C2 n):(zm n e j)[j]?=some (BJ n j):=by simp[zm,i7,h]
def IQ{n:Xb}{e:List Int}{j:Nat}(h:j<C2 n):zm n e (j+1)=if BK n e j then zm n e j else (zm n e j).set j 0:=by
 apply Zd;intro i
 by_cases hi:i<C2 n
 ·by_cases c:BK n e j=true
  ·rw[XO c];simp only[zm,XK,ZO hi,YR,i7];congr 1
   by_cases e1:i=j
   ·subst e1;simp[c]
   ·have:(i<j+1)↔(i<j):=by omega
    simp[this]
  ·rw[XS c,YB]
   by_cases e1:j=i
   ·subst e1;rw[XO rfl,XO (by rw[ma];exact hi)];simp[zm,i7,hi,c]
   ·rw[XS e1];simp only[zm,XK,ZO hi,YR,i7];congr 1;have:(i<j+1)↔(i<j):=by omega
    simp[this]
 ·have a:∀k,(zm n e k)[i]?=none:=λk=>Yg (by rw[ma];omega);rw[a]
  split
  ·rw[a]
  ·rw[Yg];rw[aaE,ma];omega
def bb6(n:Xb)(e XF:List Int):Sch:=(n,XF,CZ n XF,BP n e,rK n e)
def zw(n:Xb)(e XF:List Int):Int:=if xM n e=0 then (if CY XF (n.XD.length:Int) then 0 else 2) else xM n e
def UY:VS:=λ_ _ _ v=>v=.WQ
def bo7:Q6 UY 0:=⟨λ{P k h v n} d r hn=>⟨.WQ,by
  subst r;obtain⟨n,rfl⟩:∃q,n=q+1:=⟨n - 1,by omega⟩
  rfl,rfl⟩,λ{k h v n} r hn=>⟨0,by
  subst r;obtain⟨n,rfl⟩:∃q,n=q+1:=⟨n - 1,by omega⟩
  rfl,Yi _⟩⟩
def bo6{α:Type} [Rp α](x:α)(sz:Nat)(hd:Rp.dp α<=20:=by decide):Q6 (JR x sz) 1 :=
 ⟨λ{P k h v n} d r hn=>by
  obtain⟨n,rfl⟩:∃q,n=q+1:=⟨n - 1,by omega⟩;exact Je d r (by omega) hd,λ{k h v n} r hn=>by
  obtain⟨n,rfl⟩:∃q,n=q+1:=⟨n - 1,by omega⟩;exact Mj r⟩
def Si(n:Xb)(e XF:List Int):VS:=if zw n e XF=0 then CH (JR (bb6 n e XF) 6) (One (0:Int)) else CH UY (One (zw n e XF))
def bo5(n:Xb)(e XF:List Int):Q6 (Si n e XF) 2:=by
 unfold Si
 split
 ·exact jb (bo6 _ _) (aI _) (by decide) (by decide)
 ·exact jb bo7 (aI _) (by decide) (by decide)
def zW(id ep i off:Nat):zV (.W9 id ep i off)=.val (.W9 id ep i off):=rfl
def RT(gr:Int)(vw:AV):List (Nat×AV):=[(2,vw),(3,Xq 0),(4,Xq 1),(9,Xq 3)]
structure NsH (gr:Int) (b ev vw u wv:AV) (m:Int) (g:G):Prop where
 h0:g.h.get 0=Xy 2 [[XE gr,b]]
 h1:g.h.get 1=Xy 1 [[ev]]
 h2:g.h.get 2=Xy 6 [[XE gr,b,vw,u,wv,XE m]]
 h3:g.h.get 3=Xy 1 [[Xq 2]]
 nx:4<=g.nx
def bo4[Xr]{b:AV}{m:Nat}(hd:0<d)(hm:m<=8)(hv:∀h,Xu Xt k h XF vw)
  (hh:NsH gr b ev vw .XC .XC 0 g) (ht:St t (RT gr vw)) (h49:Xs t 49=XE 0) (h48:Xs t 48=XE (m:Int))
  (fin:∀t g u,St t (RT gr vw)->NsH gr b ev vw u .XC 0 g->Own g 4 u 1 ((pF XF m).map ci)->Q (.exit 2) t [] g):VY (wp C0 d none eL) Q t [] g:=by
 simp only[eL];refine aT (by omega) (λj t df g=>df=[]/\St t (RT gr vw)/\∃u,NsH gr b ev vw u .XC 0 g/\Own g 4 u 1 ((pF XF j).map ci)) ⟨rfl,ht,.XC,hh,.inl ⟨rfl,rfl⟩⟩ h49 h48 (by decide)
  (by rintro j t df g v s (rfl|rfl|rfl) ⟨a1,⟨b1,b2,l,n,-⟩,c1⟩<;>exact⟨a1,by simp[St,RT,sx,b1,b2,l,n],c1⟩) ?_ ?_
 ·rintro j t df g r ⟨rfl,⟨h2,h3,h4,h9,-⟩,u,⟨g0,g1,g2,g3,o⟩,ho⟩ h49 h48;have kc:=λg:G=>An (d:=d) (g:=g) (x:=(j:Int)) hd (hv g.h);have hl:=mE XF j
  by_cases c:(j:Int)∈XF
  ·simp only[sz,simprocAttr,h2,h49,kc,c];refine⟨⟨by simp[St,RT,sx,h2,h3,h4,h9],u,⟨g0,g1,g2,g3,o⟩,?_⟩,h48⟩;rw[xB,XO c,X6];exact ho
  ·simp only[sz,simprocAttr,h2,h49,kc,c,sf,h9,g3,g2,zW];refine vB (ho.fr (by simp<;>omega) (λi hi=>?_)) (new:=[[XE (j:Int)]]) ?_ (by simp<;>omega) (by simp[aH]<;>omega) λv5 g5 o5 n5 f5 w5 l5=>?_
   ·have:=ho.lt hi;simp[VO];omega
   ·simp[ak,VO];rfl
   have lu:=λi (h:W5 u=some i)=>ho.lt h;simp only[sx,sy]at n5 f5 l5;have q:g.nx<g5.nx:=by omega
   have a:∀i,i<4->g5.h.get i=g.h.get i:=λi hi=>by rw[f5 i (by omega) λh=>by have:=lu i h;omega];simp;omega
   let⟨vc,vt⟩:=o5.cell;simp only[sz,simprocAttr,sf,a 2 (by omega),g2,zW,vc,vt];refine⟨?_,?_⟩
   ·simp only[X7,X8,X3,XY];refine aE (OQ (KI (true::(true::(OQ (true::[])))))) [(0,6),(1,6),(2,6),(3,6),(4,6),(0,7)] (by simp[Xl,am,aC]) (by decide) ?_;rintro p hp x y hx f;simp only[Yh,Yc,ZQ]at hp;rcases hp with rfl|rfl|rfl|rfl|rfl|rfl<;>(simp at hx f;subst hx;subst f;refine cK rfl rfl rfl rfl ?_ ?_ ?_<;>simp[am,aC,ge]<;>first|omega| (intro i' e;rcases l5 i' e with h|h|h<;>first|omega| (have:=lu i' h;omega)|simp at h)|skip)
   refine⟨⟨by simp[St,RT,sx,h2,h3,h4,h9],v5,⟨by simp[sy,a 0 (by omega),g0],by simp[sy,a 1 (by omega),g1],by simp[sy],by simp[sy,a 3 (by omega),g3],by simp[sy]<;>omega⟩,?_⟩,by simp[h49],by simp[h48]⟩;rw[xB,XS c,YV];exact o5.fr (by simp[sy]<;>omega) λi hi=>by have:=o5.lt hi;simp[sy];omega
 ·rintro t df g ⟨rfl,ht,u,hh,ho⟩;exact fin t g u ht hh ho
def bo3[Xr]{b ev:AV}{n:Xb}(hr:NR n)(hv:∀h,Xu Xt k h XF vw)(hN:∀h,Xu Xt 0 h n.XD b)(h0:g.h.get 0=Xy 2 [[XE gr,b]])
  (ht:St t ((28,vw)::RT gr vw)) (Xp:Xs t 10=XE (-1)) (h30:Xs t 30=XE 0) (h29:Xs t 29=XE (XF.length:Int))
  (bad:∀t,CY XF (n.XD.length:Int)=false->Xs t 6=.WQ->Xs t 7=XE 2->Q .ret t [] g)
  (fin:∀t,CY XF (n.XD.length:Int)=true->St t (RT gr vw)->Q (.exit 0) t [] g):VY (wp C0 d none c_) Q t [] g:=by
 have rv:=λh=>(hv h).ints;have lN:∀g:G,bC .slice b g=.val (XE (n.XD.length:Int)):=λg=>(hN .nil).len g;simp only[c_];refine aT (hv .nil).1 (λj t df g'=>df=[]/\g'=g/\St t ((28,vw)::RT gr vw)/\Xs t 10=XE (if j=0 then -1 else XF[j - 1]?.getD 0)/\(List.range j).all (zj XF (n.XD.length:Int))=true) ⟨rfl,rfl,ht,by simpa using Xp,by simp⟩ h30 h29 (by decide)
  (by rintro j t df g v s (rfl|rfl|rfl) h<;>simpa[St,RT,sx]using h) ?_ ?_
 ·rintro j t df g' o ⟨rfl,rfl,⟨f,h2,h3,h4,h9,-⟩,Xp,a⟩ h30 h29;obtain⟨x,hx,-,hm⟩:=af o;have p:j<(XF.map ci).length:=by simpa using o
  have q:(XF.map ci)[j]?=some (ci x):=by rw[XK,hx];rfl
  have l:XF[j]?.getD 0=x:=by rw[hx];rfl
  obtain⟨bf,e⟩:∃bf,bf=(if j=0 then (-1:Int) else XF[j - 1]?.getD 0):=⟨_,rfl⟩;rw[<-e]at Xp;have r:-1<=bf:=by
   rw[e];split
   ·omega
   ·have:=XQ.1 a (j - 1) (X0.2 (by omega));simp only[zj,XM,X9]at this;omega
  have key:zj XF (n.XD.length:Int) j=true↔bf<x/\x<(n.XD.length:Int):=by
   simp only[zj,XM,X9,l,YE,beq_iff_eq];rw[e]
   by_cases c:j=0
   ·simp only[c,if_true,true_or,and_true];omega
   ·rw[XS c]at e ⊢;rw[<-e];constructor
    ·rintro⟨⟨a1,a2⟩,a3|a3⟩
     ·exact absurd a3 c
     ·exact⟨a3,a2⟩
    ·rintro⟨a1,a2⟩;have:=XQ.1 a (j - 1) (X0.2 (by omega));simp only[zj,XM,X9,<-e]at this;exact⟨⟨by omega,a2⟩,.inr a1⟩
  have fl:¬(bf<x/\x<(n.XD.length:Int))->CY XF (n.XD.length:Int)=false:=λhn=>by rw[ZJ];intro h;exact hn (key.1 (XQ.1 h j (X0.2 o)))
  by_cases c1:x<=bf
  ·simp only[sz,simprocAttr,f,h30,rv,p,q,ci,Xp,c1];exact bad _ (fl (by omega)) (by simp[sx]) (by simp[sx])
  by_cases i:(n.XD.length:Int)<=x
  ·simp only[sz,simprocAttr,f,h30,rv,p,q,ci,Xp,c1,h3,h0,lN,i];exact bad _ (fl (by omega)) (by simp[sx]) (by simp[sx])
  ·simp only[sz,simprocAttr,f,h30,rv,p,q,ci,Xp,c1,h3,h0,lN,i];refine⟨⟨by simp[St,RT,sx,f,h2,h3,h4,h9],?_,?_⟩,h29⟩
   ·simp[hx]
   ·rw[bS,a,key.2 ⟨by omega,by omega⟩];rfl
 ·rintro t df g' ⟨rfl,rfl,⟨-,ht⟩,-,a⟩;exact fin t a ht
theorem bo2[Xr]{j ke:Nat}{b uu:AV}{e XB:List Int}{rd:Option Nat}(hl:e.length=XB.length)(he:∀h,Xu Xt ke h e ev)(hu:Xu P 0 g.h XB uu)
  (hh:NsH gr b ev vw u wv m g) (ho:Own g 4 wv 1 (mw.map ci)) (hj:j<mw.length)
  (ht:St t ((14,XE (j:Int))::(15,uu)::(78,ev)::RT gr vw)) (h80:Xs t 80=XE 0) (h79:Xs t 79=XE (e.length:Int))
  (fin:∀t,yn XB e=true->St t ((14,XE (j:Int))::RT gr vw)->Q (.exit 6) t [] g)
  (bad:∀t g',yn XB e=false->St t (RT gr vw)->Own g' 4 wv 1 ((mw.set j 0).map ci)->g'.nx=g.nx->(∀i,W5 wv≠some i->g'.h.get i=g.h.get i)->Q (.exit 5) t [] g'):VY (wp C0 d rd eM) Q t [] g:=by
 have re:=λh=>(he h).ints;have ru:=hu.ints;obtain⟨g0,g1,g2,g3,H⟩:=hh;simp only[eM];refine aT (m:=e.length) (he .nil).1 (λi t df g'=>df=[]/\g'=g/\St t ((14,XE (j:Int))::(15,uu)::(78,ev)::RT gr vw)/\(List.range i).all (k0 XB e)=true) ⟨rfl,rfl,ht,by simp⟩ h80 h79 (by decide)
  (by rintro j t df g v s (rfl|rfl|rfl) ⟨a1,a2,⟨c1,o,E,b1,b2,C,D,-⟩,c⟩<;>exact⟨a1,a2,by simp[St,RT,sx,c1,o,E,b1,b2,C,D],c⟩) ?_ ?_
 ·rintro i t df g' hi ⟨rfl,rfl,⟨a,U4,f,h2,h3,h4,h9,-⟩,k⟩ h80 h79;obtain⟨x,hx,-,hm⟩:=af hi;obtain⟨y,w,-,-⟩:=af (l:=XB) (j:=i) (by omega);have q:i<(e.map ci).length:=by simpa using hi
  have r:(e.map ci)[i]?=some (ci x):=by rw[XK,hx];rfl
  have A:i<(XB.map ci).length:=by rw[XN];omega
  have B:(XB.map ci)[i]?=some (ci y):=by rw[XK,w];rfl
  have key:k0 XB e i=true↔x<0\/x=y:=by simp only[k0,hx,w,XP,YE,X9]
  by_cases c1:(0:Int)<=x
  ·by_cases o:x=y
   ·simp only[sz,simprocAttr,f,h80,re,q,r,ci,o];have p:(0:Int)<=y:=by omega
    simp only[sz,simprocAttr,p,U4,ru,A,B,ci];refine⟨⟨by simp[St,RT,sx,a,U4,f,h2,h3,h4,h9],?_⟩,by simp[h80],by simp[h79]⟩;rw[bS,k,key.2 (.inr o)];rfl
   ·have F:j<(mw.map ci).length:=by rw[XN];exact hj
    obtain⟨z,hz,-,-⟩:=af hj;have q2:(mw.map ci)[j]?=some (ci z):=by rw[XK,hz];rfl
    simp only[sz,simprocAttr,f,h80,re,q,r,ci,c1,U4,ru,A,B,o,h9,g3,g2,zW,a,ho.rows,F];refine um (v:=wv) (sz:=1) (n:=1) (i:=j) (off:=0) (x:=XE 0) (row:=ci z) (row':=ci 0) ho q2 rfl rfl rfl λg5 o5 n5 f5 u5=>?_;rw[<-YS]at o5;simp only[sz,simprocAttr];refine bad _ g5 ?_ (by simp[St,RT,sx,h2,h3,h4,h9]) o5 n5 f5;rw[ZJ];intro h;rcases key.1 (XQ.1 h i (X0.2 hi)) with h|h
    ·omega
    ·exact o h
  ·simp only[sz,simprocAttr,f,h80,re,q,r,ci,c1];refine⟨⟨by simp[St,RT,sx,a,U4,f,h2,h3,h4,h9],?_⟩,h79⟩;rw[bS,k,key.2 (.inl (by omega))];rfl
 ·rintro t df g' ⟨rfl,rfl,⟨a,-,-,ht⟩,k⟩;exact fin t k ⟨a,ht⟩
def bo1{C:Xg}{rd:Option Nat}{a b:SC}{df:List Xo}{P:PT}(h1:wp C d rd a (λe t df g=>e=.norm/\P t df g) t df g)(h2:∀t df g,P t df g->wp C d rd b Q t df g):wp C d rd (.seq a b) Q t df g:=by rw[cX];refine ch _ h1 ?_;rintro e t df g ⟨rfl,h⟩;exact h2 t df g h
def bn_{x y:W7}(hx:x.wr=[])(hb:x.lk.big=false)(hs:x.lk.sr=[])(h3:∀i∈y.wr,∀j∈x.lk.rd,i≠j):bX x y=true:=by
 have h:=po h3;have k:∀l:List Nat,meets l []=false:=λl=>by simp[meets]
 simp only[bX,kH,gx,hx,hb,hs,h,k,Uf,Zl,ZK,VT,ZV]
 split<;>rfl
structure NsJ (gr:Int) (b ev vw u wv:AV) (n:Xb) (e:List Int) (g0:G) (W j:Nat) (g:G):Prop where
 h2:g.h.get 2=Xy 6 [[XE gr,b,vw,u,wv,XE (CW n (BK n e) j)]]
 hw:∃lo,g.h.get W=.cells 1 ((zm n e j).map ci) 0 lo false
 fr:∀i,i<g0.nx->i≠2->i≠W->g.h.get i=g0.h.get i
theorem bn9[Xr]{ke:Nat}{b:AV}{n:Xb}{e:List Int}(hd:0<d)(hr:NR n)(hN:∀h,Xu Xt 0 h n.XD b)(hel:e.length=n.XD.length)(he:∀h,Xu Xt ke h e ev)
  (hh:NsH n.Xz b ev vw u .XC 0 g) (ht:St t (RT n.Xz vw))
  (fin:∀t g' W df,Xs t 6=Xq 2->Xs t 7=XE 0->g.nx<=W->W<g'.nx->(∃lo,g'.h.get W=.cells 1 ((BP n e).map ci) 0 lo false)->g'.h.get 2=Xy 6 [[XE n.Xz,b,vw,u,.Xj W 0 0 (C2 n) none,XE (rK n e)]] ->
   (∀i,i<g.nx->i≠2->g'.h.get i=g.h.get i)->g.nx<=df->df<g'.nx->df≠W->g'.h.get df=.Xi true->Q .ret t [.mark df] g'):wp C0 d none eN Q t [] g:=by
 obtain⟨h2,h3,h4,h9,-⟩:=ht;obtain⟨g0,e1,g2,l,Z⟩:=hh;have h6:=hr.l2;obtain⟨W1,W2,W3⟩:=hr.wl;have J:Wq (IO n):=⟨hr.cs,by rw[ap];omega⟩;have s:EK (IO n)=C2 n:=rfl;have hA:∀h,WG n Xt 0 h (.agg [XE n.Xz,b]):=λh=>⟨_,rfl,dh.2 ⟨b,rfl,hN h⟩⟩;have le:∀g:G,bC .slice ev g=.val (XE (e.length:Int)):=λg=>(he .nil).len g;unfold eN;refine bo1 (P:=λt' df g'=>df=[]/\∃W,g.nx<=W/\W<g'.nx/\NsJ n.Xz b ev vw u (.Xj W 0 0 (C2 n) none) n e g W 0 g'/\g.nx<=g'.nx/\St t' (RT n.Xz vw)) ?_ ?_
 ·simp only[sz,simprocAttr,sf,h9,l,h3,g0];refine K8 hd hr (hA _) λg5 q5 n5 f5 u5=>?_;have v:∀i,i<g.nx->g5.h.get i=g.h.get i:=λi hi=>by rw[f5.2 i (by simp;omega)];simp
  have u6:∀i∈g5.lg,g.nx<=i:=λi hi=>by
   rcases u5.2 i hi with h|h
   ·simp at h
   ·simp at h;omega
  simp only[sy]at q5 n5;simp only[sz,simprocAttr,sf,v 2 (by omega),g2,zW];refine⟨?_,?_⟩
  ·simp only[X7,X8,X3,XY];refine aE (OQ (true::(OQ (true::[])))) [(0,2)] (by simp[Xl,am,aC,cz,yN]) (by decide) ?_;rintro p hp x y hx X;simp only[Yh,Yc,ZQ]at hp;subst hp;simp at hx X;subst hx;subst X;refine bn_ rfl rfl rfl λi hi j m=>?_;have hi:i∈g5.lg:=by simpa using hi
   have m:j=3:=by simpa [am,ge] using m
   have:=u6 i hi;omega
  refine⟨g.nx+3,by omega,by omega,⟨?_,?_,λi h1 h2 h3=>?_⟩,by omega,by simp[St,RT,sx,h2,h3,h4,h9]⟩
  ·simp[sy,CW]
  ·exact⟨false,by rw[bo9];simp[sy,q5]⟩
  ·simp[sy,h2,v i h1]
 ·rintro t df g1 ⟨rfl,W,w1,w2,V,n1,h2,h3,h4,h9,-⟩;have z0:g1.h.get 0=Xy 2 [[XE n.Xz,b]]:=by rw[V.fr 0 (by omega) (by omega) (by omega),g0]
  rw[cX,CE,xr];rw[cX];simp only[sz,simprocAttr,h3,z0];refine aG (Bj (n:=n) (by omega) (hN _) (by omega)) λrc hrc=>?_;simp only[sz,simprocAttr];obtain⟨z,kz,hz⟩:=Cj (d:=d) (g:=g1) (w:=rc) (cs:=IO n) hd (hrc.sl g1.h);simp only[sz,simprocAttr,kz];refine Em (cs:=IO n) (w:=z) J hz (by simp[sx]) (by decide) (by decide) (NsJ n.Xz b ev vw u (.Xj W 0 0 (C2 n) none) n e g W) (λ_=>False) ?_ (λ_ _ _ h=>h) V ?_ ?_ (λ_ h=>h.elim)
  ·rintro j g3 Z I ⟨a1,a2,B⟩;exact⟨by rw[I.1 _ (by omega),a1],by rw[I.1 _ (by omega)];exact a2,λi q1 q2 q3=>by rw[I.1 i (by omega),B i q1 q2 q3]⟩
  ·rintro j uu g3 m H h7 hu;rw[s]at m;simp only[sz,simprocAttr,jT];refine⟨Fr.refl _,λg5 n5 f5 u5=>?_⟩;have k:NsJ n.Xz b ev vw u (.Xj W 0 0 (C2 n) none) n e g W j g5:=by obtain⟨a1,a2,B⟩:=H;exact⟨by rw[u5.1 _ (by omega),a1],by rw[u5.1 _ (by omega)];exact a2,λi q1 q2 q3=>by rw[u5.1 i (by omega),B i q1 q2 q3]⟩
   have O:Xu (λi=>g1.nx+2<=i/\i<g3.nx) 0 g5.h (EN (IO n) (j:Int)) uu:=hu.far8 λi hi=>f5 i (by omega);have Y:g5.h.get 1=Xy 1 [[ev]]:=by rw[k.fr 1 (by omega) (by omega) (by omega),e1]
   simp only[sz,simprocAttr,jU,h4,Y,le];have R:=bO (IO n) (j:Int);rw[ap]at R;have M:((zm n e j).map ci).length=C2 n:=by rw[XN,ma]
   have L:=bm (λc hc=>(hr.cs c hc).1) (j:Int);have wb:=rf hr L;have A:Own g5 4 (.Xj W 0 0 (C2 n) none) 1 ((zm n e j).map ci):=by obtain⟨lo,h⟩:=k.hw;exact .inr ⟨W,0,lo,by omega,by omega,by rw[M],h⟩
   have sb:=xI hr (p:=BK n e) (j:=j) (by omega);have sb2:=xI hr (p:=BK n e) (j:=j+1) (by omega);refine bo2 (e:=e) (XB:=EN (IO n) (j:Int)) (j:=j) (mw:=zm n e j) (gr:=n.Xz) (b:=b) (ev:=ev) (vw:=vw) (u:=u) (wv:=.Xj W 0 0 (C2 n) none) (uu:=uu) (by omega) he O
    ⟨by rw[k.fr 0 (by omega) (by omega) (by omega),g0],Y,k.h2,by rw[k.fr 3 (by omega) (by omega) (by omega),l],by omega⟩ A (by rw[ma];exact m) (by simp[St,RT,sx,h2,h3,h4,h9]) (by simp[sx]) (by simp[sx]) ?_ ?_
   ·rintro t6 o ⟨C,D,E,F,r,-⟩;have f:BK n e j=true:=o;have m1:j<((zm n e j).map ci).length:=by omega
    have m2:((zm n e j).map ci)[j]?=some (ci (BJ n j)):=by rw[XK,bo8 n e j m];rfl
    have A:Own g5 4 (.Xj W 0 0 (C2 n) none) 1 ((zm n e j).map ci):=A;have U:g5.h.get 3=Xy 1 [[Xq 2]]:=by rw[k.fr 3 (by omega) (by omega) (by omega),l]
    have ss:CW n (BK n e) (j+1)=CW n (BK n e) j+BJ n j:=by rw[CW,XO f];rfl
    have w1:IntKind.wrap .i64 (CW n (BK n e) j+BJ n j)=CW n (BK n e) (j+1):=by rw[<-ss,an]
    simp only[sz,simprocAttr,sf,jV,r,U,k.h2,zW,C,A.rows,m1,m2,ci,w1];refine⟨?_,?_⟩
    ·simp only[X7,X8,X3,XY];exact aE (OQ (KI (OO (true::[])))) [] (by simp[Xl,am,aC]) (by decide) (by simp)
    refine⟨by simp[sy]<;>omega,λi q1 q2=>?_,.inl ⟨rfl,?_,?_,λi q1 q2 q3=>?_⟩⟩
    ·simp[sy,show ¬i=2 by omega]
    ·simp[sy]
    ·obtain⟨lo,h⟩:=k.hw;exact⟨lo,by rw[IQ m,XO f];simp[sy,show ¬W=2 by omega,h]⟩
    ·simp[sy,q2,k.fr i q1 q2 q3]
   ·rintro t6 g6 o ⟨D,E,F,r,-⟩ o6 n6 v;have f:BK n e j=false:=o;simp only[sz,simprocAttr];have q:∀i,i≠W->g6.h.get i=g5.h.get i:=λi hi=>v i (by simpa [W5] using λh:W=i=>hi h.symm);have N:CW n (BK n e) (j+1)=CW n (BK n e) j:=by rw[CW,f];simp
    refine⟨by omega,λi q1 q2=>q i (by omega),.inl ⟨rfl,?_,?_,λi q1 q2 q3=>?_⟩⟩
    ·rw[q 2 (by omega),k.h2,N]
    ·rw[IQ m,f];rcases o6 with⟨h,-⟩|⟨id,ep,lo,-,-,h,hg⟩
     ·cases h
     ·injection h with h1 h2 h3 h4 h5;subst h1;subst h2;exact⟨lo,by simpa using hg⟩
    ·rw[q i q3,k.fr i q1 q2 q3]
  ·rintro g' a hn K;rw[s]at a;have U:g'.h.get 3=Xy 1 [[Xq 2]]:=by rw[a.fr 3 (by omega) (by omega) (by omega),l]
   simp only[sz,simprocAttr,jW,h9,U];exact fin _ g' W g1.nx (by simp[sx]) (by simp[sx]) w1 (by omega) a.hw a.h2 (λi q1 q2=>by
    by_cases q3:i=W
    ·omega
    ·rw[a.fr i q1 q2 q3]) n1 (by omega) (by omega) K
theorem zU[Xr]{kv k1:Nat}{P1:Nat->Prop}{n:Xb}{e:List Int}{v:AV}(hd:kv<d)(hm:WG n Xt 0 g.h v)(he:Xu P1 k1 g.h e w)(hv:Xu Xt kv g.h XF u) :
  ∃r,ah C0 d 51 [v,w,u] g=.val r/\Si n e XF Xt kv .nil r:=by
 obtain⟨b,rows,rfl,e1,z,hN,J,K,L,M⟩:=cg d hm;obtain⟨w',e2,j⟩:=aB he d;have e3:=mc d hv;have f:∀h,Xu Xt kv h XF u:=λh=>hv.tree (XH _);have l:∀h,Xu Xt 0 h n.XD b:=λh=>hN.tree (XH 0);have lu:∀g:G,bC .slice u g=.val (XE (XF.length:Int)):=λg=>(f .nil).len g;have lN:∀g:G,bC .slice b g=.val (XE (n.XD.length:Int)):=λg=>(l .nil).len g;have kc:=λg=>OZ (d:=d+1) (g:=g) (XR d) (z g.h) (j g.h);rw[WL];refine aP vK (xs:=[.agg [XE n.Xz,b],w',u]) (by simp only[aD,e1,e2,e3]) (by simp[eg]) (bo5 n e XF) (by decide) hd ?_
 by_cases c:xM n e=0
 ·obtain⟨I,s⟩:=wT.1 c;have hr:=lT.1 I;have q:=(Dr s).1;have x:=hr.l2;have B:∀(g:G) (i m:Nat),dt (Xy 1 [[.WQ]]) g i 0 0 1 0 (Xq m)=.upd .undef (g.put i (Xy 1 [[Xq m]])):=λg i m=>rfl;obtain⟨FB,o⟩:∃F,F=c_:=⟨_,rfl⟩;simp only[sz,simprocAttr,eg,fq,kc,c,lu,Ay (j .nil),(f .nil).cell.1,(f .nil).cell.2,B,<-o];subst o;refine bo3 (k:=kv) (gr:=n.Xz) (ev:=w') (n:=n) (XF:=XF) hr f l (by simp[VO,show G.empty.nx=0 from rfl]) (by simp[St,RT,sx]) (by simp[sx]) (by simp[sx]) (by simp[sx]) ?_ ?_
  ·intro t hp h6 h7;have hs:zw n e XF=2:=by rw[zw,XO c,hp];rfl
   simp only[sz,simprocAttr,h6,h7];refine⟨Xt,?_⟩;rw[Si,hs];exact⟨_,_,rfl,rfl,aK.2 rfl⟩
  ·rintro t hp ⟨h2,h3,h4,h9,-⟩;have hs:zw n e XF=0:=by rw[zw,XO c,hp];rfl
   have p:NsH n.Xz b w' u .XC .XC 0 (((((G.empty.new (Xy 2 [[XE n.Xz,b]])).new (Xy 1 [[w']])).new (Xy 6 [[XE n.Xz,b,u,.XC,.XC,XE 0]])).new (Xy 1 [[.WQ]])).put 3 (Xy 1 [[Xq 2]])):=by constructor<;>simp[VO,show G.empty.nx=0 from rfl]
   generalize ((((G.empty.new (Xy 2 [[XE n.Xz,b]])).new (Xy 1 [[w']])).new (Xy 6 [[XE n.Xz,b,u,.XC,.XC,XE 0]])).new (Xy 1 [[.WQ]])).put 3 (Xy 1 [[Xq 2]])=g1 at p ⊢;simp only[sz,simprocAttr,jX,h3,p.h0,lN];refine bo4 (k:=kv) (m:=n.XD.length) (XR d) x f p (by simp[St,RT,sx,h2,h3,h4,h9]) (by simp[sx]) (by simp[sx]) λt g2 uo ht hH2 hO=>?_;simp only[kB,sz,simprocAttr];refine bn9 (XR d) hr l q j hH2 ht λt g3 W df h6 h7 w1 w2 gW g2' hf d1 d2 d3 hdf=>?_;show mN C0 (d+1) [.tm 6,.tm 7] t [.mark df] g3 λv g'=>∃P,Si n e XF P kv g'.h v;refine lB hdf ?_;simp only[sz,simprocAttr,h6,h7];have A:=λi (h:W5 uo=some i)=>hO.lt h;obtain⟨lo,gW⟩:=gW;have C:∀i,i≠df->(g3.h.put df (.Xi false)).get i=g3.h.get i:=λi hi=>by rw[aq hi]
   have q2:=(hO.fr (g':=g3.put df (.Xi false)) (by simp;omega) λi hi=>by have:=A i hi;rw[G.put_h,C i (by omega),hf i (by omega) (by omega)])
   have H:(CZ n XF).length<=_:=mE XF n.XD.length;have D:=hH2.nx;have y:(BP n e).length=C2 n:=ma _ _ _;have E:=hr.wl.2.1;refine⟨λ_=>True,?_⟩;rw[Si,XO hs];refine⟨_,_,rfl,.inl ⟨2,_,rfl,trivial,by rw[C 2 (by omega),g2'],?_⟩,aK.2 rfl⟩;refine QW.2 ⟨b,u,uo,_,rfl,hN.wide (Yi _),?_,q2.sl (α:=Int) (by omega) (VJ (λa=>aK.2 rfl) _) λ_ _=>trivial,?_⟩
   ·exact hv.wide (XH _)
   ·have gW':(g3.put df (.Xi false)).h.get W=.cells 1 ((BP n e).map ci) 0 lo false:=by rw[G.put_h,C W (by omega),gW]
    have o3:Own (g3.put df (.Xi false)) 0 (.Xj W 0 0 (C2 n) none) 1 ((BP n e).map ci):=.inr ⟨W,0,lo,Yi _,by simp;omega,by rw[XN,y],gW'⟩;exact o3.sl (α:=Int) (by omega) (VJ (λa=>aK.2 rfl) _) λ_ _=>trivial
 ·simp only[sz,simprocAttr,eg,fq,kc,c,Ay (j .nil)];refine⟨Xt,?_⟩;have hs:zw n e XF=xM n e:=by rw[zw,XS c]
  rw[Si,hs,XS c];exact⟨_,_,rfl,rfl,aK.2 rfl⟩
def K6(v:AV):Prop:=∀t s rows,v=.WO t s rows->s=1
def EA{n:Nat}{v v':AV}(r:Xu P k h l v)(h1:K6 v)(e:Hx.Xm h d (n+1) v=some v'):K6 v':=by
 have r:=r.2;unfold Oe at r
 split at r
 ·cases e;exact λ_ _ _ h=>by cases h
 ·cases e;exact λ_ _ _ h=>by cases h
 ·cases e;exact h1
 ·rename_i id ep off len lim;obtain⟨-,rows,q2,-⟩:=r;simp only[ak]at q2;simp only[Hx.Xm]at e
  split at q2
  ·rename_i sz' rows' ep' lo fz hg;rw[hg]at e;rw[aa]at q2
   split at q2
   ·rename_i hc;simp only[XM]at hc;let⟨⟨b,a⟩,c⟩:=hc;have e1:=YJ a;dsimp only at e;rw[aa]at e
    split at e
    ·split at e
     ·split at e
      ·injection e with e;subst e;intro t s rows h;injection h with a1 a2 f;have:Rp.sz Int=1:=rfl;omega
      ·cases e
     ·cases e
    ·cases e
   ·cases q2
  ·cases q2
 ·exact r.elim
def JQ(l:List Int):VS:=λP k h v=>Xu P k h l v/\K6 v
def th(l:List Int):Q6 (JQ l) 0:=by
 refine⟨λ{P k h v n} d r hn=>?_,λ{k h v n} r hn=>?_⟩
 ·let⟨r,a⟩:=r;let⟨v',e,r'⟩:=(aI l).Xm d (show One l P k h v from ⟨v,rfl,r⟩) hn;obtain⟨n,rfl⟩:∃q,n=q+1:=⟨n - 1,by omega⟩;let⟨w,hw,q⟩:=r';cases hw;exact⟨v',e,q,EA r a e⟩
 ·exact (aI l).tag (show One l Xt k h v from ⟨v,rfl,r.1⟩) hn
def Ce{v:AV}(r:Xu P k h l v)(r1:K6 v)(d:Nat):∃v',Hx.Xm h d aF v=some v'/\(∀h',Xu Xt (max k d) h' l v')/\K6 v':=by let⟨v',e,q⟩:=aB r d;exact⟨v',e,q,EA r r1 e⟩
def Mg{b sz:Nat}{rows:List (List AV)}(h:Own g b u sz rows):K6 u:=by
 intro t s r e;subst e;unfold Own at h;rcases h with⟨h,-⟩|⟨_,_,_,_,_,h,_⟩
 ·cases h
 ·cases h
def pD(n:Xb)(XF Xd mw:List Int)(m:Int)(k:Nat)(v:AV):Prop:=∃t b vw ow ww,v=.Xn t 6 [[XE n.Xz,b,vw,ow,ww,XE m]] 0 0/\t<=k/\Xu Xt k .nil n.XD b/\Xu Xt k .nil XF vw/\Xu Xt k .nil Xd ow/\Xu Xt k .nil mw ww
theorem bn8{n:Xb}{v:AV}(r:JR ((n,XF,Xd,mw,m):Sch) 6 Xt k h v):pD n XF Xd mw m k v:=by
 rcases r with⟨id,cs,rfl,e,-⟩|⟨t,cs,rfl,ht,r⟩
 ·exact e.elim
 ·obtain⟨a,b,c,d,rfl,ha,hb,hc,hd⟩:=QW.1 r;exact⟨t,a,b,c,d,rfl,ht,ha,hb,hc,hd⟩
def fj(h:H)(d t sz:Nat)(rows:List (List AV))(i off:Nat):Hx.Xm h d aF (.Xn t sz rows i off)=some (.Xn t sz rows i off):=rfl
def fK(t sz:Nat)(rows:List (List AV))(i off:Nat):zV (.Xn t sz rows i off)=.val (.Xn t sz rows i off):=rfl
def i4(n:Xb)(XF l:List Int)(i:Nat):Bool:=decide (0<=l[i]?.getD 0)&&decide (l[i]?.getD 0<(EP (IO n) XF)[i]?.getD 0)
def BI(n:Xb)(XF l:List Int):Bool:=decide (l.length<=XF.length)&&(List.range l.length).all (i4 n XF l)
def ue{n:Xb}{b:AV}{p:Int}(hN:Xu Xt k .nil n.XD b)(h0:0<=p)(h1:p<(n.XD.length:Int)):∃(pn:Nat) (x:Node) (rows:List (List AV)) (pa ra:AV),p=(pn:Int)/\n.XD[pn]?=some x/\(∀h,ak h 3 b=some rows)/\pn<rows.length/\rows[pn]?=some [XE x.Xx,pa,ra]/\px b=true/\x∈n.XD/\(IO n)[pn]?=some x.Xx:=by
 obtain⟨pn,rfl⟩:=XU h0;obtain⟨rows,c,f,d,e⟩:=hN.all;have hlt:pn<n.XD.length:=by omega
 obtain⟨x,hx,-,hm⟩:=af hlt;obtain⟨row,a,q2⟩:=d pn x hx;obtain⟨pa,ra,rfl,-,-⟩:=cE.1 q2;exact⟨pn,x,rows,pa,ra,rfl,hx,c,by omega,a,e (by omega),hm,by simp[IO,hx]⟩
theorem Iy[Xr]{n:Xb}{q:AV}(hd:0<d)(hq:pD n XF Xd mw m k q)(hp:CY XF (n.XD.length:Int)=true)(hw:Xu P k2 g.h l w) :
  ah C0 d 57 [q,w] g=.val (.bool (BI n XF l)):=by
 obtain⟨t,b,vw,ow,ww,rfl,ht,hb,hv,ho,K⟩:=hq;obtain⟨w',e2,i⟩:=aB hw d;have lw:∀g:G,bC .slice w' g=.val (XE (l.length:Int)):=λg=>(i .nil).len g;have lv:∀g:G,bC .slice vw g=.val (XE (XF.length:Int)):=λg=>hv.len g;have rw':=λh=>(i h).ints;have rv:=λh=>(hv.tree (h':=h) (XH _)).ints;have hl:=hw.1;rw[WL];refine cM mh (xs:=[.Xn t 6 [[XE n.Xz,b,vw,ow,ww,XE m]] 0 0,w']) (by simp only[aD,e2,fj]) (by simp[bW]) hd ?_
 by_cases c:XF.length<l.length
 ·have c':(XF.length:Int)<(l.length:Int):=by omega
  have hf:BI n XF l=false:=by simp[BI];omega
  simp only[sz,simprocAttr,bW,lw,lv,c',hf,fK,bZ,bj]
 ·have c':¬(XF.length:Int)<(l.length:Int):=by omega
  simp only[sz,simprocAttr,bW,d8,lw,lv,c',fK,bZ,bj];refine aT (m:=l.length) hl (λj t' df g=>df=[]/\St t' [(0,.Xn t 6 [[XE n.Xz,b,vw,ow,ww,XE m]] 0 0),(15,w')]/\(List.range j).all (i4 n XF l)=true) ⟨rfl,by simp[St,sx],by simp⟩ (by simp[sx]) (by simp[sx]) (by decide)
   (by rintro j t df g v s (rfl|rfl|rfl) ⟨a1,⟨b1,b2,-⟩,c1⟩<;>exact⟨a1,by simp[St,sx,b1,b2],c1⟩) ?_ ?_
  ·rintro j t' df g u ⟨rfl,⟨h0,U4,-⟩,a⟩ e o;obtain⟨x,hx,-,-⟩:=af u;obtain⟨p,f,-,z⟩:=af (l:=XF) (j:=j) (by omega);obtain⟨L,M⟩:=aO hp p z;obtain⟨pn,y,rows,pa,ra,rfl,N,D,E,F,H,-,r5⟩:=ue hb L M;have A:j<(l.map ci).length:=by simpa using u
   have B:(l.map ci)[j]?=some (ci x):=by rw[XK,hx];rfl
   have I:j<(XF.map ci).length:=by rw[XN];omega
   have J:(XF.map ci)[j]?=some (ci (pn:Int)):=by rw[XK,f];rfl
   have key:i4 n XF l j=true↔0<=x/\x<y.Xx:=by simp[i4,hx,EP,f,r5]
   have fl:¬(0<=x/\x<y.Xx)->BI n XF l=false:=λh=>by rw[ZJ];intro C;rw[BI,XM]at C;exact h (key.1 (XQ.1 C.2 j (X0.2 u)))
   by_cases c1:x<0
   ·simp only[sz,simprocAttr,U4,e,rw',A,B,ci,c1];simp[fl (by omega)]
   by_cases c2:y.Xx<=x
   ·simp only[sz,simprocAttr,U4,e,rw',A,B,ci,c1,h0,fK,bZ,bj,rv,I,J,D,E,F,H,c2];simp[fl (by omega)]
   ·simp only[sz,simprocAttr,U4,e,rw',A,B,ci,c1,h0,fK,bZ,bj,rv,I,J,D,E,F,H,c2];have r:(List.range (j+1)).all (i4 n XF l)=true:=by rw[bS,a,key.2 ⟨by omega,by omega⟩];rfl
    simp[St,sx,h0,U4,o,r]
  ·rintro t' df g ⟨rfl,-,a⟩;have:BI n XF l=true:=by rw[BI,a];simp;omega
   simp only[sz,simprocAttr,d9,this]
theorem Es[Xr]{n:Xb}{q:AV}(hd:0<d)(hq:pD n XF Xd mw m k q)(hp:∀x∈l,0<=x/\x<(n.XD.length:Int))(hw:Xu P k2 g.h l w)(hl:l.length<=8) :
  ∃r,ah C0 d 99 [q,w] g=.val r/\JQ (EP (IO n) l) Xt 0 .nil r:=by
 obtain⟨t,b,vw,ow,ww,rfl,ht,hb,hv,ho,E⟩:=hq;obtain⟨w',e2,z⟩:=aB hw d;have lw:∀g:G,bC .slice w' g=.val (XE (l.length:Int)):=λg=>(z .nil).len g;have rw':=λh=>(z h).ints;have D:(EP (IO n) l).length=l.length:=by simp[EP]
 rw[WL];refine aP rS (xs:=[.Xn t 6 [[XE n.Xz,b,vw,ow,ww,XE m]] 0 0,w']) (by simp only[aD,e2,fj]) (by simp[eP]) (th _) (by decide) hd ?_;simp only[sz,simprocAttr,eP,lw];refine l_ (b:=0) (n:=l.length) (by unfold aH;omega) (by unfold aH;omega) (Yi _) λu g1 hu n1 f1 v1=>?_;simp only[sz,simprocAttr,lw,gQ];refine aT (m:=l.length) (by omega) (λj t' df g=>df=[]/\St t' [(0,.Xn t 6 [[XE n.Xz,b,vw,ow,ww,XE m]] 0 0),(11,w'),(5,u)]/\Own g 0 u 1 ((((EP (IO n) l).take j)++List.replicate (l.length - j) 0).map ci)) ⟨rfl,by simp[St,sx],?_⟩ (by simp[sx]) (by simp[sx]) (by decide)
  (by rintro j t df g v s (rfl|rfl|rfl)<;>simp[sx,St]) ?_ ?_
 ·simpa [ci] using hu
 ·rintro j t' df g C ⟨rfl,⟨h0,a,h5,-⟩,c⟩ e A;obtain⟨p,o,-,B⟩:=af C;obtain⟨F,H⟩:=hp p B;obtain⟨pn,y,rows,pa,ra,rfl,O,I,J,K,L,-,r5⟩:=ue hb F H;have M:j<(l.map ci).length:=by simpa using C
  have N:(l.map ci)[j]?=some (ci (pn:Int)):=by rw[XK,o];rfl
  have f:(EP (IO n) l)[j]?=some y.Xx:=by simp[EP,o,r5]
  have o1:j<((((EP (IO n) l).take j)++List.replicate (l.length - j) 0).map ci).length:=by simp;omega
  have o2:((((EP (IO n) l).take j)++List.replicate (l.length - j) 0).map ci)[j]?=some (ci 0):=by rw[XK,X_ (by simp;omega),Zp];simp;omega
  have e3:((((EP (IO n) l).take j)++List.replicate (l.length - j) 0).map ci).set j (ci y.Xx)=(((EP (IO n) l).take (j+1))++List.replicate (l.length - (j+1)) 0).map ci:=by
   rw[<-YS,Y3 _ _ (by simp;omega),X5,YG (by omega),YN,X4 (by omega),show l.length - j=(l.length - (j+1))+1 by omega,Y4,Zt,YA];have:(EP (IO n) l)[j]=y.Xx:=by rw[NP]at f;injection f
   rw[this];rfl
  simp only[sz,simprocAttr,a,e,rw',M,N,ci,h0,fK,bZ,bj,I,J,K,L,h5,c.rows,o1];refine bF (v:=u) (sz:=1) (n:=1) (i:=j) (off:=0) (x:=XE y.Xx) (row:=ci 0) (row':=ci y.Xx) c o2 rfl rfl rfl λg3 o3 n3 f3=>?_;rw[e3]at o3;simp only[sz,simprocAttr];simpa [St,sx,h0,a,h5,A,e] using o3
 ·rintro t' df g ⟨rfl,⟨h0,a,h5,-⟩,c⟩;rw[XZ (by omega),YN]at c;simp only[sz,simprocAttr,gR,h5];obtain⟨w,hw,hS⟩:=(by simpa using c:Own g 0 u 1 ((EP (IO n) l).map ci)).ints (by omega);injection hw with hw;subst hw;exact⟨_,hS,Mg c⟩
def Bc[Xr]{n:Xb}{q:AV}(hd:0<d)(hq:pD n XF Xd mw m k q)(hp:∀x∈l,0<=x/\x<(n.XD.length:Int))(hw:Xu P k2 g.h l w)(hl:l.length<=8) :
  ∃r,ah C0 d 99 [q,w] g=.val r/\IT 0 (EP (IO n) l) r:=by
 let⟨r,h1,h2⟩:=Es hd hq hp hw hl;exact⟨r,h1,r,rfl,h2.1⟩
theorem bn7[Xr]{n:Xb}{q:AV}(hd:0<d)(hr:NR n)(hq:pD n XF Xd mw m k q)(hp:CY XF (n.XD.length:Int)=true)(hw:Xu P k2 g.h l w)(hl:Wr (EP (IO n) XF) l) :
  ah C0 d 101 [q,w] g=.val (XE (EL (EP (IO n) XF) l)):=by
 obtain⟨t,b,vw,ow,ww,rfl,ht,hb,hv,ho,L⟩:=hq;obtain⟨w',e2,o⟩:=aB hw d;have lw:∀g:G,bC .slice w' g=.val (XE (l.length:Int)):=λg=>(o .nil).len g;have rw':=λh=>(o h).ints;have rv:=λh=>(hv.tree (h':=h) (XH _)).ints;have H:(EP (IO n) XF).length=XF.length:=by simp[EP]
 have F:=hl.len;have E:=hr.l2;have K:=bc hp (by omega);have a:=aZ (ps:=XF) hr.cs (λp e=>by rw[ap];exact aO hp p e);rw[WL];refine cq iz (xs:=[.Xn t 6 [[XE n.Xz,b,vw,ow,ww,XE m]] 0 0,w']) (by simp only[aD,e2,fj]) (by simp[bY]) hd ?_;simp only[sz,simprocAttr,bY,dx,lw];refine aT (m:=l.length) (by omega) (λj t' df g=>df=[]/\St t' [(0,.Xn t 6 [[XE n.Xz,b,vw,ow,ww,XE m]] 0 0),(8,w'),(5,XE (EL ((EP (IO n) XF).take j) (l.take j)))]) ⟨rfl,by simp[St,sx,EL]⟩ (by simp[sx]) (by simp[sx]) (by decide)
  (by rintro j t df g v s (rfl|rfl|rfl)<;>simp[sx,St]) ?_ ?_
 ·rintro j t' df g B ⟨rfl,h0,h8,h5,-⟩ Xp h9;obtain⟨x,hx,u,-⟩:=af B;obtain⟨p,i,-,e⟩:=af (l:=XF) (j:=j) (by omega);obtain⟨N,O⟩:=aO hp p e;obtain⟨pn,y,rows,pa,ra,rfl,Z,Q,R,T,U,z,r5⟩:=ue hb N O;have X:j<(l.map ci).length:=by simpa using B
  have Y:(l.map ci)[j]?=some (ci x):=by rw[XK,hx];rfl
  have V:j<(XF.map ci).length:=by rw[XN];omega
  have W:(XF.map ci)[j]?=some (ci (pn:Int)):=by rw[XK,i];rfl
  have f:(EP (IO n) XF)[j]?=some y.Xx:=by simp[EP,i,r5]
  have c1:(EP (IO n) XF).take (j+1)=(EP (IO n) XF).take j++[y.Xx]:=by rw[X4 (by omega)];congr 2;rw[NP]at f;injection f
  have r:EL ((EP (IO n) XF).take (j+1)) (l.take (j+1))=EL ((EP (IO n) XF).take j) (l.take j)*y.Xx+x:=by rw[c1,u];exact zO (by simp;omega)
  have i1:=bz (λc h=>a c (Ym h)) (hl.take j);have C:=bz (λc h=>a c (Ym h)) (hl.take (j+1));have q1:=cy a (by omega) j;have q2:=cy a (by omega) (j+1);rw[r]at C ⊢;have M:=hr.Xx y z;obtain⟨A,D⟩:∃A,A=EL ((EP (IO n) XF).take j) (l.take j):=⟨_,rfl⟩;rw[<-D]at h5 i1 C ⊢;have I:0<=A*y.Xx:=Zg i1.1 (by omega);have J:A*y.Xx<=65536*4:=Z_ (by omega) (by omega) (by omega) (by omega);have w1:IntKind.wrap .i64 (A*y.Xx)=A*y.Xx:=an;have w2:IntKind.wrap .i64 (A*y.Xx+x)=A*y.Xx+x:=an;simp only[sz,simprocAttr,h8,Xp,rw',X,Y,ci,h0,h5,fK,bZ,bj,rv,V,W,Q,R,T,U,w1,w2];simp[St,sx,h0,h8,h9]
 ·rintro t' df g ⟨rfl,h0,h8,h5,-⟩;rw[XZ (by omega),XZ (by omega)]at h5;simp only[sz,simprocAttr,dy,h5]
section
variable {qv:AV}
def P_{n:Nat}{K:AV->G->Prop}{D:Xo->Prop}(hn:n<=65536)(k:∀g',g'.h.get g.nx=Xy 1 ((List.replicate n 0).map ci)->g'.nx=g.nx+1->Up g.nx g g'->g'.lg=g.nx::g.lg->K (.Xj g.nx 0 0 n none) g') :
  (DX 1 8 [XE 0] (XE (n:Int)) (XE (n:Int)) g).sat K g D:=by
 have h1:n<=aH:=by unfold aH;omega
 have h2:n*8<=aH:=by unfold aH;omega
 have key:DX 1 8 [XE 0] (XE (n:Int)) (XE (n:Int)) g=.upd (.Xj g.nx 0 0 n none) (g.new (Xy 1 (gz n [XE 0]))):=by
  show (match cd aH (XE (.ofNat n)) with
   | some cn=>match cd cn (XE (.ofNat n)) with
    |some ln=>ax (Nat.ble (cn*8) aH) (OR.upd (.Xj g.nx 0 0 ln none) (g.new (Xy 1 (gz cn [XE 0])))) .fail
    |none=>.fail
   |none=>.fail)=_
  have a1:cd aH (XE (.ofNat n))=some n:=by show ax (Nat.ble n aH) (some n) none=_;rw[aa,XO (by simpa using h1)]
  have a2:cd n (XE (.ofNat n))=some n:=by show ax (Nat.ble n n) (some n) none=_;rw[aa,XO (by simp)]
  rw[a1];dsimp only;rw[a2];dsimp only;rw[aa,XO (by simpa using h2)]
 rw[key];refine k _ ?_ (by simp) (Up.new (XH _) _) (by simp);simp[aY,gz,ci]
def P9{n:Nat}{K:AV->G->Prop}{D:Xo->Prop}(hn:n<=65536)(k:∀g',g'.h.get g.nx=Xy 1 ((List.replicate n 0).map ci)->g'.nx=g.nx+1->Up g.nx g g'->K (.Xj g.nx 0 0 n none) g') :
  (DX 1 8 [XE 0] (XE (n:Int)) (XE (n:Int)) g).sat K g D:=P_ hn λg' a b c _=>k g' a b c
def zk(n:Xb)(Xd:List Int)(w:Nat):Int:=EL (EP (IO n) Xd) (EP (EN (IO n) (w:Int)) Xd)
def LW(B tg:Nat)(qv:AV):List (Nat×AV):=[(1,.Xn tg 1 [[qv]] 0 0),(2,Xq B),(3,Xq (B+2))]
theorem bn6[Xr]{B:Nat}{n:Xb}{XB:List Int}{uu vv:AV}{j:Int}{rd:Option Nat}(hq:pD n XF Xd mw m k qv)(hp:∀x∈XF,0<=x/\x<(XB.length:Int))(hvl:XF.length<=8)(hu:Xu P 0 g.h XB uu)(hP:∀i,P i->i<g.nx/\B+3<=i)(hB:B+2<g.nx)
  (gv:Own g B (.Xj (B+1) 0 0 XF.length none) 1 (l.map ci)) (g2:g.h.get (B+2)=Xy 1 [[.Xj (B+1) 0 0 XF.length none]]) (hl:l.length=XF.length)
  (ht:St t ((5,uu)::(4,XE j)::(29,vv)::LW B tg qv)) (hvv:Xu Xt k .nil XF vv) (h31:Xs t 31=XE 0) (h30:Xs t 30=XE (XF.length:Int))
  (fin:∀t g',St t ((5,uu)::(4,XE j)::LW B tg qv)->g.nx<=g'.nx->(∀i,i<g.nx->i≠B+1->g'.h.get i=g.h.get i)->Up B g g'->Own g' B (.Xj (B+1) 0 0 XF.length none) 1 ((EP XB XF).map ci)->Q (.exit 2) t [] g'):VY (wp C0 d rd cU) Q t [] g:=by
 have rv:=λh=>(hvv.tree (h':=h) (XH _)).ints;have I:(EP XB XF).length=XF.length:=by simp[EP]
 simp only[cU];refine aT (m:=XF.length) (by omega) (λi t df g'=>df=[]/\St t ((5,uu)::(4,XE j)::(29,vv)::LW B tg qv)/\g.nx<=g'.nx/\(∀i,i<g.nx->i≠B+1->g'.h.get i=g.h.get i)/\Up B g g'/\Own g' B (.Xj (B+1) 0 0 XF.length none) 1 (((EP XB XF).take i++l.drop i).map ci)) ⟨rfl,ht,XH _,λ_ _ _=>rfl,Up.refl _ _,by simpa using gv⟩ h31 h30 (by decide)
  (by rintro i t df g v s (rfl|rfl|rfl) ⟨a1,⟨b1,b2,D,E,F,H,-⟩,c1⟩<;>exact⟨a1,by simp[St,LW,sx,b1,b2,D,E,F,H],c1⟩) ?_ ?_
 ·rintro i t df g1 hi ⟨rfl,⟨h5,h4,a,h1,h2,h3,-⟩,C,hf,f,A⟩ h31 h30;obtain⟨p,e,-,r⟩:=af hi;obtain⟨K,R⟩:=hp p r;obtain⟨pn,rfl⟩:=XU K;obtain⟨x,hx,-,-⟩:=af (l:=XB) (j:=pn) (by omega);have N:i<(XF.map ci).length:=by simpa using hi
  have O:(XF.map ci)[i]?=some (ci (pn:Int)):=by rw[XK,e];rfl
  have L:pn<(XB.map ci).length:=by rw[XN];omega
  have M:(XB.map ci)[pn]?=some (ci x):=by rw[XK,hx];rfl
  have w:Xu P 0 g1.h XB uu:=hu.far8 λi hi=>hf i (hP i hi).1 (by have:=hP i hi;omega);have ru:=w.ints;have gs:g1.h.get (B+2)=Xy 1 [[.Xj (B+1) 0 0 XF.length none]]:=by rw[hf _ hB (by omega),g2]
  have c:(EP XB XF)[i]?=some x:=by simp[EP,e,hx]
  obtain⟨y,J,-,-⟩:=af (l:=l) (j:=i) (by omega);have e3:(((EP XB XF).take i++l.drop i).map ci).set i (ci x)=((EP XB XF).take (i+1)++l.drop (i+1)).map ci:=by
   rw[<-YS,Y3 _ _ (by simp;omega),X5,YG (by omega),YN,X4 (by omega),YY (by omega),Zt,YA];have:(EP XB XF)[i]=x:=by rw[NP]at c;injection c
   rw[this];rfl
  have q:(((EP XB XF).take i++l.drop i).map ci).length=XF.length:=by simp;omega
  have o:i<(((EP XB XF).take i++l.drop i).map ci).length:=by rw[q];exact hi
  have u:(((EP XB XF).take i++l.drop i).map ci)[i]?=some (ci y):=by rw[XK,X_ (by simp;omega),YH];simp only[X5,YG (show i<=(EP XB XF).length by omega),YN,Zf,J,YR]
  simp only[sz,simprocAttr,sf,a,h31,rv,N,O,ci,h3,gs,h5,ru,L,M,A.rows,o];refine um (g:=_) (b:=B) (v:=.Xj (B+1) 0 0 XF.length none) (sz:=1) (n:=1) (i:=i) (off:=0) (x:=XE x) (row:=ci y) (row':=ci x) (A.fr (by simp<;>omega) (λi' hi'=>by simp)) u rfl rfl rfl λg5 o5 n5 f5 u5=>?_;rw[e3]at o5;have z:∀i',i'≠B+1->g5.h.get i'=g1.h.get i':=λi' hi'=>by rw[f5 i' (by simpa [W5] using λh:B+1=i'=>hi' h.symm)];simp
  simp only[sy]at n5;simp only[sz,simprocAttr];refine⟨?_,?_⟩
  ·simp only[X7,X8,X3,XY];exact aE (false::(OQ (KI (true::[])))) [] (by simp[Xl,am,aC]) (by decide) (by simp)
  refine⟨⟨by simp[St,LW,sx,h5,h4,a,h1,h2,h3],by first|omega| (simp<;>omega),λi' h1 h2=>by simp[z i' h2,hf i' h1 h2],f.trans ⟨λi' h=>by simp[z i' (by omega)],λi' h=>?_⟩,o5.fr (by simp<;>omega) λi' h=>by simp⟩,by simp[h31],by simp[h30]⟩;simp at h;rcases h with h|h
  ·rcases u5.2 i' h with h|h
   ·simp at h
   ·exact .inr h
  ·exact .inl h
 ·rintro t df g' ⟨rfl,⟨h5,h4,-,ht⟩,C,hf,f,gv1⟩;rw[XZ (by omega),abt (by omega),X6]at gv1;exact fin t g' ⟨h5,h4,ht⟩ C hf f gv1
theorem bn5[Xr]{B t0:Nat}{n:Xb}{XB:List Int}{b ow ww uu:AV}{j:Int}{rd:Option Nat}(hr:NR n)(hb:Xu Xt k .nil n.XD b)(ho:Xu Xt k .nil Xd ow)(hp:∀x∈Xd,0<=x/\x<(n.XD.length:Int))(hol:Xd.length<=8)(hin:Wr (IO n) XB)(hu:Xu P 0 g.h XB uu)
  (ht:St t ((5,uu)::(4,XE j)::(47,ow)::(8,XE 0)::LW B tg (.Xn t0 6 [[XE n.Xz,b,vw,ow,ww,XE m]] 0 0))) (h49:Xs t 49=XE 0) (h48:Xs t 48=XE (Xd.length:Int))
  (fin:∀t,St t ((8,XE (EL (EP (IO n) Xd) (EP XB Xd)))::(4,XE j)::LW B tg (.Xn t0 6 [[XE n.Xz,b,vw,ow,ww,XE m]] 0 0))->Q (.exit 4) t [] g):VY (wp C0 d rd cV) Q t [] g:=by
 have ro:=λh=>(ho.tree (h':=h) (XH _)).ints;have w:=hin.len;rw[ap]at w;have L:(EP (IO n) Xd).length=Xd.length:=by simp[EP]
 have M:(EP XB Xd).length=Xd.length:=by simp[EP]
 have e:=aZ (ps:=Xd) hr.cs (λp a=>by rw[ap];exact hp p a);have hC:=dB hin (λp a=>by rw[ap];exact hp p a);have ru:=hu.ints;simp only[cV];refine aT (m:=Xd.length) (by omega) (λi t df g'=>df=[]/\g'=g/\St t ((5,uu)::(4,XE j)::(47,ow)::(8,XE (EL ((EP (IO n) Xd).take i) ((EP XB Xd).take i)))::LW B tg (.Xn t0 6 [[XE n.Xz,b,vw,ow,ww,XE m]] 0 0))) ⟨rfl,rfl,by simpa [EL] using ht⟩ h49 h48 (by decide)
  (by rintro i t df g v s (rfl|rfl|rfl) ⟨a1,a2,⟨b1,b2,D,E,F,H,I,-⟩⟩<;>exact⟨a1,a2,by simp[St,LW,sx,b1,b2,D,E,F,H,I]⟩) ?_ ?_
 ·rintro i t df g' hi ⟨rfl,rfl,⟨h5,h4,o,h8,h1,h2,h3,-⟩⟩ h49 h48;obtain⟨p,f,-,a⟩:=af hi;obtain⟨U,V⟩:=hp p a;obtain⟨pn,y,rows,pa,ra,rfl,hy,W,X,Y,Z,z,r5⟩:=ue hb U V;obtain⟨x,hx,-,-⟩:=af (l:=XB) (j:=pn) (by omega);have z1:i<(Xd.map ci).length:=by simpa using hi
  have z2:(Xd.map ci)[i]?=some (ci (pn:Int)):=by rw[XK,f];rfl
  have y1:pn<(XB.map ci).length:=by rw[XN];omega
  have y2:(XB.map ci)[pn]?=some (ci x):=by rw[XK,hx];rfl
  have q:(EP (IO n) Xd)[i]?=some y.Xx:=by simp[EP,f,r5]
  have r:(EP XB Xd)[i]?=some x:=by simp[EP,f,hx]
  have c1:(EP (IO n) Xd).take (i+1)=(EP (IO n) Xd).take i++[y.Xx]:=by rw[X4 (by omega)];congr 2;rw[NP]at q;injection q
  have J:(EP XB Xd).take (i+1)=(EP XB Xd).take i++[x]:=by rw[X4 (by omega)];congr 2;rw[NP]at r;injection r
  have u:EL ((EP (IO n) Xd).take (i+1)) ((EP XB Xd).take (i+1))=EL ((EP (IO n) Xd).take i) ((EP XB Xd).take i)*y.Xx+x:=by rw[c1,J];exact zO (by simp;omega)
  have i1:=bz (λc h=>e c (Ym h)) (hC.take i);have C:=bz (λc h=>e c (Ym h)) (hC.take (i+1));have q1:=cy e (by omega) i;have q2:=cy e (by omega) (i+1);rw[u]at C ⊢;have R:=hr.Xx y z;obtain⟨A,K⟩:∃A,A=EL ((EP (IO n) Xd).take i) ((EP XB Xd).take i):=⟨_,rfl⟩;rw[<-K]at h8 i1 C ⊢;have N:0<=A*y.Xx:=Zg i1.1 (by omega);have O:A*y.Xx<=65536*4:=Z_ (by omega) (by omega) (by omega) (by omega);have w1:IntKind.wrap .i64 (A*y.Xx)=A*y.Xx:=an;have w2:IntKind.wrap .i64 (A*y.Xx+x)=A*y.Xx+x:=an;simp only[sz,simprocAttr,o,h49,ro,z1,z2,ci,h8,h1,h5,fK,bZ,bj,W,X,Y,Z,ru,y1,y2,w1,w2];simp[St,LW,sx,h1,h2,h3,h4,h5,o,h48]
 ·rintro t df g' ⟨rfl,rfl,⟨-,h4,-,h8,ht⟩⟩;rw[XZ (by omega),XZ (by omega)]at h8;exact fin t ⟨h8,h4,ht⟩
theorem bn4[Xr]{id:Nat}{n:Xb}{g0:G}{K:AV->G->Prop}(hd:0<d)(hr:NR n)(hq:pD n XF Xd mw m k qv)(hp:∀x∈XF,0<=x/\x<(n.XD.length:Int))(hvl:XF.length<=8)(hpo:∀x∈Xd,0<=x/\x<(n.XD.length:Int))(hol:Xd.length<=8)(hmw:mw.length=C2 n)
  (J:Nat->G->Prop) (hJ:∀j g g',(∀i,i<g0.nx->g'.h.get i=g.h.get i)->J j g->J j g')
  (step:∀(j:Nat) (w:Int) (u:AV) (g:G) (K':AV->G->Prop) (D:Xo->Prop),j<C2 n->mw[j]?=some w->g0.nx<=g.nx->J j g->Own g g0.nx u 1 ((EP (EN (IO n) (j:Int)) XF).map ci) ->
   (∀g',J (j+1) g'->g.nx<=g'.nx->(∀i,g0.nx<=i->i<g.nx->g'.h.get i=g.h.get i)->K' (.bool true) g')->(da (I C0) d id [.agg [XE (zk n Xd j),XE w],u] g).sat K' g D)
  (h0:J 0 g0) (fin:∀g',J (C2 n) g'->g0.nx<=g'.nx->K (.WM []) g') :
  wp C0 d none bh.code (Sb C0 d bh.res K) (bJ 0 [.VZ id,.Xn tg 1 [[qv]] 0 0] .nil) [] g0:=by
 obtain⟨t0,b,vw,ow,ww,rfl,O,hb,hv,ho,v⟩:=hq;have V:=hr.l2;obtain⟨W1,W2,W3⟩:=hr.wl;have H:Wq (IO n):=⟨hr.cs,by rw[ap];omega⟩;have r:EK (IO n)=C2 n:=rfl;have lv:∀g:G,bC .slice vw g=.val (XE (XF.length:Int)):=λg=>hv.len g;have lo:∀g:G,bC .slice ow g=.val (XE (Xd.length:Int)):=λg=>ho.len g;have T6:=λh=>(v.tree (h':=h) (XH _)).ints;obtain⟨B,hB⟩:∃B,B=g0.nx:=⟨_,rfl⟩;have F:∀g:G,Gy (.VZ id) g=.upd (Xq g.nx) (g.new (Xy 1 [[.VZ id]])):=λg=>rfl;obtain⟨Qf,o⟩:∃Qf,Qf=Sb C0 d bh.res K:=⟨_,rfl⟩;rw[<-o];simp only[sz,simprocAttr,bh,F];unfold fF;refine bP (P:=λt' df g'=>df=[]/\g'.nx=B+3/\g'.h.get B=Xy 1 [[.VZ id]]/\Own g' B (.Xj (B+1) 0 0 XF.length none) 1 ((List.replicate XF.length 0).map ci)/\g'.h.get (B+2)=Xy 1 [[.Xj (B+1) 0 0 XF.length none]]/\Up B g0 g'/\St t' (LW B tg (.Xn t0 6 [[XE n.Xz,b,vw,ow,ww,XE m]] 0 0))) ?_ ?_
 ·simp only[sz,simprocAttr,bj,fK,bZ,lv];refine P9 (by omega) λg2 m2 n2 u2=>?_;simp only[sx]at m2 n2 u2;rw[<-hB]at m2 n2 u2;simp only[sz,simprocAttr,n2,<-hB];have U:Own g2 B (.Xj (B+1) 0 0 XF.length none) 1 ((List.replicate XF.length 0).map ci):=.inr ⟨B+1,0,false,by omega,by omega,by simp,m2⟩;refine⟨?_,U.fr (by simp) λi hi=>?_,?_,by simp[St,LW,sx]⟩
  ·rw[aJ,aJ,u2.1 B (by omega),G.new_h,hB,aY]
  ·have:i=B+1:=by simpa [W5] using hi.symm
   subst this;simp[VO,n2]
  ·exact ((Up.new (by omega) _).trans (u2.mono (by omega))).trans ((Up.new (by omega) _).trans (Up.put (by omega) _))
 rintro t df g1 ⟨rfl,n1,gB,gV,gS,U1,h1,h2,h3,-⟩;have C:J 0 g1:=hJ _ _ _ (hB ▸ U1).1 h0;simp only[sz,simprocAttr,h1,bj,fK,bZ];refine aG (Bj (n:=n) hd (hb.tree (h':=g1.h) (XH _)) (by omega)) λrc hrc=>?_;simp only[sz,simprocAttr];obtain⟨z,kz,hz⟩:=Cj (d:=d) (g:=g1) (w:=rc) (cs:=IO n) hd (hrc.sl g1.h);simp only[sz,simprocAttr,kz];refine Em (cs:=IO n) (w:=z) H hz (by simp[sx]) (by decide) (by decide)
  (λj g'=>J j g'/\g'.h.get B=Xy 1 [[.VZ id]]/\(∃l:List Int,l.length=XF.length/\∃lo,g'.h.get (B+1)=.cells 1 (l.map ci) 0 lo false)/\g'.h.get (B+2)=Xy 1 [[.Xj (B+1) 0 0 XF.length none]]) (λ_=>False) ?_ (λ_ _ _ h=>h) ?_ ?_ ?_ (λ_ h=>h.elim)
 ·rintro j g3 Z p ⟨a1,a2,e,a4⟩;rw[n1]at p;exact⟨hJ _ _ _ (λi hi=>p.1 i (by omega)) a1,by rw[p.1 _ (by omega),a2],by rw[p.1 _ (by omega)];exact e,by rw[p.1 _ (by omega),a4]⟩
 ·refine⟨C,gB,?_,gS⟩;rcases gV with⟨h,-⟩|⟨id,ep,lo,-,-,h,hg⟩
  ·cases h
  ·injection h with e1 e2;subst e1;subst e2;exact⟨_,by simp,lo,hg⟩
 ·rintro j uu g3 R ⟨a1,a2,e,a4⟩ N hu;rw[r]at R;rw[n1]at N hu;simp only[sz,simprocAttr,eV];refine⟨Fr.refl _,λg5 n5 f5 u5=>?_⟩;rw[n1]at f5 u5;obtain⟨l,hl,lo1,e⟩:=e;have L:=bm (λc hc=>(hr.cs c hc).1) (j:Int);have a:=bO (IO n) (j:Int);rw[ap]at a;have s:Xu (λi=>B+3+2<=i/\i<g3.nx) 0 g5.h (EN (IO n) (j:Int)) uu:=hu.far8 λi hi=>f5 i (by omega);have gB5:g5.h.get B=Xy 1 [[.VZ id]]:=by rw[u5.1 _ (by omega),a2]
  have gV5:Own g5 B (.Xj (B+1) 0 0 XF.length none) 1 (l.map ci):=.inr ⟨B+1,0,lo1,by omega,by omega,by rw[XN,hl],by rw[u5.1 _ (by omega),e]⟩;have gS5:g5.h.get (B+2)=Xy 1 [[.Xj (B+1) 0 0 XF.length none]]:=by rw[u5.1 _ (by omega),a4]
  have E:J j g5:=hJ _ _ _ (λi hi=>u5.1 i (by omega)) a1;simp only[sz,simprocAttr,eW,h1,bj,fK,bZ,lv];refine bn6 (B:=B) (n:=n) (XF:=XF) (m:=m) (mw:=mw) (Xd:=Xd) (XB:=EN (IO n) (j:Int)) (l:=l) (vv:=vw) (tg:=tg) (qv:=.Xn t0 6 [[XE n.Xz,b,vw,ow,ww,XE m]] 0 0) (k:=k) (uu:=uu) (j:=(j:Int))
   ⟨t0,b,vw,ow,ww,rfl,O,hb,hv,ho,v⟩ (by rw[a];exact hp) hvl s (λi hi=>by omega) (by omega) gV5 gS5 hl (by simp[St,LW,sx,h1,h2,h3]) hv (by simp[sx]) (by simp[sx]) ?_
  rintro t6 A ⟨h5,h4,h1,h2,h3,-⟩ n6 y U6 gV6;have Q:Xu (λi=>B+3+2<=i/\i<g3.nx) 0 A.h (EN (IO n) (j:Int)) uu:=s.far8 λi hi=>y i (by omega) (by omega);simp only[sz,simprocAttr,eZ,h1,bj,fK,bZ,lo];refine bn5 (B:=B) (n:=n) (Xd:=Xd) (XB:=EN (IO n) (j:Int)) (tg:=tg) (k:=k) (uu:=uu) (j:=(j:Int)) (t0:=t0) (b:=b) (vw:=vw) (ow:=ow) (ww:=ww) (m:=m) hr hb ho hpo hol L Q (by simp[St,LW,sx,h1,h2,h3,h4,h5]) (by simp[sx]) (by simp[sx]) ?_;rintro t7 ⟨h8,h4,h1,h2,h3,-⟩;have gB6:A.h.get B=Xy 1 [[.VZ id]]:=by rw[y _ (by omega) (by omega),gB5]
  have gS6:A.h.get (B+2)=Xy 1 [[.Xj (B+1) 0 0 XF.length none]]:=by rw[y _ (by omega) (by omega),gS5]
  obtain⟨w,hw,-,-⟩:=af (l:=mw) (j:=j) (by omega);have X:j<(mw.map ci).length:=by rw[XN];omega
  have Y:(mw.map ci)[j]?=some (ci w):=by rw[XK,hw];rfl
  simp only[sz,simprocAttr,sf,eX,h2,gB6,h8,h1,bj,fK,bZ,T6,h4,X,Y,ci,h3,gS6];show (da (I C0) d id [.agg [XE (zk n Xd j),XE w],.Xj (B+1) 0 0 XF.length none] _).sat _ _ _;have M:(EP (EN (IO n) (j:Int)) XF).length=XF.length:=by simp[EP]
  refine step j w (.Xj (B+1) 0 0 XF.length none) _ _ _ R hw ?_ (hJ _ _ _ (λi hi=>by simp[U6.1 i (by omega)]) E) ?_ λg8 hJ8 n8 f8=>?_
  ·simp;omega
  ·exact hB ▸ gV6.fr (by simp<;>omega) λi hi=>by simp
  simp only[sy]at n8 f8;simp only[sz,simprocAttr,sf];refine⟨?_,?_⟩
  ·simp only[X7,X8,X3,XY];refine aE (false::(OQ (OO (true::(false::[]))))) [] ?_ (by decide) (by simp);have fd:∀(t:T) (g:G) (f:Od) (xs:List Od),f.get t=.VZ id->(SO.foot C0 t g (.dyn f xs)).sr=[]:=λt g f xs h=>by simp only[SO.foot,h];rfl
   simp[Xl,am,aC,fd,sx]
  refine⟨by simp;omega,λi h1 h2=>?_,.inl ⟨rfl,hJ _ _ _ (λi hi=>by simp) hJ8,by rw[f8 _ (by omega) (by omega),gB6],?_,by rw[f8 _ (by omega) (by omega),gS6]⟩⟩
  ·rw[n1]at h1;simp[f8 i (by omega) (by omega),y i h2 (by omega)]
  ·rw[f8 _ (by omega) (by omega)];rcases gV6 with⟨h,-⟩|⟨id,ep,lo,-,-,h,hg⟩
   ·cases h
   ·injection h with e1 e2;subst e1;subst e2;exact⟨_,M,lo,hg⟩
 ·rintro g' ⟨a1,a2,e,a4⟩ W q;rw[r]at a1;rw[n1]at W q;rw[o];show mN C0 d [] t [.mark g1.nx] g' K;refine lB (by rw[n1];exact q) ?_;exact fin _ (hJ _ _ _ (λi hi=>by rw[G.put_h,aq]) a1) (by simp;omega)
def bn3[Xr]:C0.ext 132=none:=by kernel_rfl
def yV[Xr]{nt p q r:Nat}{n:Xb}{ca cb:SC}{df:List Xo}(hd:0<d)(hr:NR n)(hqv:pD n XF Xd mw m k qv)(hpv:∀x∈XF,0<=x/\x<(n.XD.length:Int))(hvl:XF.length<=8)(hpo:∀x∈Xd,0<=x/\x<(n.XD.length:Int))(hol:Xd.length<=8)(hmw:mw.length=C2 n)
  (hv:Xs t r=.W_ 132 [] [.Xn tg 1 [[qv]] 0 0]) (hp:p<nt) (hq:q<nt)
  (J:Nat->G->Prop) (hJ:∀j g1 g2,(∀i,i<g.nx->g2.h.get i=g1.h.get i)->J j g1->J j g2) (h0:J 0 g)
  (step:∀(j:Nat) (w:Int) (u:AV) (g1:G),j<C2 n->mw[j]?=some w->J j g1->g.nx+2<=g1.nx->Own g1 (g.nx+2) u 1 ((EP (EN (IO n) (j:Int)) XF).map ci) ->
   wp C0 d (some (g.nx+1)) ca (λe t1 df g1'=>e=.norm/\df=[]/\Fr g1 g1'/\∀g2:G,g2.nx=g1'.nx->(∀i,i≠g.nx+1->g2.h.get i=g1'.h.get i) ->
    wp C0 d (some (g.nx+1)) cb (λe _ df g3=>df=[]/\Vu g.nx g2 g3 e (J (j+1) g3) False) t1 [] g2)
    (eT (eT t p (.agg [XE (zk n Xd j),XE w])) q u) [] g1)
  (fin:∀g',J (C2 n) g'->g.nx+2<=g'.nx->g'.h.get g.nx=.Xi true->Q .norm t (.mark g.nx::df) g') :
  wp C0 d none (.SL nt (.t r) [p,q] ca cb) Q t df g:=by
 refine y7 hv bn3 nZ (by simp[bh]) ?_;intro assign body ha z;have e1:((g.new (.Xi true)).new (.loop nt t [p,q] assign body g.nx .ready none)).nx=g.nx+2:=by simp
 refine bn4 hd hr hqv hpv hvl hpo hol hmw
  (λj g'=>J j g'/\g'.h.get g.nx=.Xi true/\g'.h.get (g.nx+1)=.loop nt t [p,q] assign body g.nx .ready none) ?_ ?_ ?_ ?_
 ·rintro j h h' f ⟨a1,a2,b⟩;rw[e1]at f;exact⟨hJ j h h' (λi hi=>f i (by omega)) a1,by rw[f _ (by omega),a2],by rw[f _ (by omega),b]⟩
 ·rintro j w u g1 K' D H hw l ⟨a1,a2,b⟩ Xj kk;rw[e1]at l kk Xj;refine F8 b ha z (t':=eT (eT t p (.agg [XE (zk n Xd j),XE w])) q u) ?_ ?_
  ·simp only[dN,aa,YM,XO hp,XO hq];rfl
  ·refine ch _ (step j w u g1 H hw a1 (by omega) Xj) ?_;rintro e t1 df g1' ⟨rfl,rfl,a,h⟩;have c:g.nx+1<g1.nx:=by omega
   have hl:g.nx+1<g1'.nx:=XX c a.1;have o:g1'.h.get g.nx=.Xi true:=by rw[a.2 _ (by omega),a2]
   have v:g1'.h.get (g.nx+1)=.loop nt t [p,q] assign body g.nx .ready none:=by rw[a.2 _ c,b]
   refine⟨rfl,rfl,v,?_⟩;refine ch _ (h (g1'.put (g.nx+1) (.loop nt t [p,q] assign body g.nx .busy none)) (by simp) (λi hi=>by simp[VO,hi])) ?_;rintro e I df g3 ⟨rfl,⟨b2,y,b1⟩⟩;have C:g3.h.get (g.nx+1)=.loop nt t [p,q] assign body g.nx .busy none:=by rw[y _ (by omega) (by simpa using hl)];simp[VO]
   have E:g3.h.get g.nx=.Xi true:=by rw[y _ (by omega) (by simp;omega)];simp[VO,o]
   refine⟨rfl,C,?_⟩;have B:g1'.nx<=g3.nx:=by simpa using b2
   have F:=a.1;rcases b1 with⟨rfl,b1⟩|⟨rfl,b1⟩
   ·refine .inl ⟨rfl,kk _ ⟨hJ _ g3 _ (λi hi=>by rw[G.put_h,aq]) b1,?_,?_⟩ (by simp;omega) λi h1 h2=>?_⟩
    ·simp[VO,E]
    ·simp[VO]
    ·have A:¬i=g.nx+1:=by omega
     have:=y i (by omega) (by simp;omega);simp[VO,A]at this ⊢;rw[this,a.2 i h2]
   ·exact b1.elim
 ·refine⟨hJ 0 g _ (λi hi=>by rw[G.new_h,aq (by simp;omega),G.new_h,aq]) h0,?_,?_⟩
  ·simp[VO]
  ·simp[VO]
 ·rintro g' ⟨a1,a2,b⟩ l;rw[e1]at l;refine⟨_,_,_,_,_,_,.inl ⟨b,fin _ (hJ _ g' _ (λi hi=>by rw[G.put_h,aq]) a1) (by simpa using l) ?_⟩⟩;simp[VO,a2]
def WoV(q:AV)(t0:Nat):VS:=λP k h v=>t0<=k/\((∃id,v=.W_ 132 [] [Xq id]/\P id/\h.get id=Xy 1 [[q]])\/∃tg,v=.W_ 132 [] [.Xn tg 1 [[q]] 0 0]/\tg<=k)
def bn2{q:AV}{t0 sz off:Nat}{rows:List (List AV)}(hq:q=.Xn t0 sz rows i off):Q6 (WoV q t0) 2:=by
 subst hq;refine⟨λ{P k h v n} d r hn=>?_,λ{k h v n} r hn=>?_⟩
 ·obtain⟨n,rfl⟩:∃q,n=q+3:=⟨n - 3,by omega⟩;obtain⟨r0,⟨id,rfl,-,hg⟩|⟨tg,rfl,ht⟩⟩:=r
  ·refine⟨.W_ 132 [] [.Xn (Nat.max d (Nat.max (Nat.max t0 0) 0)) 1 [[.Xn t0 sz rows i off]] 0 0],?_,by omega,.inr ⟨_,rfl,?_⟩⟩
   ·simp only[Hx.Xm,aD,hg,show Nat.beq 0 0=true from rfl,jf,il]
    rfl
   ·show max d (max (max t0 0) 0)<=max k d;omega
  ·exact⟨.W_ 132 [] [.Xn tg 1 [[.Xn t0 sz rows i off]] 0 0],rfl,by omega,.inr ⟨tg,rfl,by omega⟩⟩
 ·obtain⟨n,rfl⟩:∃q,n=q+3:=⟨n - 3,by omega⟩;obtain⟨r0,⟨id,-,h,-⟩|⟨tg,rfl,ht⟩⟩:=r
  ·exact h.elim
  ·exact⟨Nat.max tg 0,rfl,by show max tg 0<=k;omega⟩
def y6[Xr]{n:Xb}{q:AV}(hd:k<d)(hq:pD n XF Xd mw m k q) :
  ∃tg,ah C0 d 100 [q] g=.val (.W_ 132 [] [.Xn tg 1 [[q]] 0 0]):=by
 obtain⟨t0,b,vw,ow,ww,e0,ht,hb,hv,ho,c⟩:=hq;have key:∃r,ah C0 d 100 [q] g=.val r/\WoV q t0 Xt k .nil r:=by
  rw[WL];refine aP qG (xs:=[q]) (by rw[e0];simp only[aD,fj]) (by simp[el]) (bn2 e0) (by decide) hd ?_;have a:∀g:G,Gy q g=.upd (Xq g.nx) (g.new (Xy 1 [[q]])):=λg=>by rw[e0];rfl
  simp only[sz,simprocAttr,el,gU,a];exact⟨λ_=>True,ht,.inl ⟨0,rfl,trivial,by simp[VO]⟩⟩
 obtain⟨r,hr,-,⟨id,-,h,-⟩|⟨tg,rfl,-⟩⟩:=key
 ·exact h.elim
 ·exact⟨tg,hr⟩
end
end
end Hx
