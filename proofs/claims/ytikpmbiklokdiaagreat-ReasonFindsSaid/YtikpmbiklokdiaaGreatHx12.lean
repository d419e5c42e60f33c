/- A part of the proof. -/
import Derived.Test.YtikpmbiklokdiaaGreatHx11
set_option linter.all false
set_option maxRecDepth 20000
set_option maxHeartbeats 8000000
namespace Hx
open Go
noncomputable section
variable {g g0:G}{d b k a m nt s y p ty i ZP kk ky:Nat}{n:Zv}{e Z2 vs:List Int}{t:T}{w v fl S_ u:AV}{h:H}{K:AV->G->Prop}{x:Int}{C:ZO}{Q:QT}{D:ZU->Prop}{df:List ZU}{rd:Option Nat}{assign body:Code}
theorem bu2(n:Zv)(ls:List (List Int)):Qx (UL n ls) 2:=o7 λy=>bM (m:=2) (cH _) (aE _) (by decide) (by decide)
def qn0:Qi:=(⟨0,[]⟩,[],[])
theorem T0(P:Nat->Prop)(h:H):Zl qn0 P 0 h (.agg [Z_ 0,.Z6,.Z6,.Z6]):=⟨_,rfl,Bz.2 ⟨.Z6,.Z6,.Z6,rfl,⟨by show 0<2^63;decide,rfl⟩,⟨by show 0<2^63;decide,rfl⟩,⟨by show 0<2^63;decide,rfl⟩⟩⟩
theorem bu1{a b c:AV}(h:w.cells=[w])(h2:w.isTup=false)(h3:b.cells=[b])(h4:b.isTup=false):dX [Z_ 0,.Z6,.Z6,.Z6] [((0,2),.agg [a,c]),((2,1),b),((3,1),w)]=some [a,c,b,w]:=by
 have k:(AV.agg [a,c]).cells=[a,c]:=rfl;have k2:(AV.agg [a,c]).isTup=false:=rfl;simp[dX,h,h2,h3,h4,eJ,k,k2]
 rfl
theorem Rv[Z0]{P:Nat->Prop}{ls:List (List Int)}(hd:0<d)(hm:Zl n ZX 0 g.h v)(hw:ZT P kk g.h ls w):∃r,ae C0 d 66 [v,w] g=.val r/\UL n ls ZX 0 .nil r:=by
 obtain⟨b,rows,rfl,e1,N,hN,r1,r2,r3,r4⟩:=bT d hm;obtain⟨w',e2,T⟩:=aZ hw d;obtain⟨wrows,p1,p2,p3,p4⟩:=(T .nil).all;have p1:∀h',ak h' 1 w'=some wrows:=p1;have hb:=hw.1;have wl:=λg=>(T .nil).len g;rw[Zn];refine aI Jg (xs:=[.agg [Z_ n.Z8,b],w']) (by simp only[aD,e1,e2]) (by simp[xd]) (bu2 n ls) (by decide) hd ?_;simp only[sz,simprocAttr,xd];obtain⟨g0,hg0⟩:∃g0,g0=(G.empty.new (Z4 2 [[Z_ n.Z8,b]])).new (Z4 4 [[Z_ 0,.Z6,.Z6,.Z6]]):=⟨_,rfl⟩;rw[<-hg0];have f0:g0.h.get 0=Z4 2 [[Z_ n.Z8,b]]:=by rw[hg0];simp[sx,Za]
 have f1:g0.h.get 1=Z4 4 [[Z_ 0,.Z6,.Z6,.Z6]]:=by rw[hg0];simp[sx]
 have f2:g0.nx=2:=by rw[hg0];simp[sx]
 clear hg0;simp only[zl];obtain⟨z,ez,fs,⟨o,M⟩,fl,er,rfl,a,A⟩:=bu_ (d:=d+1) (g:=g0) (abc d) (N g0.h);have A:=ay.1 A;injection A with A;subst A;obtain⟨_,V,a⟩:=a;injection V with V;subst V;cases hn:Dm n with
 | false =>
  have hs:wM n ls=50:=by rw[wM,hn];rfl
  rw[hn]at ez;simp only[Uc,↓reduceIte]at ez;simp only[sz,simprocAttr,f0,ez,show ¬((50:Int)=0) from by decide,f1];refine⟨λ_=>True,qn0,?_,_,_,rfl,?_,?_⟩
  ·rw[hs];intro h;cases h
  ·exact T0 _ _
  ·rw[hs];exact ay.2 rfl
 | true =>
  have hr:=bU.1 hn;have o:=o hn;rw[hn]at ez;simp only[↓reduceIte]at ez;refine gv (P:=λt' df g'=>df=[]/\g'=g0/\St t' [(1,w'),(2,ZZ 0),(4,ZZ 1),(6,fl),(7,Z_ 0)]) ?_ ?_
  ·simp only[sz,simprocAttr,f0,ez];simp[St,sx]
  rintro t df g1 ⟨rfl,rfl,h1,h2,h4,B,h7,-⟩;obtain⟨Qf,H⟩:∃Qf,Qf=Xs C0 (d+1) [SR.cell true 4 4,SR.tm 5] (λv g'=>∃P,UL n ls P 0 g'.h v):=⟨_,rfl⟩;rw[<-H];simp only[sz,simprocAttr,h1,h7,wl,xe];refine b_ (m:=ls.length) hb (λj t df g=>df=[]/\St t [(25,w'),(2,ZZ 0),(4,ZZ 1),(6,fl)]/\g=g1/\∀e∈ls.take j,EQ n e=true) ⟨rfl,by simp[St,sx,h2,h4,B],rfl,by simp⟩ (by simp[sx]) (by simp[sx]) (by decide)
   (by rintro j t df g v s (rfl|rfl|rfl) ⟨a1,⟨b1,b2,b3,b4,-⟩,c1,c2⟩<;>exact⟨a1,by simp[St,sx,b1,b2,b3,b4],c1,c2⟩) ?_ ?_
  ·rintro j t df g hj ⟨rfl,⟨u,h2,h4,B,-⟩,rfl,c⟩ J W;obtain⟨e,he,ha,h3⟩:=ah hj;obtain⟨row,q1,q2⟩:=p3 j e he;obtain⟨z,rfl,hz⟩:=dW.1 q2;have hlt:j<wrows.length:=by omega
   have D:=Kt (d:=d+1) (g:=g) (e:=e) (w:=z) (abc d) (N g.h) (hz.tree (h':=g.h) (ZV _));cases hev:EQ n e with
   | true =>
    have hs:Di n e=0:=by rw[Di,hn,hev];rfl
    rw[hs]at D;simp only[sz,simprocAttr,u,J,W,h2,p1,hlt,q1,f0,D];refine⟨by simp[St,sx,h2,h4,B,u],λy U=>?_⟩;rw[ha]at U;rcases Tn.1 U with h|h
    ·exact c y h
    ·rw[Wa.1 h];exact hev
   | false =>
    have hs:Di n e=2:=by rw[Di,hn,hev];rfl
    have Q:wM n ls=2:=by
     have:ls.all (EQ n)=false:=by rw[<-HF,Xw];intro h;rw[h e h3]at hev;cases hev
     rw[wM,hn,this];rfl
    rw[hs]at D;rw[H];simp only[sz,simprocAttr,u,J,h2,h4,p1,hlt,q1,f0,f1,D,show ¬((2:Int)=0) from by decide];refine⟨λ_=>True,qn0,?_,_,_,rfl,?_,?_⟩
    ·rw[Q];intro h;cases h
    ·exact T0 _ _
    ·rw[Q];exact ay.2 rfl
  ·rintro t df g ⟨rfl,⟨u,h2,h4,B,-⟩,rfl,c⟩;rw[Xo]at c;have hs:wM n ls=0:=by rw[wM,hn,Xw.2 c];rfl
   have h5:=hr.l2;have fll:=λg=>a.len g;simp only[sx,↓reduceIte];unfold xh;refine gv (P:=λt' df g'=>df=[]/\∃S_ q,St t' [(2,ZZ 0),(4,ZZ 1),(6,fl),(11,ZZ q)]/\AskH n.Z8 b fl S_ n.Z7.length q fs 0 g') ?_ ?_
   ·simp only[sz,simprocAttr,sf,h2,B,f0,fll,o];refine qp (b:=2) (n:=n.Z7.length) (by unfold aQ;omega) (by unfold aQ;omega) (by first| (simp;done)| (simp;omega)) λS_ g2 hS n2 f2' vS lg2=>?_;simp only[sy]at n2 f2' vS lg2;have F:fl.cells=[fl]/\fl.isTup=false:=by
     have h:=a.2;unfold NJ at h
     split at h<;>first|exact⟨rfl,rfl⟩|exact h.elim
    simp only[sz,simprocAttr,sf,bu1 hS.cell.1 hS.cell.2 F.1 F.2,lg2];have hl:g.nx+5=g2.nx:=by omega
    have k0:g2.h.get 0=Z4 2 [[Z_ n.Z8,b]]:=by rw[f2' 0 (by omega),f0]
    have k1:g2.h.get 1=Z4 4 [[Z_ 0,.Z6,.Z6,.Z6]]:=by rw[f2' 1 (by omega),f1]
    refine⟨?_,S_,g2.nx+1+1,by simp[St,sx,h2,h4,B],⟨?_,?_,?_,⟨by omega,by simp⟩,λi hi=>by have:=iv vS hi;omega,List.replicate n.Z7.length .Z6,[],?_,by simp,rfl,trivial,λi f X _ h=>by simp at h⟩⟩
    ·simp only[I9,Nq,DI,ML,G.new_lg,G.put_lg,X7];refine aK (JO (true::(false::(true::(true::[]))))) [(0,4),(1,4),(0,6),(1,6),(2,6),(3,6),(4,6),(5,6)] (by simp[ZL,am,aA]) (by decide) ?_;rintro p O x y hx U;simp only[Y0,QA,TP]at O;rcases O with rfl|rfl|rfl|rfl|rfl|rfl|rfl|rfl<;>(simp at hx U;subst hx;subst U;refine dP rfl rfl rfl rfl ?_ ?_ ?_<;>simp[am,aA,an]<;>omega)
    ·simp[Za,k0]
    ·simp[Za,k1]
    ·simp[Za]
    ·have I:Own g2 2 S_ 1 ((List.replicate n.Z7.length AV.Z6).map λv=>[v]):=by simpa using hS
     refine I.fr (by simp;omega) λi hi=>?_;have:=iv vS hi;simp[Za,show ¬i=g2.nx+1+1 by omega]
   clear u h2 h4 B;rintro t df g2 ⟨rfl,S_,q,⟨h2,h4,B,C,-⟩,hp⟩;have Z:=hN.len;simp only[sz,simprocAttr,B,fll,o];refine bu3 (m:=n.Z7.length) (q:=q) (gr:=n.Z8) (b:=b) (fl:=fl) (S_:=S_) (fs:=fs) Z h5 a o (λi f hf=>?_) ⟨by simp[St,sx,h2,h4,C],hp⟩ (by simp[sx]) (by simp[sx]) ?_
   ·have hi:=(tI.1 hf).1;obtain⟨x,hx,-,-⟩:=ah (l:=n.Z7) (j:=i) (by omega);obtain⟨p,h9,E⟩:=M i x hi hx;rw[hf]at E;injection E with E;subst E;exact Sa hr hx h9
   clear h2 h4 B C hp;rintro t g3 ⟨⟨C,h2,h4,hc,-⟩,hp⟩;obtain⟨Vs,l,hS,hg,h8,K,R⟩:=hp.hS;rw[U8 (by omega)]at K;rw[H];have q2:=hp.q2.1;simp only[sz,simprocAttr,xg,C,h4,hp.hq,hp.h1];have hk:∀i,i≠1->(g3.h.put 1 (Z4 4 [[Z_ n.Z8,b,fl,S_]])).get i=g3.h.get i:=λi hi=>by simp[Za,hi]
   refine⟨λ_=>True,(n,fs,l),λ_=>⟨rfl,o,M,h8,R⟩,_,_,rfl,⟨_,rfl,Bz.2 ⟨b,fl,S_,rfl,hN.wide (ZV 0),a.wide (ZV 0),?_⟩⟩,?_⟩
   ·have I:Own (g3.put 1 (Z4 4 [[Z_ n.Z8,b,fl,S_]])) 2 S_ 1 (Vs.map λv=>[v]):=hS.fr (by simp) λi hi=>by have:=(hS.lt hi).1;simp[Za,show ¬i=1 by omega]
    refine Own.sl (α:=List Int) I (by show l.length<_;omega) ?_ λ_ _=>trivial;have L:∀(l:List (List Int)) (Vs:List AV),ZL (λX v=>Own g3 (q+1) v 1 (X.map ci)) l Vs->(∀X∈l,X.length<2^63)->ZL (Rp.rp (λ_=>True) 0 (g3.put 1 (Z4 4 [[Z_ n.Z8,b,fl,S_]])).h) l (Vs.map λv=>[v]):=by
     intro l
     induction l with
     | nil=>intro Vs h _;cases Vs with
      |nil=>trivial
      |cons v Vs=>exact h.elim
     | cons X l ih=>intro Vs h hX;cases Vs with
      |nil=>exact h.elim
      | cons v Vs =>
       refine⟨?_,ih Vs h.2 λY hY=>hX Y (by simp[hY])⟩;have ho:Own (g3.put 1 (Z4 4 [[Z_ n.Z8,b,fl,S_]])) (q+1) v 1 (X.map ci):=h.1.fr (by simp) λi hi=>by have:=(h.1.lt hi).1;simp[Za,show ¬i=1 by omega]
       obtain⟨_,e1,hh⟩:=ho.ints (k:=0) (hX X (by simp));exact dW.2 ⟨_,e1,hh⟩
    refine L l Vs K λX hX=>?_;obtain⟨i,hi,he⟩:=QX.1 hX;have:=(R i _ X (Zq (show i<fs.length by omega)) (by rw[Zq hi,he])).1;omega
   ·rw[hs];exact ay.2 rfl
theorem Ou{α:Type}{l:List α}{x y:α}(h1:l[i]?=some x)(h2:l[i]?=some y):x=y:=by rw[h1]at h2;injection h2
structure WtI (y:Qi) (b fl S_ wv va ca wa:AV) (gr wt:Int) (p:Int) (Z1 pv:List Int) (m k fb i:Nat) (t:T) (g:G):Prop where
 st:St t [(1,wv),(2,ZZ 0),(12,fl),(13,Z_ (m:Int)),(14,Z_ (k:Int)),(5,Z_ wt),(6,Z_ (k:Int)),(7,ZZ fb),(20,va),(8,Z_ (p - GX (Z1.drop i) (pv.drop i)))]
 h0:g.h.get 0=Z4 4 [[Z_ gr,b,fl,S_]]
 hf:g.h.get fb=Z4 3 [[va,ca,wa]]
 nn:0<=p - GX (Z1.drop i) (pv.drop i)
 nx:1<=g.nx
theorem bu0[Z0]{fb kv kz:Nat}{y:Qi}{b wv va ca wa:AV}{gr wt p:Int}{f:Zj}{R:List Int}{mm:Nat}(hva:ZT ZX kv .nil f.ZI va)(hF:FOk mm f)(hR:j7 mm f 0 R)(hvl:Z2.length=mm)
  (hS:∃(srows:List (List AV)) (z:AV),(∀h,ak h 1 S_=some srows)/\srows[k]?=some [z]/\k<srows.length/\ZT ZX kz .nil R z) (rv:∀h,ak h 1 wv=some (Z2.map ci)) (hp:p=GX f.Z1 (G3 Z2 f.ZI)) (hin:YZ f.Z1 (G3 Z2 f.ZI)) (hpb:p<=10000000)
  (h0:WtI y b fl S_ wv va ca wa gr wt p f.Z1 (G3 Z2 f.ZI) m k fb 0 t g) (h22:ZY t 22=Z_ 0) (h21:ZY t 21=Z_ (f.ZI.length:Int))
  (fin:∀t g,WtI y b fl S_ wv va ca wa gr wt p f.Z1 (G3 Z2 f.ZI) m k fb f.ZI.length t g->Q (.exit 2) t [] g):Uk (wp C0 d none dR) Q t [] g:=by
 obtain⟨srows,z,s1,s2,s3,hz⟩:=hS;have rva:=λh=>(hva.tree (h':=h) (ZV _)).ints;have rz:=λh=>(hz.tree (h':=h) (ZV _)).ints;simp only[dR];refine b_ (m:=f.ZI.length) hva.1 (λi t df g=>df=[]/\WtI y b fl S_ wv va ca wa gr wt p f.Z1 (G3 Z2 f.ZI) m k fb i t g) ⟨rfl,h0⟩ h22 h21 (by decide)
  (by rintro j t df g v s (rfl|rfl|rfl) ⟨a1,⟨b1,b2,K,L,M,N,O,P,U,w,-⟩,c1,V,W,X⟩<;>exact⟨a1,by simp[St,sx,b1,b2,K,L,M,N,O,P,U,w],c1,V,W,X⟩) ?_ ?_
 ·rintro i t df g hi ⟨rfl,⟨h1,h2,A,B,C,h5,I,h7,n,h8,-⟩,e0,ef,h3,F⟩ h22 h21;obtain⟨u,hu,-,q⟩:=ah hi;obtain⟨H,q⟩:=hF.vr u q;obtain⟨un,rfl⟩:=Wu H;have hcl:=hF.cl;have E:f.Z1.drop i=f.Z1[i]::f.Z1.drop (i+1):=Tg (by omega);have e:Z2[un]?=some Z2[un]:=Zq (by omega);have a:(G3 Z2 f.ZI)[i]?=some Z2[un]:=by simp[G3,hu,e]
  have o:(G3 Z2 f.ZI).drop i=Z2[un]::(G3 Z2 f.ZI).drop (i+1):=by
   have hl:i<(G3 Z2 f.ZI).length:=by rw[Ap];exact hi
   rw[Tg hl];rw[Zq hl]at a;injection a with a;rw[a]
  have r:0<=Z2[un]:=by obtain⟨v',h1,h2,-⟩:=hin.get (i:=i) (c:=f.Z1[i]) (Zq (by omega));rw[Ou a h1];exact h2
  generalize Z2[un]=x at e a o r;have l:=hR.2 i (un:Int) (Jq _) hu;rw[Ya]at l;have D:=(tI.1 l).1;have u1:i<(f.ZI.map ci).length:=by simpa using hi
  have u2:(f.ZI.map ci)[i]?=some (ci (un:Int)):=by rw[Zy,hu];rfl
  have u3:un<(Z2.map ci).length:=by simp;omega
  have u4:(Z2.map ci)[un]?=some (ci x):=by rw[Zy,e];rfl
  have u5:un<(R.map ci).length:=by simpa using D
  have u6:(R.map ci)[un]?=some (ci (G5 (f.Z1.drop (i+1)))):=by rw[Zy,l];rfl
  have J:GX (f.Z1.drop i) ((G3 Z2 f.ZI).drop i)=x*G5 (f.Z1.drop (i+1))+GX (f.Z1.drop (i+1)) ((G3 Z2 f.ZI).drop (i+1)):=by rw[E,o,GX]
  have Y:=gt (Z1:=f.Z1.drop (i+1)) (Z2:=(G3 Z2 f.ZI).drop (i+1)) (λc hc=>hF.cb c (R2 hc)) (hin.drop (i+1));have Z:=gt (Z1:=f.Z1.drop i) (Z2:=(G3 Z2 f.ZI).drop i) (λc hc=>hF.cb c (R2 hc)) (hin.drop i);have h4:=pd (cs:=f.Z1.drop (i+1)) λc hc=>(hF.cb c (R2 hc)).1;have h9:0<=x*G5 (f.Z1.drop (i+1)):=Vl r (by omega);have w1:IntKind.wrap .i64 (x*G5 (f.Z1.drop (i+1)))=x*G5 (f.Z1.drop (i+1)):=aq;have w2:IntKind.wrap .i64 (p - GX (f.Z1.drop i) ((G3 Z2 f.ZI).drop i)+x*G5 (f.Z1.drop (i+1)))=p - GX (f.Z1.drop (i+1)) ((G3 Z2 f.ZI).drop (i+1)):=by rw[aq];omega
  simp only[sz,simprocAttr,h1,h2,I,h8,n,h22,h21,e0,rva,u1,u2,rv,u3,u4,s1,s2,s3,rz,u5,u6,ci,w1,w2];refine⟨by simp[St,sx,h1,h2,A,B,C,h5,I,h7,n],e0,ef,by omega,by first|exact F| (simp;done)| (simp;omega)⟩
 ·rintro t df g ⟨rfl,h⟩;exact fin t g h
structure WtJ (n:Zv) (Z2:List Int) (b fl S_ wv:AV) (k:Nat) (t:T) (g:G):Prop where
 st:St t [(1,wv),(2,ZZ 0),(12,fl),(5,Z_ (G5 ((List.range k).map (Ca n Z2))))]
 h0:g.h.get 0=Z4 4 [[Z_ n.Z8,b,fl,S_]]
 nx:1<=g.nx
theorem bt_[Z0]{P:Nat->Prop}{y:Qi}(hd:0<d)(hr:NR n)(hm:Zl y ZX ky g.h v)(hq:SE n y)(hv:ZT P kk g.h Z2 w)(hc:YZ (IO n) Z2) :
  ae C0 d 134 [v,w] g=.val (Z_ (AS n Z2)):=by
 have e0:=jV d hm;obtain⟨cs,rfl,J⟩:=hm;obtain⟨b,fl,S_,rfl,hN,o,hS⟩:=Bz.1 J;have o:ZT ZX ky .nil y.2.1 fl:=o.tree (ZV _);have hS:ZT ZX ky .nil y.2.2 S_:=hS.tree (ZV _);obtain⟨w',V,M⟩:=aZ hv d;have K:y.1.Z8=n.Z8:=by rw[hq.net]
 obtain⟨frows,f1,f2,W,X⟩:=o.all;have f1:∀h',ak h' 3 fl=some frows:=f1;obtain⟨srows,s1,s2,s3,s4⟩:=Ek hS;have rv:=λh=>(M h).ints;have F:=hc.len;rw[aX]at F;have hb:=hr.l2;have B:=hq.fl;rw[Zn];refine cz rH (xs:=[.agg [Z_ y.1.Z8,b,fl,S_],w']) (by simp only[aD,e0,V]) (by simp[fc]) hd ?_;rw[K];have ll:=o.len;simp only[sz,simprocAttr,fc,iy,ll,B];simp only[gQ,gS];refine b_ (m:=n.Z7.length) (by omega) (λk t df g=>df=[]/\WtJ n Z2 b fl S_ w' k t g) ⟨rfl,by simp[St,sx,G5],by simp[sx],by simp⟩ (by simp[sx]) (by simp[sx]) (by decide)
  (by rintro j t df g v s (rfl|rfl|rfl) ⟨a1,⟨b1,b2,Q,T,-⟩,c1,U⟩<;>exact⟨a1,by simp[St,sx,b1,b2,Q,T],c1,U⟩) ?_ ?_
 ·rintro k t df g hk ⟨rfl,⟨h1,h2,c,h5,-⟩,g0,L⟩ e i;obtain⟨x,hx,-,-⟩:=ah hk;obtain⟨p,hp,hf⟩:=hq.fs k x (by omega) hx;obtain⟨row,q1,q2⟩:=W k _ hf;obtain⟨va,ca,wa,rfl,E,h4,N⟩:=ud.1 q2;have A:=Sa hr hx hp;obtain⟨pn,i1,i2,O⟩:=bz5 hr hc hx p;have hlt:k<frows.length:=by omega
  have hh:=X (by omega);obtain⟨R,hR,-,-⟩:=ah (l:=y.2.2) (j:=k) (by rw[hq.sl];exact hk);obtain⟨z,z1,z2,z3⟩:=s3 k R hR;have q:YZ (B0 n k x p).Z1 (G3 Z2 (B0 n k x p).ZI):=mw hc λu hu=>by rw[aX];exact FE hr hx p u hu
  have ha:=gt A.cb q;have hg:=cD (l:=(B0 n k x p).Z1) A.cb;have h9:=A.vl;have he:=fH (a:=(B0 n k x p).Z1.length) (b:=9) (by have h1:=my (hr.places x (YH hx)) (by omega);have h3:=yC x.Z9 p (k:Int) hp;show (G3 _ _).length<=9;rw[Ap];omega)
  have Z:(4:Int) ^ 9=262144:=by decide
  have ei:GX (B0 n k x p).Z1 (G3 Z2 (B0 n k x p).ZI)=(pn:Int):=i1;have lva:=E.len;have rwa:=λh=>(N.tree (h':=h) (ZV _)).ints;refine eK (P:=λt' df g'=>df=[]/\g'=(g.new (Z4 3 [[.Z6,.Z6,.Z6]])).put g.nx (Z4 3 [[va,ca,wa]])/\St t' [(1,w'),(2,ZZ 0),(12,fl),(13,Z_ (n.Z7.length:Int)),(14,Z_ (k:Int)),(5,Z_ (G5 ((List.range k).map (Ca n Z2)))),(6,Z_ (k:Int)),(7,ZZ g.nx)]) ?_ ?_
  ·simp only[sz,simprocAttr,e,c,f1,hlt,q1];simp[St,sx,h1,h2,c,i,e,h5]
  clear h1 h2 c h5 e i;rintro t df g1 ⟨rfl,r,⟨h1,h2,c,i,e,h5,I,h7,-⟩⟩;have k0:g1.h.get 0=Z4 4 [[Z_ n.Z8,b,fl,S_]]:=by rw[r];simp[Za,show ¬0=g.nx by omega,g0]
  have H:g1.h.get g.nx=Z4 3 [[va,ca,wa]]:=by rw[r];simp[Za]
  have kn:g1.nx=g.nx+1:=by rw[r];simp
  simp only[sz,simprocAttr,h7,H,lva];refine bu0 (y:=y) (b:=b) (fl:=fl) (S_:=S_) (wv:=w') (va:=va) (ca:=ca) (wa:=wa) (gr:=n.Z8) (wt:=G5 ((List.range k).map (Ca n Z2))) (p:=(pn:Int)) (f:=B0 n k x p) (R:=R) (Z2:=Z2) (mm:=n.Z7.length) (m:=n.Z7.length) (k:=k) (fb:=g.nx) E A (hq.st k _ R hf hR) F ⟨srows,z,s1,z1,z2,z3⟩ rv ei.symm q (by omega)
   ⟨by simp[St,sx,h1,h2,c,i,e,h5,I,h7,ei],by simpa using k0,by simpa using H,by simp[ei],by omega⟩ (by simp[sx]) (by simp[sx]) ?_
  clear h1 h2 c i e h5 I h7;rintro t g2 ⟨⟨h1,h2,c,i,e,h5,I,h7,Y,h8,-⟩,k0,H,-,D⟩;have C:GX ((B0 n k x p).Z1.drop (B0 n k x p).ZI.length) ((G3 Z2 (B0 n k x p).ZI).drop (B0 n k x p).ZI.length)=0:=by rw[adi (by rw[A.cl];exact ZV _)];rfl
  rw[C,Int.sub_zero]at h8;have u1:pn<((B0 n k x p).w.map ci).length:=by rw[Ju];exact (tI.1 O).1
  have u2:((B0 n k x p).w.map ci)[pn]?=some (ci (Ca n Z2 k)):=by rw[Zy];exact congrArg (Option.map ci) O
  have wb:=sM hr hc (j:=k+1) (by omega);have ws:=Az n Z2 k;have w1:IntKind.wrap .i64 (G5 ((List.range k).map (Ca n Z2))*Ca n Z2 k)=G5 ((List.range (k+1)).map (Ca n Z2)):=by rw[<-ws,aq]
  simp only[sz,simprocAttr,gR,h5,h7,H,h8,rwa,u1,u2,ci,w1];exact⟨⟨by simp[St,sx,h1,h2,c],k0,D⟩,e,i⟩
 ·rintro t df g ⟨rfl,⟨h1,h2,c,h5,-⟩,g0,L⟩;simp only[sz,simprocAttr,gT,h5]
  rfl
def nG(Z2 e:List Int)(i:Nat):Bool:=decide (e[i]?.getD 0 = -1) || decide (e[i]?.getD 0=Z2[i]?.getD 0)
def wH(Z2 e:List Int):Bool:=(List.range e.length).all (nG Z2 e)
theorem OA(h:∀x∈e,-1<=x):wH Z2 e=B4 Z2 e:=by
 have key:nG Z2 e=qL Z2 e:=by
  funext i;have h1:-1<=e[i]?.getD 0:=by
   cases hx:e[i]? with
   |none=>decide
   |some x=>exact h x (YH hx)
  unfold nG qL;generalize e[i]?.getD 0=x at h1;congr 1;rw[decide_eq_decide];omega
 rw[wH,B4,key]
theorem bt9[Z0]{k2:Nat}{P P2:Nat->Prop}(hd:0<d)(hv:ZT P k g.h Z2 v)(hw:ZT P2 k2 g.h e w)(hl:e.length<=Z2.length) :
  ae C0 d 133 [v,w] g=.val (.bool (wH Z2 e)):=by
 obtain⟨v',e1,p⟩:=aZ hv d;obtain⟨w',o,n⟩:=aZ hw d;have ra:∀h',ak h' 1 v'=some (Z2.map ci):=λh'=>(p h').ints;have rb:∀h',ak h' 1 w'=some (e.map ci):=λh'=>(n h').ints;have n2:=λg=>(n .nil).len g;rw[Zn];refine dA Cj (xs:=[v',w']) (by simp only[aD,e1,o]) (by simp[nL]) hd ?_;simp only[sz,simprocAttr,nL,pJ,n2];refine b_ (m:=e.length) hw.1 (λj t df g=>df=[]/\St t [(0,v'),(8,w'),(5,.bool true)]/\(List.range j).all (nG Z2 e)=true) ⟨rfl,by simp[St,sx],rfl⟩ (by simp[sx]) (by simp[sx]) (by decide) (by rintro j t df g v s (rfl|rfl|rfl)<;>simp[St,sx]) ?_ ?_
 ·rintro j t df g f ⟨rfl,⟨h0,h8,h5,-⟩,c⟩ a h9;obtain⟨x,hx,-,-⟩:=ah f;obtain⟨z,hz,-,-⟩:=ah (l:=Z2) (j:=j) (by omega);have q1:j<(e.map ci).length:=by simpa using f
  have q2:j<(Z2.map ci).length:=by rw[Ju];omega
  have q3:(e.map ci)[j]?=some (ci x):=by rw[Zy,hx];rfl
  have i:(Z2.map ci)[j]?=some (ci z):=by rw[Zy,hz];rfl
  have b:nG Z2 e j=(decide (x = -1) || decide (x=z)):=by simp[nG,hx,hz]
  by_cases c1:x = -1
  ·subst c1;simp only[sz,simprocAttr,a,h9,h8,rb,q1,q3,ci];refine⟨by simp[St,sx,h0,h8,h5],?_⟩;rw[eV,c,b];simp
  ·by_cases c2:x=z
   ·subst c2;simp only[sz,simprocAttr,a,h9,h8,h0,ra,rb,q1,q2,q3,i,ci,c1];refine⟨by simp[St,sx,h0,h8,h5],?_⟩;rw[eV,c,b];simp
   ·have:nG Z2 e j=false:=by rw[b];simp[c1,c2]
    have hf:wH Z2 e=false:=by rw[wH,jf f this]
    simp only[sz,simprocAttr,a,h8,h0,ra,rb,q1,q2,q3,i,ci,c1,c2,ji,hf]
 ·rintro t df g ⟨rfl,⟨h0,h8,h5,-⟩,c⟩;simp only[sz,simprocAttr,ji,h5];rw[wH,c]
theorem bt8{α:Type} [Rp α]{P:Nat->Prop}{l:List α}(hw:ZT P k h l w)(g:G):Kl w g=.upd (ZZ g.nx) (g.new (Z4 1 [[w]])):=by rw[Mt _ _ hw.cell.2,hw.cell.1];rfl
def Ro{α:Type} [Rp α](x:α)(sz:Nat):VS:=λP k h v=>(∃id cs,v=ZZ id/\P id/\h.get id=Z4 sz [cs]/\Rp.rp P k h x cs)\/∃t cs,v=.ZR t sz [cs] 0 0/\t<=k/\Rp.rp ZX k .nil x cs
theorem LK{α:Type} [Rp α]{x:α}{sz:Nat}{P:Nat->Prop}{n:Nat}(d:Nat)(r:Ro x sz P k h v)(hn:Rp.dp α<=n)(hd:Rp.dp α<=20:=by decide):∃v',Hx.ZS h d (n+1) v=some v'/\Ro x sz ZX (max k d) .nil v':=by
 rcases r with⟨id,cs,rfl,-,hg,r⟩|⟨t,cs,rfl,ht,r⟩
 ·obtain⟨cs',e,r'⟩:=Rp.ZS (n:=n) d r hn (by show _<=24;omega);obtain⟨m,a,l2⟩:=Rp.tag (n:=aw) r' (by show _<=24;omega);refine⟨.ZR (Nat.max d (Nat.max m 0)) sz [cs'] 0 0,?_,.inr ⟨_,cs',rfl,?_,r'⟩⟩
  ·simp only[Hx.ZS,hg,show Nat.beq 0 0=true from rfl,aD,e,it,jv,a]
  ·show max d (max m 0)<=max k d;omega
 ·exact⟨.ZR t sz [cs] 0 0,rfl,.inr ⟨t,cs,rfl,by omega,Rp.mono r (λi hi=>hi.elim) (by omega)⟩⟩
theorem O7{α:Type} [Rp α]{x:α}{sz:Nat}{n:Nat}(r:Ro x sz ZX k h v):∃m,fZ (n+1) v=some m/\m<=k:=by
 rcases r with⟨id,cs,rfl,a,-⟩|⟨t,cs,rfl,ht,r⟩
 ·exact a.elim
 ·exact⟨t,rfl,ht⟩
def MtV(y:Qi)(e:List Int):VS:=λP k h v=>∃p q,v=.ZH 132 [] [p,q]/\Ro y 4 P k h p/\Ro e 1 P k h q
theorem bt7(y:Qi)(e:List Int):Qx (MtV y e) 2:=by
 refine⟨λ{P k h v n} d r hn=>?_,λ{k h v n} r hn=>?_⟩
 ·obtain⟨p,q,rfl,b,f⟩:=r;obtain⟨n,rfl⟩:∃q,n=q+2:=⟨n - 2,by omega⟩;obtain⟨p',e1,c⟩:=LK (n:=n) d b (Y1 (show Rp.dp Qi<=20 by decide) (by omega));obtain⟨q',a,i⟩:=LK (n:=n) d f (Y1 (show Rp.dp (List Int)<=20 by decide) (by omega));refine⟨.ZH 132 [] [p',q'],?_,p',q',rfl,c,i⟩;simp only[Hx.ZS,aD]at e1 a ⊢;rw[e1,a]
 ·obtain⟨p,q,rfl,b,f⟩:=r;obtain⟨n,rfl⟩:∃q,n=q+2:=⟨n - 2,by omega⟩;obtain⟨j,e1,l1⟩:=O7 (n:=n) b;obtain⟨l,a,l2⟩:=O7 (n:=n) f;refine⟨Nat.max j (Nat.max l 0),?_,by show max j (max l 0)<=k;omega⟩;show jv (fZ (n+1)) [p,q]=_;simp only[jv,e1,a]
theorem CY[Z0]{y:Qi}(hd:0<d)(hm:Zl y ZX 0 g.h v)(hw:ZT ZX kk g.h e w)(hk:kk<d:=by omega) :
  ∃cs z t1 t2,ae C0 d 106 [v,w] g=.val (.ZH 132 [] [.ZR t1 4 [cs] 0 0,.ZR t2 1 [[z]] 0 0])/\Rp.rp ZX kk .nil y cs/\ZT ZX kk .nil e z:=by
 have e0:=jV d hm;obtain⟨cs,rfl,hc⟩:=hm;obtain⟨a,b,c,rfl,h1,h2,l⟩:=Bz.1 hc;have key:∃r,ae C0 d 106 [.agg [Z_ y.1.Z8,a,b,c],w] g=.val r/\MtV y e ZX kk .nil r:=by rw[Zn];refine aI pB (xs:=[.agg [Z_ y.1.Z8,a,b,c],w]) (by simp only[aD,e0,oZ d hw]) (by simp[dZ]) (bt7 y e) (by decide) hk ?_;simp only[sz,simprocAttr,dZ,gD,bt8 hw];refine⟨λ_=>True,_,_,rfl,.inl ⟨0,_,rfl,trivial,by simp[sx,Za],Rp.tree hc (Jq _)⟩,.inl ⟨1,[w],rfl,trivial,by simp[sx],?_⟩⟩;exact⟨w,rfl,hw.wide (ZV _)⟩
 obtain⟨r,hr,p,q,rfl,f,i⟩:=key;rcases f with⟨id,cs,rfl,k,-⟩|⟨t,cs,rfl,ht,f⟩
 ·exact k.elim
 rcases i with⟨id,cs,rfl,k,-⟩|⟨t2,cs2,rfl,j,i⟩
 ·exact k.elim
 obtain⟨z,rfl,hz⟩:=dW.1 i;exact⟨cs,z,t,t2,hr,f,hz⟩
theorem bt6{cs:List Int}(h:YZ cs vs)(hc:∀c∈cs,1<=c){c:Int}(hi:vs[i]?=some x)(hci:cs[i]?=some c)(hx:x≠c - 1):YZ cs (vs.take i++(x+1)::List.replicate (vs.length - (i+1)) 0):=by
 have d:=(tI.1 hi).1;have hl:=h.len;refine Js (by simp;omega) λj c' v a k=>?_;obtain⟨v',h1,h2,e⟩:=h.get a;have b:=hc c' (YH a)
 by_cases h4:j<i
 ·rw[QJ (by simp;omega),X5 h4]at k;rw[h1]at k;injection k with k;omega
 ·rw[Sl (by simp;omega)]at k;rw[Rk,NT (by omega)]at k
  by_cases h5:j=i
  ·subst h5;rw[Yp]at k;simp at k;rw[hi]at h1;injection h1 with h1;rw[hci]at a;injection a with a;omega
  ·obtain⟨m,hm⟩:∃m,j - i=m+1:=⟨j - i - 1,by omega⟩;rw[hm,Vb]at k;have:=YH k;rw[adp]at this;omega
theorem bt5{cs:List Int}(hc:∀c∈cs,1<=c):YZ cs (List.replicate cs.length 0) :=Js (by simp) λj c v hj hv=>by have:=YH hv;rw[adp]at this;have:=hc c (YH hj);omega
section
variable {t1 t2:Nat}
theorem bt4(h:m<vs.length):(vs.take (m+1)++List.replicate (vs.length - (m+1)) 0).set m 0=vs.take m++List.replicate (vs.length - m) 0:=by
 rw[acV h,acq,X0 _ _ (by simp;omega),Rk,NT (by omega),Yp];rw[show vs.length - m=(vs.length - (m+1))+1 by omega,VZ]
 rfl
theorem bt3(h:m<vs.length)(y:Int):(vs.take (m+1)++List.replicate (vs.length - (m+1)) 0).set m y=vs.take m++y::List.replicate (vs.length - (m+1)) 0:=by
 rw[acV h,acq,X0 _ _ (by simp;omega),Rk,NT (by omega),Yp]
 rfl
structure PU (n:Zv) (vs:List Int) (L:List (Nat×AV)) (u:AV) (g0:G) (m:Nat) (t:T) (g:G):Prop where
 st:ZY t 6=Z_ ((m:Int) - 1)
 ss:St t L
 ow:Own g g0.nx u 1 ((vs.take m++List.replicate (vs.length - m) 0).map ci)
 mx:∀(j:Nat) (c:Int),m<=j->(IO n)[j]?=some c->vs[j]?.getD 0=c - 1
def LM(id:Nat)(gr:Int)(b fl S_ w u:AV)(k t1 t2:Nat):List (Nat×AV):=[(0,.NH id),(1,.ZR t1 4 [[Z_ gr,b,fl,S_]] 0 0),(2,.ZR t2 1 [[w]] 0 0),(4,u),(5,Z_ (k:Int))]
theorem bt2[Z0]{id:Nat}{b:AV}(hr:NR n)(hN:ZT ZX ky .nil n.Z7 b)(hc:YZ (IO n) vs)(hm:m<=n.Z7.length)
  (h0:PU n vs (LM id n.Z8 b fl S_ w u k t1 t2) u g0 m t g)
  (fin:∀m' t g',m'<=n.Z7.length->PU n vs (LM id n.Z8 b fl S_ w u k t1 t2) u g0 m' t g'->g.nx<=g'.nx->(∀i,Zi u≠some i->g'.h.get i=g.h.get i)->(m'=0\/∃x c,vs[m' - 1]?=some x/\(IO n)[m' - 1]?=some c/\x≠c - 1/\0<m')->Q (.exit 2) t [] g') :
  Uk (wp C0 d none bV) Q t [] g:=by
 obtain⟨rows,z,M,J,K⟩:=hN.all;have z:∀h',ak h' 3 b=some rows:=z;have B:=hc.len;rw[aX]at B;have F:=hr.l2;refine gB (λm t df g'=>df=[]/\m<=n.Z7.length/\PU n vs (LM id n.Z8 b fl S_ w u k t1 t2) u g0 m t g'/\g.nx<=g'.nx/\∀i,Zi u≠some i->g'.h.get i=g.h.get i) m ⟨rfl,hm,h0,ZV _,λ_ _=>rfl⟩ ?_;rintro m t df g1 ⟨rfl,hm,⟨o,⟨h0,h1,h2,h4,h5,-⟩,f,r⟩,s,q⟩;simp only[bV];cases m with
 | zero =>
  have c1:¬((0:Int)<=((0:Nat):Int) - 1):=by omega
  simp only[sz,simprocAttr,o];refine fin 0 _ _ (Jq _) ⟨?_,?_,?_,r⟩ ?_ ?_ (.inl rfl)
  ·simp[sx,o]
  ·simp[St,LM,sx,h0,h1,h2,h4,h5]
  ·exact f
  ·exact s
  ·exact q
 | succ m =>
  have c1:(0:Int)<=((m+1:Nat):Int) - 1:=by omega
  have e1:((m+1:Nat):Int) - 1=(m:Int):=by omega
  rw[e1]at c1 o;obtain⟨x,hx,-,-⟩:=ah (l:=n.Z7) (j:=m) (by omega);obtain⟨row,q1,q2⟩:=J m x hx;obtain⟨pa,ra,rfl,-,-⟩:=cM.1 q2;have hlt:m<rows.length:=by omega
  have y:=K (by omega);have p:(IO n)[m]?=some x.Z5:=by simp[IO,hx]
  obtain⟨v,A,H,I⟩:=hc.get p;have E:=hr.Z5 x (YH hx);have D:m<((vs.take (m+1)++List.replicate (vs.length - (m+1)) 0).map ci).length:=by simp;omega
  have C:((vs.take (m+1)++List.replicate (vs.length - (m+1)) 0).map ci)[m]?=some (ci v):=by rw[Zy,QJ (by simp;omega),X5 (by omega),A];rfl
  have ru:=f.rows;have w1:IntKind.wrap .i64 (x.Z5 - 1)=x.Z5 - 1:=aq
  by_cases c2:v=x.Z5 - 1
  ·simp only[sz,simprocAttr,o,h1,h4,c1,ru,D,C,z,hlt,q1,y,Bg,jR,ci,w1,c2];refine bZ (v:=u) (sz:=1) (n:=1) (i:=m) (off:=0) (x:=Z_ 0) (row':=ci 0) f C rfl rfl rfl λg4 hu4 n4 f4=>?_;rw[<-MO,bt4 (by omega)]at hu4;have L:IntKind.wrap .i64 ((m:Int) - 1)=(m:Int) - 1:=aq;simp only[sz,simprocAttr,o,L];refine⟨m,by omega,by omega,⟨by simp[sx],by simp[St,LM,sx,h0,h1,h2,h4,h5],hu4,λj c hj a=>?_⟩,by omega,λi hi=>by rw[f4 i hi,q i hi]⟩
   by_cases e:j=m
   ·subst e;rw[p]at a;injection a with a;rw[A,Ns];omega
   ·exact r j c (by omega) a
  ·simp only[sz,simprocAttr,o,h1,h4,c1,ru,D,C,z,hlt,q1,y,Bg,jR,ci,w1,c2];refine fin (m+1) _ _ hm ⟨?_,?_,?_,r⟩ ?_ ?_ (.inr ⟨v,x.Z5,A,p,c2,by omega⟩)
   ·simp[sx,o]
   ·simp[St,LM,sx,h0,h1,h2,h4,h5]
   ·exact f
   ·exact s
   ·exact q
theorem bt1{a b:AV}(ha:a.cells=[a]/\a.isTup=false)(hb:b.cells=[b]/\b.isTup=false)(hu:u.cells=[u]/\u.isTup=false):dX [Z_ 0,Z_ 0,.Z6] [((0,1),a),((1,1),b),((2,1),u)]=some [a,b,u]:=by
 simp[dX,ha,hb,hu,eJ]
 rfl
theorem bt0[Z0]{id ke:Nat}{y:Qi}{b:AV}(hd:0<d)(hr:NR n)(hq:SE n y)(hcs:Rp.rp ZX ky .nil y [Z_ n.Z8,b,fl,S_])(hw:ZT ZX ke .nil e w)(hel:e.length<=n.Z7.length)
  (J:Nat->H->Prop) (E:G->Prop) (hJ:∀j h h',(∀i,i<g0.nx->h'.get i=h.get i)->J j h->J j h')
  (skip:∀(j:Nat) (h:H),j<Dj n->wH (EU (IO n) j) e=false->J j h->J (j+1) h)
  (step:∀(j:Nat) (u:AV) (g:G) (K':AV->G->Prop) (D:ZU->Prop),j<Dj n->wH (EU (IO n) j) e=true->g0.nx<=g.nx->J j g.h->ZT (λi=>g0.nx<=i/\i<g.nx) 0 g.h (EU (IO n) j) u ->
   (∀g',J (j+1) g'.h->g.nx<=g'.nx->(∀i,g0.nx<=i->i<g.nx->g'.h.get i=g.h.get i)->K' (.bool true) g')->(∀g',E g'->K' (.bool false) g')->(dx (I C0) d id [.agg [Z_ (j:Int),Z_ (AS n (EU (IO n) j)),u]] g).sat K' g D)
  (h0:J 0 g0.h) (fin:∀g',J (Dj n) g'.h->g0.nx<=g'.nx->K (.Zz []) g') (finE:∀g',E g'->K (.Zz []) g') :
  wp C0 d none aJ.code (Xs C0 d aJ.res K) (bk 0 [.NH id,.ZR t1 4 [[Z_ n.Z8,b,fl,S_]] 0 0,.ZR t2 1 [[w]] 0 0] .nil) [] g0:=by
 obtain⟨b',fl',S',e1,hN,hp,hS⟩:=Bz.1 hcs;injection e1 with e1 X;injection X with X Y;injection Y with Y Z;injection Z with Z e5;subst X;subst Y;subst Z;have hN:ZT ZX ky .nil n.Z7 b:=by rw[<-hq.net];exact hN
 have ht:=hr.l2;have hs:=hr.l1;obtain⟨W1,W2,W3⟩:=hr.wl;have q:=λc hc=>(hr.cs c hc).1;have nl:=hN.len;have hcl:=aX n;obtain⟨Qf,L⟩:∃Qf,Qf=Xs C0 d aJ.res K:=⟨_,rfl⟩;rw[<-L];simp only[sz,simprocAttr,aJ,Bg,jR,nl];refine rf (b:=g0.nx) (n:=n.Z7.length) (by unfold aQ;omega) (by unfold aQ;omega) (ZV _) λu g1 hu n1 fr1 v1=>?_;simp only[sz,simprocAttr];have h9:∀(g:G) (l:List Int),l.length=n.Z7.length->Own g g0.nx u 1 (l.map ci)->∀g2:G,gz .slice u g2=.val (Z_ (n.Z7.length:Int)):=λg l hl ho g2=>by rw[dq ho.rows];simp[hl]
 obtain⟨INV,p⟩:∃INV:Nat->PT,INV=(λm t df g=>df=[]/\∃(j:Nat) (vs:List Int),m=Dj n - j/\j<Dj n/\YZ (IO n) vs/\GX (IO n) vs=(j:Int)/\St t (LM id n.Z8 b fl S_ w u j t1 t2)/\Own g g0.nx u 1 (vs.map ci)/\J j g.h/\g0.nx<=g.nx):=⟨_,rfl⟩;refine gB INV (Dj n) ?_ ?_
 ·rw[p];exact⟨rfl,0,List.replicate n.Z7.length 0,rfl,by omega,by rw[<-hcl];exact bt5 q,by rw[FK];rfl,by simp[St,LM,sx],by simpa [ci] using hu,hJ 0 _ _ (λi hi=>fr1 i hi) h0,by omega⟩
 intro m t df g hI;have P:=hI;rw[p]at P;obtain⟨rfl,j,vs,rfl,hj,f,A,⟨h0,h1,h2,h4,h5,-⟩,ho,s,O⟩:=P;clear hI;have V:=f.len;rw[aX]at V;have o:EU (IO n) (j:Int)=vs:=by rw[<-A];exact bA5 q f
 have W:Zi u=some g0.nx:=v1;have ZG:ZT (λi=>g0.nx<=i/\i<g.nx) 0 g.h vs u:=Own.sl (α:=Int) ho (by omega) (Y7 (λa=>ay.2 rfl) _) λi hi=>ho.lt hi;have z:=bt9 (d:=d) (g:=g) (v:=u) (w:=w) (Z2:=vs) (e:=e) hd ZG (hw.tree (h':=g.h) (ZV _)) (by omega);have h8:=h9 g vs V ho;have w1:IntKind.wrap .i64 ((n.Z7.length:Int) - 1)=(n.Z7.length:Int) - 1:=aq;obtain⟨R,hR⟩:∃R:SC,R=@SC.seq (.ops [⟨some 28,none,.mv (.t 4)⟩,⟨some 29,none,.len .slice (.t 28)⟩,⟨some 30,none,.bin .sub (.t 29) (.k (Z_ 1))⟩,⟨some 6,none,.mv (.t 30)⟩]) (@SC.seq (.blk 2 (.loop bV)) bW):=⟨_,rfl⟩;simp only[eX,Qy];rw[<-hR,eO,GP];obtain⟨Q1,F⟩:∃Q1,Q1=kB 1 (kS (wp C0 d none cQ (kL INV (Dj n - j) (kB 0 Qf))) (kL INV (Dj n - j) (kB 0 Qf))):=⟨_,rfl⟩;rw[<-F];have rest:∀(t:T) (g:G),St t (LM id n.Z8 b fl S_ w u j t1 t2)->Own g g0.nx u 1 (vs.map ci)->J (j+1) g.h->g0.nx<=g.nx->wp C0 d none R Q1 t [] g:=by
  rintro t g ⟨h0,h1,h2,h4,h5,-⟩ ho s O;rw[hR,F];simp only[sz,simprocAttr,h4,h8,w1];refine bt2 (t1:=t1) (t2:=t2) (id:=id) (k:=j) (m:=n.Z7.length) (n:=n) (b:=b) (fl:=fl) (S_:=S_) (w:=w) (u:=u) (vs:=vs) (g0:=g0) hr hN f (ZV _) ⟨by simp[sx],by simp[St,LM,sx,h0,h1,h2,h4,h5],?_,λi c hi hc=>?_⟩ ?_
  ·rw[U8 (by omega),show vs.length - n.Z7.length=0 by omega];simpa using ho
  ·have:=(tI.1 hc).1;omega
  rintro m' t2 g2 hv ⟨h6,⟨h0,h1,h2,h4,h5,-⟩,U,Q⟩ k1 h3 M;have C:J (j+1) g2.h:=hJ _ _ _ (λi hi=>h3 i λe=>by rw[W]at e;injection e with e;omega) s;rcases M with rfl|⟨x,c,hx,hc,hg,hy⟩
  ·have N:j+1=Dj n:=by have:=Jr (cs:=IO n) (vs:=vs) f.len.symm λi c hc=>Q i c (Jq _) hc;omega
   have c1:(((0:Nat):Int) - 1<0):=by omega
   rw[L];simp only[sz,simprocAttr,bW,aJ,h6];rw[N]at C;exact fin g2 C (by omega)
  ·obtain⟨i,rfl⟩:∃i,m'=i+1:=⟨m' - 1,by omega⟩;rw[ad4]at hx hc;have h7:=(tI.1 hx).1;have e1:((i+1:Nat):Int) - 1=(i:Int):=by omega
   rw[e1]at h6;have c1:¬((i:Int)<0):=by omega
   have u1:i<((vs.take (i+1)++List.replicate (vs.length - (i+1)) 0).map ci).length:=by simp;omega
   have u2:((vs.take (i+1)++List.replicate (vs.length - (i+1)) 0).map ci)[i]?=some (ci x):=by rw[Zy,QJ (by simp;omega),X5 (by omega),hx];rfl
   have ru:=U.rows;obtain⟨x',hb,he,hf⟩:=f.get hc;rw[Ou hb hx]at he hf;have hn:=hr.cs c (YH hc);have w2:IntKind.wrap .i64 (x+1)=x+1:=aq;simp only[sz,simprocAttr,bW,h6,c1,h4,ru,u1,u2,ci,w2];refine bZ (v:=u) (sz:=1) (n:=1) (i:=i) (off:=0) (x:=Z_ (x+1)) (row':=ci (x+1)) U u2 rfl rfl rfl λg4 hu4 n4 f4=>?_;rw[<-MO,bt3 h7]at hu4;have B:=bt6 f q hx hc hg;have r:=bA4 (cs:=IO n) (vs:=vs) f.len.symm hx λk c hk hc=>Q k c (by omega) hc;rw[A]at r;have hh:=gt hr.cs B;have w3:IntKind.wrap .i64 ((j:Int)+1)=((j+1:Nat):Int):=by rw[aq];rfl
   simp only[sz,simprocAttr,cQ,h5,w3];refine⟨Dj n - (j+1),by omega,?_⟩;rw[p];refine⟨rfl,j+1,_,rfl,by omega,B,by rw[r];rfl,by simp[St,LM,sx,h0,h1,h2,h4],hu4,hJ _ _ _ (λi hi=>f4 i λe=>by rw[W]at e;injection e with e;omega) C,by omega⟩
 cases hm:wH vs e with
 | false =>rw[hm]at z;rw[eO];simp only[sz,simprocAttr,h4,h2,jR,z];exact rest _ _ (by simp[St,LM,sx,h0,h1,h2,h4,h5]) ho (skip j _ hj (by rw[o];exact hm) s) O
 | true =>
  rw[hm]at z;rw[eO];have ha:=bt_ (d:=d) (g:=g) (v:=.agg [Z_ n.Z8,b,fl,S_]) (w:=u) (Z2:=vs) (y:=y) hd hr ⟨_,rfl,Rp.tree hcs (ZV _)⟩ hq ZG f;simp only[sz,simprocAttr,h0,h1,h5,h4,h2,jR,z,ha,bt1 (a:=Z_ (j:Int)) (b:=Z_ (AS n vs)) ⟨rfl,rfl⟩ ⟨rfl,rfl⟩ ho.cell];have st:=λK' D=>step j u g K' D hj (by rw[o];exact hm) O s (by rw[o];exact ZG);rw[o]at st;show (dx (I C0) d id [.agg [Z_ (j:Int),Z_ (AS n vs),u]] g).sat _ _ _;refine st _ _ (λg' hJ' hn' hf'=>?_) λg' hE=>?_
  ·simp only[sz,simprocAttr];exact rest _ _ (by simp[St,LM,sx,h0,h1,h2,h4,h5]) (ho.fr hn' λi hi=>hf' i (ho.lt hi).1 (ho.lt hi).2) hJ' (by omega)
  ·rw[F,L];simp only[sz,simprocAttr,aJ];exact finE g' hE
theorem bs_{id:Nat}{ps:List Nat}{a b:SC}{args:List AV}{t':T}
  (hg:g.h.get id=.loop nt t ps assign body ZP .ready none) (ha:cx C nt assign=a) (hb:cx C nt body=b) (hp:dO t nt ps args=some t')
  (h:wp C d (some id) a (λe t1 df g1=>e=.norm/\df=[]/\g1.h.get id=.loop nt t ps assign body ZP .ready none /\
   wp C d (some id) b (λe _ df g2=>df=[]/\g2.h.get id=.loop nt t ps assign body ZP .busy none/\((e=.norm/\K (.bool true) (g2.put id (.loop nt t ps assign body ZP .ready none)))\/(e=.ret/\K (.bool false) (g2.put id (.loop nt t ps assign body ZP .done (some .ret))))))
    t1 [] (g1.put id (.loop nt t ps assign body ZP .busy none))) t' [] g) :
  (dx (I C) d id args g).sat K g D:=by
 subst ha;subst hb;unfold dx;rw[show g.get id=_ from hg];dsimp only;rw[hp];dsimp only;have h1:=o9 h;cases hc:(I C).code nt d (some id) assign t' [] g with
 |fail=>rw[hc]at h1;exact h1.elim
 | ok e t1 df g1 =>
  rw[hc]at h1;obtain⟨rfl,rfl,c,h2⟩:=h1;dsimp only;rw[show g1.get id=_ from c];dsimp only;have k:=o9 h2;cases hc2:(I C).code nt d (some id) body t1 [] (g1.put id (.loop nt t ps assign body ZP .busy none)) with
  |fail=>rw[hc2]at k;exact k.elim
  | ok e t2 df2 g2 =>rw[hc2]at k;obtain⟨rfl,h4,h5⟩:=k;dsimp only;rw[show g2.get id=_ from h4];rcases h5 with⟨rfl,h5⟩|⟨rfl,h5⟩<;>exact h5
theorem bs9[Z0]:C0.ext 132=none:=by kernel_rfl
theorem Iu[Z0]{r ke:Nat}{y:Qi}{cs:List AV}{ca cb:SC}(hd:0<d)(hr:NR n)(hq:SE n y)(hcs:Rp.rp ZX ky .nil y cs)(hw:ZT ZX ke .nil e w)(hel:e.length<=n.Z7.length)
  (hv:ZY t r=.ZH 132 [] [.ZR t1 4 [cs] 0 0,.ZR t2 1 [[w]] 0 0]) (hp:p<nt)
  (J:Nat->H->Prop) (E:H->Prop) (hJ:∀j h h',(∀i,i<g.nx->h'.get i=h.get i)->J j h->J j h') (hE:∀h h',(∀i,i<g.nx->h'.get i=h.get i)->E h->E h') (h0:J 0 g.h)
  (skip:∀(j:Nat) (h:H),j<Dj n->wH (EU (IO n) j) e=false->J j h->J (j+1) h)
  (step:∀(j:Nat) (u:AV) (g1:G),j<Dj n->wH (EU (IO n) j) e=true->J j g1.h->g.nx+2<=g1.nx->ZT (λi=>g.nx+2<=i/\i<g1.nx) 0 g1.h (EU (IO n) j) u ->
   wp C0 d (some (g.nx+1)) ca (λe t1 df g1'=>e=.norm/\df=[]/\Fr g1 g1'/\∀g2:G,g2.nx=g1'.nx->(∀i,i≠g.nx+1->g2.h.get i=g1'.h.get i) ->
    wp C0 d (some (g.nx+1)) cb (λe _ df g3=>df=[]/\RowQ g.nx g2 g3 e (J (j+1) g3.h) (E g3.h)) t1 [] g2)
    (f_ t p (.agg [Z_ (j:Int),Z_ (AS n (EU (IO n) j)),u])) [] g1)
  (fin:∀g',J (Dj n) g'.h->g.nx+2<=g'.nx->g'.h.get g.nx=.ZP true->Q .norm t (.mark g.nx::df) g')
  (finE:∀g',E g'.h->g.nx+2<=g'.nx->g'.h.get g.nx=.ZP true->Q .ret t (.mark g.nx::df) g') :
  wp C0 d none (.Yv nt (.t r) [p] ca cb) Q t df g:=by
 obtain⟨b,fl,S_,rfl,-,-,-⟩:=Bz.1 hcs;rw[hq.net]at hv hcs;refine GR (fn:=132) (first:=[]) (cap:=[.ZR t1 4 [[Z_ n.Z8,b,fl,S_]] 0 0,.ZR t2 1 [[w]] 0 0]) (s:=aJ) hv bs9 nH (by simp[aJ]) ?_;intro assign body ha hb;have e1:((g.new (.ZP true)).new (.loop nt t [p] assign body g.nx .ready none)).nx=g.nx+2:=by simp
 refine bt0 (g0:=(g.new (.ZP true)).new (.loop nt t [p] assign body g.nx .ready none)) (id:=g.nx+1) hd hr hq hcs hw hel
  (λj h=>J j h/\h.get g.nx=.ZP true/\h.get (g.nx+1)=.loop nt t [p] assign body g.nx .ready none)
  (λg'=>E g'.h/\g'.h.get g.nx=.ZP true/\g'.h.get (g.nx+1)=.loop nt t [p] assign body g.nx .done (some .ret)/\g.nx+2<=g'.nx) ?_ ?_ ?_ ?_ ?_ ?_
 ·rintro j h h' l ⟨a1,a2,a⟩;rw[e1]at l;exact⟨hJ j h h' (λi hi=>l i (by omega)) a1,by rw[l _ (by omega),a2],by rw[l _ (by omega),a]⟩
 ·rintro j h v hm ⟨a1,a2,a⟩;exact⟨skip j h v hm a1,a2,a⟩
 ·rintro j u g1 K' D v hm c ⟨a1,a2,a⟩ ZG kk kE;rw[e1]at c kk ZG;refine bs_ a ha hb (t':=f_ t p (.agg [Z_ (j:Int),Z_ (AS n (EU (IO n) j)),u])) ?_ ?_
  ·simp only[dO,aa,YD,ZN hp];rfl
  ·refine ch _ (step j u g1 v hm a1 (by omega) ZG) ?_;rintro e t1 df g1' ⟨rfl,rfl,k,h⟩;have f:g.nx+1<g1.nx:=by omega
   have hl:g.nx+1<g1'.nx:=Vd f k.1;have m:g1'.h.get g.nx=.ZP true:=by rw[k.2 _ (by omega),a2]
   have o:g1'.h.get (g.nx+1)=.loop nt t [p] assign body g.nx .ready none:=by rw[k.2 _ f,a]
   refine⟨rfl,rfl,o,?_⟩;refine ch _ (h (g1'.put (g.nx+1) (.loop nt t [p] assign body g.nx .busy none)) (by simp) (λi hi=>by simp[Za,hi])) ?_;rintro e t2 df g3 ⟨rfl,⟨b2,q,b1⟩⟩;have B:g3.h.get (g.nx+1)=.loop nt t [p] assign body g.nx .busy none:=by rw[q _ (by omega) (by simpa using hl)];simp[Za]
   have z:g3.h.get g.nx=.ZP true:=by rw[q _ (by omega) (by simp;omega)];simp[Za,m]
   refine⟨rfl,B,?_⟩;have A:g1'.nx<=g3.nx:=by simpa using b2
   have C:=k.1;rcases b1 with⟨rfl,b1⟩|⟨rfl,b1⟩
   ·refine .inl ⟨rfl,kk _ ⟨hJ _ g3.h _ (λi hi=>by simp[Za,show ¬i=g.nx+1 by omega]) b1,?_,?_⟩ (by simp;omega) λi h1 h2=>?_⟩
    ·simp[Za,z]
    ·simp[Za]
    ·have x:¬i=g.nx+1:=by omega
     have:=q i (by omega) (by simp;omega);simp[Za,x]at this ⊢;rw[this,k.2 i h2]
   ·refine .inr ⟨rfl,kE _ ⟨hE g3.h _ (λi hi=>by simp[Za,show ¬i=g.nx+1 by omega]) b1,?_,?_,?_⟩⟩
    ·simp[Za,z]
    ·simp[Za]
    ·simp;omega
 ·refine⟨hJ 0 g.h _ (λi hi=>?_) h0,?_,?_⟩
  ·simp[Za,show ¬i=g.nx+1 by omega,show ¬i=g.nx by omega]
  ·simp[Za]
  ·simp[Za]
 ·rintro g' ⟨a1,a2,a⟩ c;rw[e1]at c;refine⟨_,_,_,_,_,_,.inl ⟨a,fin _ (hJ _ g'.h _ (λi hi=>by simp[Za,show ¬i=g.nx+1 by omega]) a1) (by simpa using c) ?_⟩⟩;simp[Za,a2]
 ·rintro g' ⟨a1,a2,a,c⟩;refine⟨_,_,_,_,_,_,.inr ⟨a,finE _ (hE g'.h _ (λi hi=>by simp[Za,show ¬i=g.nx+1 by omega]) a1) (by simpa using c) ?_⟩⟩;simp[Za,a2]
end
theorem KS(h:EQ n e=true):e.length=n.Z7.length/\∀x∈e,-1<=x:=by simp only[EQ,Zk,RY,Xw]at h;refine⟨h.1,λx hx=>?_⟩;obtain⟨i,hi,he⟩:=QX.1 hx;have:=(h.2 i (Q9.2 hi)).1;rw[Zq hi,he]at this;exact this
def Dk(n:Zv)(e:List Int)(w:Nat):Bool:=B4 (EU (IO n) (w:Int)) e
theorem t_(n:Zv)(e:List Int):Dl n e=GW n (Dk n e) (Dj n):=rfl
theorem Er(h:NR n){p:Nat->Bool}{j:Nat}(hj:j<=1024):0<=GW n p j/\GW n p j<=171992678400000000:=by have:=jz h p j;omega
theorem WO(g:G)(o o':ZM):Fr g ((g.new o).put g.nx o'):=⟨by simp,λi hi=>by simp[Za,show ¬i=g.nx by omega]⟩
theorem bs8[Z0]{y:Qi}(hd:0<d)(hr:NR n)(hm:Zl y ZX 0 g.h v)(hq:SE n y)(he:ZT ZX kk g.h e w)(hev:EQ n e=true)(hk:kk<=d:=by omega) :
  ae C0 d 68 [v,w] g=.val (Z_ (Dl n e)):=by
 have e0:=jV d hm;have ew:=oZ d he;obtain⟨cs,rfl,c⟩:=hm;obtain⟨b,fl,S_,rfl,-,-,-⟩:=Bz.1 c;obtain⟨el,ege⟩:=KS hev;obtain⟨W1,W2,W3⟩:=hr.wl;rw[Zn];refine cz ux (xs:=[.agg [Z_ y.1.Z8,b,fl,S_],w]) (by simp only[aD,e0,ew]) (by simp[gw]) hd ?_;simp only[sz,simprocAttr,gw];unfold jG;refine gv (P:=λt' df g'=>df=[]/\g'.nx=2/\g'.h.get 0=Z4 4 [[Z_ y.1.Z8,b,fl,S_]]/\g'.h.get 1=Z4 1 [[Z_ 0]]/\St t' [(1,w),(2,ZZ 0),(5,ZZ 1)]) ?_ ?_
 ·simp only[sz,simprocAttr];simp[St,sx]
 rintro t df g0 ⟨rfl,f2,f0,f1,h1,h2,h5,-⟩;obtain⟨cs,z,t1,t2,ez,f,hz⟩:=CY (d:=d+1) (g:=g0) (y:=y) (e:=e) (v:=.agg [Z_ y.1.Z8,b,fl,S_]) (w:=w) (abc d) ⟨_,rfl,Rp.tree c (ZV _)⟩ (he.tree (ZV _));rw[eO,eO];simp only[sz,simprocAttr,h1,h2,f0,ez];refine Iu (t1:=t1) (t2:=t2) (n:=n) (y:=y) (e:=e) (cs:=cs) (w:=z) (abc d) hr hq f hz (by omega) (by simp[sx]) (by decide)
  (λj h=>h.get 1=Z4 1 [[Z_ (GW n (Dk n e) j)]]) (λ_=>False) (λj h h' hh h1=>by rw[hh 1 (by omega),h1]) (λ_ _ _ h=>h) f1 ?_ ?_ ?_ (λ_ h=>h.elim)
 ·intro j h m k h1;have hp:Dk n e j=false:=by rw[Dk,<-OA ege];exact k
  rw[h1,GW,hp];simp
 ·intro j u g1 m k h1 o hu;have hp:Dk n e j=true:=by rw[Dk,<-OA ege];exact k
  have hb:=Er hr (p:=Dk n e) (j:=j+1) (by omega);have hs:GW n (Dk n e) (j+1)=GW n (Dk n e) j+AS n (EU (IO n) (j:Int)):=by rw[GW,hp];simp
  have w1:IntKind.wrap .i64 (GW n (Dk n e) j+AS n (EU (IO n) (j:Int)))=GW n (Dk n e) (j+1):=by rw[<-hs,aq]
  simp only[sz,simprocAttr,iT];refine⟨WO _ _ _,?_⟩;intro g2 n2 a;have r:g2.h.get g1.nx=Z4 3 [[Z_ (j:Int),Z_ (AS n (EU (IO n) (j:Int))),u]]:=by rw[a _ (by omega),ZN rfl]
  have q:g2.h.get 1=Z4 1 [[Z_ (GW n (Dk n e) j)]]:=by rw[a 1 (by omega),bJ,bJ,h1]
  simp only[sz,simprocAttr,iU,h5,q,r,w1];exact⟨by simp,λi h1 h2=>by simp[Za,show ¬i=1 by omega],.inl ⟨rfl,by simp[Za]⟩⟩
 ·intro g' h1 o l;simp only[sz,simprocAttr,iV,h5,h1];refine jE l ?_;simp only[sx,↓reduceIte];rw[t_]
theorem bs7{l:List Int}(hl:ZT ZX k .nil l v):Rp.rp (λ_=>True) k h l [v]:=by obtain⟨w,hw,q⟩:=Rp.tree (P:=λ_=>True) (k':=k) (h':=h) (show Rp.rp ZX k .nil l [v] from ⟨v,rfl,hl⟩) (ZV _);exact⟨w,hw,q⟩
theorem Yz{a:List Int}{va:AV}{q:Nat}(ha:ZT ZX k .nil a va)(hq:h.get q=Z4 1 [[va]]):ZT (λ_=>True) k h [a] (.ZG q 0 0 1 none):=by refine⟨by show 1<_;decide,trivial,[[va]],?_,bs7 ha,trivial⟩;show ak h 1 _=_;simp only[ak,hq];rfl
theorem EC{ls:List (List Int)}{P:Nat->Prop}(hv:UL n ls P k h v) :
  ∃y cs,v=.Zz [.agg cs,Z_ (wM n ls)]/\(wM n ls=0->SE n y)/\Rp.rp P k h y cs/\∃a1 a2 a3 a4,cs=[a1,a2,a3,a4]:=by
 obtain⟨y,b,a,c,rfl,⟨cs,rfl,hc⟩,hi⟩:=hv;have hi:=ay.1 hi;injection hi with hi;subst hi;obtain⟨a2,a3,a4,rfl,-⟩:=Bz.1 hc;exact⟨y,_,rfl,b,hc,_,_,_,_,rfl⟩
theorem C3(n:Zv)(e:List Int):wM n [e]=Di n e:=by rw[wM,Di];simp
theorem np:Di n e=0↔Dm n=true/\EQ n e=true:=by rw[Di];cases Dm n<;>cases EQ n e<;>simp
def nE(n:Zv)(e:List Int):Int:=if Di n e=0 then Dl n e else 0
theorem bs6[Z0]{k0:Nat}{P:Nat->Prop}{w0:AV}(hd:0<d)(hm:Zl n ZX 0 g.h v)(he:ZT P k0 g.h e w0)(hk:k0<=d:=by omega) :
  ae C0 d 78 [v,w0] g=.val (.Zz [Z_ (nE n e),Z_ (Di n e)]):=by
 have key:∃r,ae C0 d 78 [v,w0] g=.val r/\mQ (One (nE n e)) (One (Di n e)) ZX 0 .nil r:=by
  obtain⟨b,rows,rfl,e1,f,hN,o,p,q,s⟩:=bT d hm;obtain⟨w,ew,hw⟩:=aZ he d;rw[adW hk]at hw;have hw:=hw .nil;rw[Zn];refine aI Ha (xs:=[.agg [Z_ n.Z8,b],w]) (by simp only[aD,e1,ew]) (by simp[uB]) (bM (m:=1) (aE _) (aE _) (by decide) (by decide)) (by decide) hd ?_;simp only[sz,simprocAttr,uB,xa,hw.cell.1,hw.cell.2];refine aM (Rv (n:=n) (ls:=[e]) (abc d) (f _) (Yz hw (by simp[sx]))) λz hz=>?_;obtain⟨y,cs,rfl,j,hc,a1,a2,l,a4,rfl⟩:=EC hz;rw[C3]at j ⊢
  by_cases h0:Di n e=0
  ·have i:=j h0;obtain⟨h1,h2⟩:=np.1 h0;have hr:=bU.1 h1;have k:nE n e=Dl n e:=by rw[nE,ZN h0]
   simp only[sz,simprocAttr,h0];rw[bs8 (y:=y) (n:=n) (e:=e) (abc d) hr ⟨_,rfl,Rp.tree hc (ZV _)⟩ i (hw.tree (ZV _)) h2];simp only[sz,simprocAttr];rw[k];exact⟨λ_=>True,_,_,rfl,ay.2 rfl,ay.2 rfl⟩
  ·have k:nE n e=0:=by rw[nE,ZF h0]
   simp only[sz,simprocAttr,h0];rw[k];exact⟨λ_=>True,_,_,rfl,ay.2 rfl,ay.2 rfl⟩
 obtain⟨r,hr,a,c,rfl,ha,hc⟩:=key;have ha:=ay.1 ha;have hc:=ay.1 hc;injection ha with ha;injection hc with hc;rw[hr,ha,hc]
def EP(e:List Int):Nat->Nat
 |0=>0
 |k+1=>if 0<=e[k]?.getD 0 then EP e k ||| 2 ^ k else EP e k
theorem S8(e:List Int):∀k,EP e k<2 ^ k
 |0=>by simp[EP]
 | k+1=>by
  have ih:=S8 e k;rw[EP]
  split
  ·exact adQ (Vd ih (Wl (by decide) (by omega))) (afg (by decide) (by omega))
  ·exact Vd ih (Wl (by decide) (by omega))
def Dg(e:List Int)(s:Nat):List Int:=(List.range e.length).map λi=>if s.testBit i then e[i]?.getD 0 else -1
theorem mP(e:List Int)(s:Nat):(Dg e s).length=e.length:=by simp[Dg]
theorem Eh(e:List Int)(s i:Nat)(hi:i<e.length):(Dg e s)[i]?=some (if s.testBit i then e[i]?.getD 0 else -1):=by simp[Dg,hi]
theorem eB:EQ n e=true↔e.length=n.Z7.length/\∀i,i<e.length->-1<=e[i]?.getD 0/\e[i]?.getD 0<(IO n)[i]?.getD 0:=by unfold EQ;simp only[Zk,RY,Xw,Q9]
theorem bs5(h:EQ n e=true)(hc:∀i,i<e.length->0<=(IO n)[i]?.getD 0):EQ n (Dg e s)=true:=by
 obtain⟨hl,he⟩:=eB.1 h;refine eB.2 ⟨by rw[mP];exact hl,λi hi=>?_⟩;rw[mP]at hi;rw[Eh e s i hi,Ns];have:=hc i hi
 split
 ·exact he i hi
 ·exact⟨ael _,by omega⟩
def Up(B:Nat)(g g':G):Prop:=(∀i,i<B->g'.h.get i=g.h.get i)/\∀i∈g'.lg,i∈g.lg\/B<=i
theorem Up.trans{B:Nat}{g1 g2:G}(h:Up B g g1)(h2:Up B g1 g2):Up B g g2:=⟨λi hi=>by rw[h2.1 i hi,h.1 i hi],λi hi=>(h2.2 i hi).elim (λh3=>h.2 i h3) .inr⟩
theorem Up.mono{B B':Nat}{g':G}(h:Up B g g')(hb:B'<=B):Up B' g g':=⟨λi hi=>h.1 i (by omega),λi hi=>(h.2 i hi).imp id λh=>by omega⟩
theorem Up.new{B:Nat}{g:G}(hb:B<=g.nx)(o:ZM):Up B g (g.new o):=⟨λi hi=>by rw[G.new_h,aF],λi hi=>by simp at hi;rcases hi with rfl|hi;exact .inr hb;exact .inl hi⟩
theorem Up.put{B:Nat}{g:G}{j:Nat}(hb:B<=j)(o:ZM):Up B g (g.put j o):=⟨λi hi=>by rw[G.put_h,aF],λi hi=>by simp at hi;rcases hi with rfl|hi;exact .inr hb;exact .inl hi⟩
theorem GE{sz n off:Nat}{rows:List (List AV)}{row row':List AV}{x:AV}(hv:Own g b v sz rows)(hr:rows[i]?=some row)
  (hl:x.cells.length=n) (ht:x.isTup=false) (hp:dh row off x.cells=some row')
  (k:∀g',Own g' b v sz (rows.set i row')->g'.nx=g.nx->(∀i,Zi v≠some i->g'.h.get i=g.h.get i)->Up b g g'->K .undef g'):(qA n (mA sz v i off) x g).sat K g D:=by
 rcases hv with⟨rfl,rfl⟩|⟨id,ep,lo,h1,h2,rfl,a⟩
 ·simp at hr
 ·simp only[mA,Ku];rw[GD a hr rfl ht hl hp];refine k _ (.inr ⟨id,ep,lo,h1,by simpa using h2,by simp,by simp[aY]⟩) (by simp) (λi hne=>?_) (Up.put h1 _);rw[G.put_h,aF (λe=>hne (by rw[e];rfl))]
theorem bs4{sz bytes:Nat}{zero:List AV}{k1 k2:IntKind}{n:Nat}(hn:n<=aQ)(hb:n*bytes<=aQ)(hg:b<=g.nx)
  (k:∀v' g',Own g' b v' sz (List.replicate n zero)->g'.nx=g.nx+1->Up g.nx g g'->Zi v'=some g.nx->K v' g') :
  (M9 sz bytes zero (.int k1 (n:Int)) (.int k2 (n:Int)) g).sat K g D:=by
 show (match dU aQ (.int k2 (.ofNat n)) with
  | some cn=>match dU cn (.int k1 (.ofNat n)) with
   |some ln=>ap (Nat.ble (cn*bytes) aQ) (OR.upd (.ZG g.nx 0 0 ln none) (g.new (Z4 sz (jb cn zero)))) .fail
   |none=>.fail
  |none=>.fail).sat K g D
 simp only[dU,aa,R1,ZN hn,ZV,ZN hb,if_true];exact k _ _ (.inr ⟨g.nx,0,false,hg,by simp,by simp,by simp[aY,jb]⟩) (by simp) (Up.new (ZV _) _) rfl
structure Ug (g g':G):Prop where
 nx:g.nx<=g'.nx
 up:Up g.nx g g'
theorem Ug.trans{g g1 g2:G}(h:Ug g g1)(h':Ug g1 g2):Ug g g2:=⟨Y1 h.nx h'.nx,h.up.trans (h'.up.mono h.nx)⟩
theorem Ug.fr{g':G}(h:Ug g g'):Fr g g':=⟨h.nx,h.up.1⟩
theorem Ug.new(g:G)(o:ZM):Ug g (g.new o):=⟨by simp,Up.new (ZV _) o⟩
theorem jB{x y:ZC}(hx:x.wr=[])(hb:x.lk.big=false)(hs:x.lk.sr=[])(h:∀i∈y.wr,i ∉ x.lk.rd):bz x y=true:=by
 have k:meets y.wr []=false:=by simp[meets]
 have a:meets y.wr x.lk.rd=false:=by simp only[meets,aeM];intro i hi hc;exact h i hi (adt.1 hc)
 simp only[bz,fA,dL,hx,hb,hs,k,a,FG,MH,SM,XE,U4,U2]
 split<;>rfl
theorem ui{x y:ZC}(hy:y.wr=[])(hb:y.lk.big=false)(hs:y.lk.sr=[])(h:∀i∈x.wr,i ∉ y.lk.rd):bz x y=true:=by
 have k:meets x.wr []=false:=by simp[meets]
 have a:meets x.wr y.lk.rd=false:=by simp only[meets,aeM];intro i hi hc;exact h i hi (adt.1 hc)
 simp only[bz,fA,dL,hy,hb,hs,k,a,FG,MH,SM,XE,U4,U2]
 split<;>rfl
def ER(set:Nat):List Nat:=((List.range 256).filter λs=>decide (s &&& set=s)).reverse
def f8(set part:Nat):Nat:=(part - 1) &&& set
def j6(set:Nat):List Nat->Bool
 |[]=>false
 |[a]=>decide (a=0)
 |a::b::r=>decide (a≠0)&&decide (f8 set a=b)&&j6 set (b::r)
theorem bs3:∀set:Nat,set<256->j6 set (ER set)=true/\(ER set)[0]?=some set:=by decide +kernel
theorem RH:∀{l:List Nat} {set:Nat},j6 set l=true->∀j a,l[j]?=some a->(a=0↔j+1=l.length)/\(a≠0->l[j+1]?=some (f8 set a))
 |[],_,h,_,_,_=>by cases h
 | [b],set,h,0,a,e=>by simp at e;subst e;rw[j6,decide_eq_true_iff]at h;exact⟨⟨λ_=>rfl,λ_=>h⟩,λh'=>absurd h h'⟩
 |[b],set,h,j+1,a,e=>by simp at e
 | b::c::r,set,h,0,a,e=>by simp at e;subst e;rw[j6,Zk,Zk,decide_eq_true_iff,decide_eq_true_iff]at h;exact⟨⟨λh'=>absurd h' h.1.1,λh'=>by simp at h'⟩,λ_=>by simp[h.1.2]⟩
 | b::c::r,set,h,j+1,a,e=>by rw[j6,Zk]at h;have:=RH h.2 j a (by simpa using e);simpa using this
theorem mO{set:Nat}(hs:set<256):s∈ER set↔s &&& set=s:=by
 rw[ER,List.mem_reverse,adO,Q9,decide_eq_true_iff];constructor
 ·exact λh=>h.2
 ·intro h;have:s<=set:=by rw[<-h];exact TH
  exact⟨by omega,h⟩
theorem MF(set:Nat):(ER set).Pairwise (· > ·):=by rw[ER,List.pairwise_reverse];exact aea.filter _
def exC:Ex->Code
 |.norm=>.skip
 |.exit j=>.exit j
 |.ret=>.ret
theorem bs2{id:Nat}{ps:List Nat}{a b:SC}{args:List AV}{t':T}{ex:Ex}(hne:ex≠.norm)
  (hg:g.h.get id=.loop nt t ps assign body ZP .ready none) (ha:cx C nt assign=a) (hb:cx C nt body=b) (hp:dO t nt ps args=some t')
  (h:wp C d (some id) a (λe t1 df g1=>e=.norm/\df=[]/\g1.h.get id=.loop nt t ps assign body ZP .ready none /\
   wp C d (some id) b (λe _ df g2=>df=[]/\g2.h.get id=.loop nt t ps assign body ZP .busy none/\((e=.norm/\K (.bool true) (g2.put id (.loop nt t ps assign body ZP .ready none)))\/(e=ex/\K (.bool false) (g2.put id (.loop nt t ps assign body ZP .done (some (exC ex)))))))
    t1 [] (g1.put id (.loop nt t ps assign body ZP .busy none))) t' [] g) :
  (dx (I C) d id args g).sat K g D:=by
 subst ha;subst hb;unfold dx;rw[show g.get id=_ from hg];dsimp only;rw[hp];dsimp only;have h1:=o9 h;cases hc:(I C).code nt d (some id) assign t' [] g with
 |fail=>rw[hc]at h1;exact h1.elim
 | ok e t1 df g1 =>
  rw[hc]at h1;obtain⟨rfl,rfl,c,h2⟩:=h1;dsimp only;rw[show g1.get id=_ from c];dsimp only;have k:=o9 h2;cases hc2:(I C).code nt d (some id) body t1 [] (g1.put id (.loop nt t ps assign body ZP .busy none)) with
  |fail=>rw[hc2]at k;exact k.elim
  | ok e t2 df2 g2 =>
   rw[hc2]at k;obtain⟨rfl,h4,h5⟩:=k;dsimp only;rw[show g2.get id=_ from h4];rcases h5 with⟨rfl,h5⟩|⟨rfl,h5⟩
   ·exact h5
   ·cases e with
    |norm=>exact absurd rfl hne
    |exit j=>exact h5
    |ret=>exact h5
theorem bs1{fv:AV}{ps:List Nat}{fn:Nat}{first cap:List AV}{s:SF}{ex:Ex}(hne:ex≠.norm)(hv:fv=.ZH fn first cap)(he:C.ext fn=none)(hs:ZE C fn=some s)
  (hl:(first++(.NH g.nx::cap)).length<=s.nt)
  (h:wp C d none s.code (Xs C d s.res λ_ g2=>∃nt' t' ps' as' bd' dfr',(g2.h.get g.nx=.loop nt' t' ps' as' bd' dfr' .ready none/\Q .norm t df (g2.put g.nx (.loop nt' t' ps' as' bd' dfr' .exhausted none))) \/
     (g2.h.get g.nx=.loop nt' t' ps' as' bd' dfr' .done (some (exC ex))/\Q ex t df (g2.put g.nx (.loop nt' t' ps' as' bd' dfr' .exhausted (some (exC ex))))))
    (bk 0 (first++(.NH g.nx::cap)) .nil) [] (g.new (.loop nt t ps assign body ZP .ready none))) :
  (cj C (I C) nt d rd fv ps assign body t df ZP g).sat Q:=by
 have h:=j5 hs hl h;subst hv;unfold cj;dsimp only;rw[he];show (match (I C).call d fn (first++(AV.NH g.nx::cap)) (g.new (.loop nt t ps assign body ZP .ready none)) with
  |.ok _ g2=>dB (I C) nt d rd g.nx t df g2
  |.fail=>.fail).sat Q
 cases hc:(I C).call d fn (first++(AV.NH g.nx::cap)) (g.new (.loop nt t ps assign body ZP .ready none)) with
 |fail=>rw[hc]at h;exact h.elim
 | ok v g2 =>
  rw[hc]at h;obtain⟨nt',t',ps',as',bd',dfr',h⟩:=h;show (dB (I C) nt d rd g.nx t df g2).sat Q;unfold dB;rcases h with⟨h1,h2⟩|⟨h1,h2⟩
  ·rw[show g2.get g.nx=_ from h1];exact h2
  ·rw[show g2.get g.nx=_ from h1];dsimp only;rw[IQ];cases ex with
   |norm=>exact absurd rfl hne
   |exit j=>exact h2
   |ret=>exact h2
def ssC(s:Nat):AV:=.ZH 118 [] [.ZR 0 1 [[ZW (s:Int)]] 0 0]
theorem bs0[Z0]:C0.ext 118=none:=by kernel_rfl
theorem br_{x:AV}{k:IntKind}{q:Int}{id:Nat}(hx:x=.int k q)(d n:Nat)(hg:h.get id=Z4 1 [[x]]):Hx.ZS h d (n+3) (ZZ id)=some (.ZR (Nat.max d 0) 1 [[x]] 0 0):=by
 subst hx;simp only[Hx.ZS,hg,show Nat.beq 0 0=true from rfl,aD]
 rfl
def SsV(s:AV):VS:=λP k h v=>∃p,v=.ZH 118 [] [p]/\((∃id,p=ZZ id/\P id/\h.get id=Z4 1 [[s]])\/∃t,p=.ZR t 1 [[s]] 0 0/\t<=k)
theorem br9{s:AV}{k1:IntKind}{q1:Int}(hs:s=.int k1 q1):Qx (SsV s) 4:=by
 refine⟨λ{P k h v j} d r hn=>?_,λ{k h v j} r hn=>?_⟩
 ·obtain⟨p,rfl,a⟩:=r;obtain⟨j,rfl⟩:∃i,j=i+4:=⟨j - 4,by omega⟩;obtain⟨p',e1,c⟩:∃p',Hx.ZS h d (j+3) p=some p'/\∃t,p'=.ZR t 1 [[s]] 0 0/\t<=max k d:=by
   rcases a with⟨id,rfl,-,hg⟩|⟨t,rfl,ht⟩
   ·exact⟨_,br_ hs d j hg,_,rfl,by show max d 0<=_;omega⟩
   ·exact⟨_,rfl,_,rfl,by omega⟩
  refine⟨.ZH 118 [] [p'],?_,p',rfl,.inr c⟩;show (match aD (Hx.ZS h d (j+3)) [],aD (Hx.ZS h d (j+3)) [p] with|some as',some cs=>some (AV.ZH 118 as' cs)|_,_=>none)=_;simp only[aD,e1]
 ·obtain⟨p,rfl,a⟩:=r;obtain⟨j,rfl⟩:∃i,j=i+4:=⟨j - 4,by omega⟩;rcases a with⟨id,rfl,b,-⟩|⟨t,rfl,ht⟩
  ·exact b.elim
  subst hs;exact⟨_,rfl,by show max t 0<=k;omega⟩
theorem GG[Z0](hd:0<d):ae C0 d 84 [ZW (s:Int)] g=.val (ssC s):=by
 have key:∃r,ae C0 d 84 [ZW (s:Int)] g=.val r/\SsV (ZW (s:Int)) ZX 0 .nil r:=by rw[Zn];refine aI A6 (xs:=[ZW (s:Int)]) rfl (by simp[ma]) (br9 rfl) (by decide) hd ?_;simp only[sz,simprocAttr,ma,pN];exact⟨λ_=>True,_,rfl,.inl ⟨0,rfl,trivial,by simp[sx,Za]⟩⟩
 obtain⟨r,h1,p,rfl,h2⟩:=key;rcases h2 with⟨id,rfl,h,-⟩|⟨t,rfl,ht⟩
 ·exact h.elim
 rw[h1,show t=0 by omega];rfl
theorem Lm(t:Nat)(x:AV)(g:G):t7 false 1 (.ZR t 1 [[x]] 0 0) g=.val x:=rfl
theorem br8[Z0]{id:Nat}(hs:s<256)(J:Nat->G->Prop)(E:G->Prop)
  (step:∀(j a:Nat) (g:G) (K':AV->G->Prop) (D:ZU->Prop),(ER s)[j]?=some a->g0.nx<=g.nx->J j g ->
   (∀g',J (j+1) g'->g.nx<=g'.nx->K' (.bool true) g')->(∀g',E g'->g.nx<=g'.nx->K' (.bool false) g')->(dx (I C0) d id [ZW (a:Int)] g).sat K' g D)
  (h0:J 0 g0) (fin:∀g',J (ER s).length g'->g0.nx<=g'.nx->K (.Zz []) g') (finE:∀g',E g'->g0.nx<=g'.nx->K (.Zz []) g') :
  wp C0 d none cT.code (Xs C0 d cT.res K) (bk 0 [.NH id,.ZR 0 1 [[ZW (s:Int)]] 0 0] .nil) [] g0:=by
 obtain⟨m,l⟩:=bs3 s hs;simp only[sz,simprocAttr,cT,Lm];refine gB (λn t df g=>df=[]/\∃j a:Nat,n=(ER s).length - j/\(ER s)[j]?=some a/\St t [(0,.NH id),(1,.ZR 0 1 [[ZW (s:Int)]] 0 0),(3,ZW (a:Int))]/\J j g/\g0.nx<=g.nx) (ER s).length
  ⟨rfl,0,s,by omega,l,by simp[St,sx],h0,ZV _⟩ ?_
 rintro n t df g ⟨rfl,j,a,rfl,h,⟨c,t1,e,-⟩,q,v⟩;have u:=(tI.1 h).1;obtain⟨c1,p⟩:=RH m j a h;have i:=(mO hs).1 (YH h);have r:a<=s:=by rw[<-i];exact TH
 rw[show (ER s).length - j=(ER s).length - (j+1)+1 by omega];simp only[lH];simp only[sz,simprocAttr,c,t1,e];refine step j a _ _ _ h (by simpa using v) q ?_ ?_
 ·intro g' b o
  by_cases es:a=0
  ·have e':(a:Int)=0:=by omega
   simp only[sz,simprocAttr,c,t1,e,e'];exact fin _ (by rw[<-c1.1 es];exact b) (by omega)
  ·have e':¬(a:Int)=0:=by omega
   have w1:IntKind.wrap .u64 ((a:Int) - 1)=((a - 1:Nat):Int):=by rw[du (by omega) (by omega)];omega
   have k:=qK (a - 1) s (by omega) (by omega);rw[show a - 1 &&& s=f8 s a from rfl]at k;simp only[sz,simprocAttr,c,t1,e,e',w1,Lm,k];exact⟨_,by omega,j+1,f8 s a,rfl,p es,by simp[St,sx,c,t1],b,by omega⟩
 ·intro g' f o;simp only[sz,simprocAttr,c,t1,e];exact finE _ f (by omega)
theorem Xf[Z0]{fv:AV}{ex:Ex}(hne:ex≠.norm)(hs:s<256)(hv:fv=ssC s)(hp:p<nt)
  (J:Nat->G->Prop) (E:G->Prop) (hJ:∀j (x y:G),x.nx<=y.nx->(∀i,i≠g.nx->y.h.get i=x.h.get i)->J j x->J j y) (hE:∀x y:G,x.nx<=y.nx->(∀i,i≠g.nx->y.h.get i=x.h.get i)->E x->E y) (h0:J 0 g)
  (step:∀(j a:Nat) (g1:G),(ER s)[j]?=some a->J j g1->g.nx<g1.nx ->
   wp C0 d (some g.nx) (cx C0 nt assign) (λe t1 df g1'=>e=.norm/\df=[]/\g1.nx<=g1'.nx/\g1'.h.get g.nx=g1.h.get g.nx/\∀g2:G,g2.nx=g1'.nx->(∀i,i≠g.nx->g2.h.get i=g1'.h.get i)->(∃nt t ps ss bd st pe,g2.h.get g.nx=.loop nt t ps ss bd ZP st pe) ->
    wp C0 d (some g.nx) (cx C0 nt body) (λe _ df g3=>df=[]/\g2.nx<=g3.nx/\g3.h.get g.nx=g2.h.get g.nx/\((e=.norm/\J (j+1) g3)\/(e=ex/\E g3))) t1 [] g2)
    (f_ t p (ZW (a:Int))) [] g1)
  (fin:∀g',J (ER s).length g'->g.nx<g'.nx->Q .norm t df g')
  (finE:∀g',E g'->g.nx<g'.nx->Q ex t df g') :
  (cj C0 (I C0) nt d rd fv [p] assign body t df ZP g).sat Q:=by
 refine bs1 (fn:=118) (first:=[]) (cap:=[.ZR 0 1 [[ZW (s:Int)]] 0 0]) (s:=cT) hne hv bs0 y7 (by simp[cT]) ?_;have e1:(g.new (.loop nt t [p] assign body ZP .ready none)).nx=g.nx+1:=by simp
 refine br8 (g0:=g.new (.loop nt t [p] assign body ZP .ready none)) (id:=g.nx) hs
  (λj x=>J j x/\x.h.get g.nx=.loop nt t [p] assign body ZP .ready none)
  (λg'=>E g'/\g'.h.get g.nx=.loop nt t [p] assign body ZP .done (some (exC ex))/\g.nx<g'.nx) ?_ ?_ ?_ ?_
 ·rintro j a g1 K' D q b ⟨a1,k⟩ kk kE;rw[e1]at b;refine bs2 hne k rfl rfl (t':=f_ t p (ZW (a:Int))) ?_ ?_
  ·simp only[dO,aa,YD,ZN hp];rfl
  ·refine ch _ (step j a g1 q a1 (by omega)) ?_;rintro e t1 df g1' ⟨rfl,rfl,o,f,h⟩;have c:g1'.h.get g.nx=.loop nt t [p] assign body ZP .ready none:=by rw[f,k]
   refine⟨rfl,rfl,c,?_⟩;refine ch _ (h (g1'.put g.nx (.loop nt t [p] assign body ZP .busy none)) (by simp) (λi hi=>by simp[Za,hi]) ⟨nt,t,[p],assign,body,.busy,none,by rw[G.put_h,aY]⟩) ?_;rintro e t2 df g3 ⟨rfl,b2,m,b1⟩;have n:g3.h.get g.nx=.loop nt t [p] assign body ZP .busy none:=by rw[m];simp[Za]
   refine⟨rfl,n,?_⟩;have l:g1'.nx<=g3.nx:=by simpa using b2
   rcases b1 with⟨rfl,b1⟩|⟨rfl,b1⟩
   ·refine .inl ⟨rfl,kk _ ⟨hJ _ g3 _ (by simp) (λi hi=>by simp[Za,hi]) b1,?_⟩ (by simp;omega)⟩;simp[Za]
   ·refine .inr ⟨rfl,kE _ ⟨hE g3 _ (by simp) (λi hi=>by simp[Za,hi]) b1,?_,?_⟩ ?_⟩
    ·simp[Za]
    ·simp;omega
    ·simp;omega
 ·refine⟨hJ 0 g _ (by simp) (λi hi=>?_) h0,?_⟩
  ·simp[Za,hi]
  ·simp[Za]
 ·rintro g' ⟨a1,k⟩ b;rw[e1]at b;exact⟨_,_,_,_,_,_,.inl ⟨k,fin _ (hJ _ g' _ (by simp) (λi hi=>by simp[Za,hi]) a1) (by simp;omega)⟩⟩
 ·rintro g' ⟨a1,k,b⟩ -;exact⟨_,_,_,_,_,_,.inr ⟨k,finE _ (hE g' _ (by simp) (λi hi=>by simp[Za,hi]) a1) (by simpa using b)⟩⟩
theorem TV[Z0]{ca cb:SC}{ex:Ex}(hne:ex≠.norm)(hs:s<256)(hv:ZY t y=ssC s)(hp:p<nt)
  (J:Nat->G->Prop) (E:G->Prop) (hJ:∀j (x y:G),x.nx<=y.nx->(∀i,i≠g.nx->i≠g.nx+1->y.h.get i=x.h.get i)->J j x->J j y) (hE:∀x y:G,x.nx<=y.nx->(∀i,i≠g.nx->i≠g.nx+1->y.h.get i=x.h.get i)->E x->E y) (h0:J 0 g)
  (step:∀(j a:Nat) (g1:G),(ER s)[j]?=some a->J j g1->g.nx+2<=g1.nx ->
   wp C0 d (some (g.nx+1)) ca (λe t1 df g1'=>e=.norm/\df=[]/\Fr g1 g1'/\∀g2:G,g2.nx=g1'.nx->(∀i,i≠g.nx+1->g2.h.get i=g1'.h.get i)->(∃nt t ps ss bd st pe,g2.h.get (g.nx+1)=.loop nt t ps ss bd g.nx st pe) ->
    wp C0 d (some (g.nx+1)) cb (λe _ df g3=>df=[]/\g2.nx<=g3.nx/\g3.h.get g.nx=g2.h.get g.nx/\g3.h.get (g.nx+1)=g2.h.get (g.nx+1)/\((e=.norm/\J (j+1) g3)\/(e=ex/\E g3))) t1 [] g2)
    (f_ t p (ZW (a:Int))) [] g1)
  (fin:∀g',J (ER s).length g'->g.nx+2<=g'.nx->g'.h.get g.nx=.ZP true->Q .norm t (.mark g.nx::df) g')
  (finE:∀g',E g'->g.nx+2<=g'.nx->g'.h.get g.nx=.ZP true->Q ex t (.mark g.nx::df) g') :
  wp C0 d none (.Yv nt (.t y) [p] ca cb) Q t df g:=by
 intro assign body ha hb;subst ha;subst hb;show (cj C0 (I C0) nt d none (ZY t y) [p] assign body t (.mark g.nx::df) g.nx (g.new (.ZP true))).sat Q;have e1:(g.new (.ZP true)).nx=g.nx+1:=by simp
 refine Xf hne hs hv hp (λj x=>J j x/\x.h.get g.nx=.ZP true) (λx=>E x/\x.h.get g.nx=.ZP true) ?_ ?_ ?_ ?_ ?_ ?_
 ·rintro j x y k b ⟨a1,a2⟩;rw[e1]at b;exact⟨hJ j x y k (λi _ hi=>b i hi) a1,by rw[b _ (by omega),a2]⟩
 ·rintro x y k b ⟨a1,a2⟩;rw[e1]at b;exact⟨hE x y k (λi _ hi=>b i hi) a1,by rw[b _ (by omega),a2]⟩
 ·exact⟨hJ 0 g _ (by simp) (λi hi hi'=>by simp[Za,hi]) h0,by simp[Za]⟩
 ·rintro j a g1 m ⟨a1,a2⟩ k;rw[e1]at k ⊢;refine ch _ (step j a g1 m a1 (by omega)) ?_;rintro e t1 df g1' ⟨rfl,rfl,hf,h⟩;refine⟨rfl,rfl,hf.1,hf.2 _ (by omega),λg2 hn2 hg2 hl=>?_⟩;refine ch _ (h g2 hn2 hg2 hl) ?_;rintro e t2 df g3 ⟨rfl,b2,f,l,b1⟩;have c:g3.h.get g.nx=.ZP true:=by rw[f,hg2 _ (by omega),hf.2 _ (by omega),a2]
  refine⟨rfl,b2,l,?_⟩;rcases b1 with⟨rfl,b1⟩|⟨rfl,b1⟩
  ·exact .inl ⟨rfl,b1,c⟩
  ·exact .inr ⟨rfl,b1,c⟩
 ·rintro g' ⟨a1,a2⟩ k;rw[e1]at k;exact fin g' a1 (by omega) a2
 ·rintro g' ⟨a1,a2⟩ k;rw[e1]at k;exact finE g' a1 (by omega) a2
theorem br7[Z0]{l:Nat}{ca cb:SC}{ex:Ex}(hne:ex≠.norm)(hs:s<256)(hv:ZY t y=ssC s)(hp:p<nt)(hl:∃nt t ps ss bd st pe,g.h.get l=.loop nt t ps ss bd ZP st pe)
  (J:Nat->G->Prop) (E:G->Prop) (hJ:∀j (x y:G),x.nx<=y.nx->(∀i,i≠g.nx->y.h.get i=x.h.get i)->J j x->J j y) (hE:∀x y:G,x.nx<=y.nx->(∀i,i≠g.nx->y.h.get i=x.h.get i)->E x->E y) (h0:J 0 g)
  (step:∀(j a:Nat) (g1:G),(ER s)[j]?=some a->J j g1->g.nx<g1.nx ->
   wp C0 d (some g.nx) ca (λe t1 df g1'=>e=.norm/\df=[]/\g1.nx<=g1'.nx/\g1'.h.get g.nx=g1.h.get g.nx/\∀g2:G,g2.nx=g1'.nx->(∀i,i≠g.nx->g2.h.get i=g1'.h.get i) ->
    wp C0 d (some g.nx) cb (λe _ df g3=>df=[]/\g2.nx<=g3.nx/\g3.h.get g.nx=g2.h.get g.nx/\((e=.norm/\J (j+1) g3)\/(e=ex/\E g3))) t1 [] g2)
    (f_ t p (ZW (a:Int))) [] g1)
  (fin:∀g',J (ER s).length g'->g.nx<g'.nx->Q .norm t df g')
  (finE:∀g',E g'->g.nx<g'.nx->Q ex t df g') :
  wp C0 d (some l) (.Yv nt (.t y) [p] ca cb) Q t df g:=by
 obtain⟨k,b,c,f,m,n,o,hl⟩:=hl;intro assign body ha hb;subst ha;subst hb;show (match g.get l with
  |.loop _ _ _ _ _ ZP _ _=>cj C0 (I C0) nt d (some l) (ZY t y) [p] assign body t df ZP g
  |_=>.fail).sat Q
 rw[show g.get l=_ from hl];dsimp only;refine Xf hne hs hv hp J E hJ hE h0 (λj a g1 h1 h2 h3=>?_) fin finE;refine ch _ (step j a g1 h1 h2 h3) ?_;rintro e t1 df g1' ⟨rfl,rfl,b1,b2,h⟩;exact⟨rfl,rfl,b1,b2,λg2 k1 k2 _=>h g2 k1 k2⟩
section
variable {c lo pm:Nat}
variable {α:Type} [DecidableEq α]
theorem Ce[Z0](hd:0<d)(ha:a<2^64)(hb:b<2^64) :
  ae C0 d 101 [ZW (a:Int),ZW (b:Int)] g=.val (ZW (Nat.gcd a b:Int)):=by
 rw[Zn];refine cz Fh (xs:=[ZW (a:Int),ZW (b:Int)]) (by simp only[aD,aU 0]) (by simp[rK]) hd ?_;simp only[sz,simprocAttr,rK];refine gB (λk t df g=>df=[]/\∃x y:Nat,x<18446744073709551616/\y<18446744073709551616/\k=y/\Nat.gcd x y=Nat.gcd a b/\St t [(0,ZW (x:Int)),(1,ZW (y:Int))]) b
  ⟨rfl,a,b,ha,hb,rfl,rfl,by simp[sx,St]⟩ ?_
 rintro y t df g ⟨rfl,x,y',hx,c,rfl,hg,h0,h1,-⟩;simp only[sz,simprocAttr,ta,h1];refine ba (λhq=>?_) (λhq=>?_)
 ·have h:0<y:=by simp at hq;omega
  have hm:=US x h;simp only[sz,simprocAttr,h0,h1,gC .u64 (show (0:Int)<=(x:Int) by omega) (show (0:Int)<(y:Int) by omega)];exact⟨x % y,hm,y,x % y,c,by omega,rfl,by rw[<-hg,ae1 y,<-Nat.gcd_rec,ae1],by simp[St,sx]⟩
 ·have h:y=0:=by simp at hq;omega
  subst h;rw[afq]at hg;simp only[sz,simprocAttr,tb,h0,hg]
theorem xS[Z0]{a:Int}(hd:0<d)(ha:0<=a/\a<2^63):ae C0 d 102 [Z_ a] g=.val (ZW a):=by
 rw[wI];refine cz A2 (xs:=[Z_ a]) (by simp only[aD,aU 0]) (by simp[mW]) hd ?_;simp only[sz,simprocAttr,mW];refine ba (λhq=>?_) (λhq=>?_)
 ·simp at hq;omega
 ·simp only[sz,simprocAttr,du ha.1 (show a<2^64 by omega)]
theorem br6[Z0]{x:Nat}(hd:0<d)(hx:x<=4611686018427387903)(hy:y<=4611686018427387903) :
  ae C0 d 103 [.bool false,.agg [ZW 0,ZW (x:Int)],.agg [ZW 0,ZW (y:Int)]] g=.val (.agg [Z_ (x:Int),Z_ (y:Int)]):=by
 have key:∃r,ae C0 d 103 [.bool false,.agg [ZW 0,ZW (x:Int)],.agg [ZW 0,ZW (y:Int)]] g=.val r/\Zl (((x:Int),(y:Int)):QI) ZX 0 .nil r:=by
  rw[Zn];refine aI KJ (xs:=[.bool false,.agg [ZW 0,ZW (x:Int)],.agg [ZW 0,ZW (y:Int)]]) rfl (by simp[Aa]) (cH _) (by decide) hd ?_;have b:∀id,FW 2 1 (ZZ id) (Z_ 0)=.val (ZZ id):=λid=>SV 2 1 id 0 0 0 .i64 (j:=0) (by decide);have a:∀id,FW 2 1 (ZZ id) (Z_ 1)=.val (.ZD id 0 0 1):=λid=>SV 2 1 id 0 0 0 .i64 (j:=1) (by decide);have h:decide ((4611686018427387903:Int)<(x:Int))=false:=by simp;omega
  have k:decide ((4611686018427387903:Int)<(y:Int))=false:=by simp;omega
  simp only[sz,simprocAttr,Aa,Ba,b,a,h,k];simp only[sz,simprocAttr,zk,a,aq (show -2^63<=(x:Int) by omega) (show (x:Int)<2^63 by omega),aq (show -2^63<=(y:Int) by omega) (show (y:Int)<2^63 by omega)];exact⟨ZX,vp.2 rfl⟩
 obtain⟨r,h1,h2⟩:=key;rw[h1,vp.1 h2]
theorem br5[Z0](d:Nat)(a b:AV)(g:G):∃v,(I C0).call d 128 [a,b] g=.ok v g:=by
 have key:=j5 (C:=C0) (d:=d) (f:=128) («as»:=[a,b]) (g:=g) (K:=λv g'=>g'=g) wS (by simp[iH]) ?_
 ·cases hc:(I C0).call d 128 [a,b] g with
  |fail=>rw[hc]at key;exact key.elim
  |ok v g'=>rw[hc]at key;exact⟨v,by rw[show g'=g from key]⟩
 have e:uz true (.iface true) .tO .tO=.val (.bool false):=rfl;simp only[iH,sx,rm];simp only[sz,simprocAttr,e]
theorem br4[Z0]{fn:Nat}{a a':List AV}{x:QI}(hd:0<d)(hs:Hx.ZS g.h d aw (.ZH fn [] a)=some (.ZH fn [] a'))(hc:∀(g:G) (K:AV->G->Prop) (D:ZU->Prop),(∀g',Fr g g'->K (.agg [Z_ x.1,Z_ x.2]) g')->(dQ C0 (I C0) (d+1) (.ZH fn [] a') [] g).sat K g D) :
  ae C0 d 99 [.ZH fn [] a] g=.val (.Zz [.agg [Z_ x.1,Z_ x.2],Z_ 0]):=by
 have key:∃r,ae C0 d 99 [.ZH fn [] a] g=.val r/\mQ (Zl x) (One (0:Int)) ZX 0 .nil r:=by
  rw[Zn];refine aI zS (xs:=[.ZH fn [] a']) (by simp only[aD,hs]) (by simp[kg]) (bM (m:=2) (cH _) (aE _) (by decide) (by decide)) (by decide) hd ?_;simp only[sz,simprocAttr,kg,oe];rw[u_ (f:=128) (first:=[]) (cap:=[ZZ 0,ZZ 1]) (by simp[sx])];simp only[sz,simprocAttr,Em,Eb];refine hc _ _ _ λg2 fr2=>?_;have k0:g2.h.get 0=Z4 2 [[Z_ 0,Z_ 0]]:=by rw[fr2.2 0 (by simp[sx])];simp[sx,Za]
  have e:g2.h.get 1=Z4 1 [[Z_ 0]]:=by rw[fr2.2 1 (by simp[sx])];simp[sx]
  simp only[sz,simprocAttr,k0,e];obtain⟨v,c⟩:=br5 (d+1) (ZZ 0) (ZZ 1) ((g2.put 0 (Z4 2 [[Z_ x.1,Z_ x.2]])).put 1 (Z4 1 [[Z_ 0]]));refine yA c ?_;simp only[sx,sy,↓reduceIte,Nat.reduceEqDiff,Nat.reduceAdd,Nat.reduceLeDiff];exact⟨ZX,_,_,rfl,vp.2 rfl,ay.2 rfl⟩
 obtain⟨r,h1,a,b,rfl,h2,k⟩:=key;have k:=ay.1 k;injection k with k;rw[h1,vp.1 h2,k]
theorem br3[Z0]{n z:Nat}(hd:0<d)(hn:n<=4611686018427387903)(hm0:0<m)(hm:m<=4611686018427387903)
  (kk:∀g',Fr g g'->K (.agg [Z_ (Cb n m).1,Z_ (Cb n m).2]) g') :
  (dQ C0 (I C0) d (.ZH 100 [] [.ZR z 1 [[Z_ (n:Int)]] 0 0,.ZR z 1 [[Z_ (m:Int)]] 0 0]) [] g).sat K g D:=by
 have hg0:0<Nat.gcd n m:=ad0 n hm0;have q1:n / Nat.gcd n m<=n:=Y2 _ _;have q2:m / Nat.gcd n m<=m:=Y2 _ _;have e1:∀g,ae C0 d 102 [Z_ (n:Int)] g=.val (ZW (n:Int)):=λg=>xS hd ⟨by omega,by omega⟩;have k:∀g,ae C0 d 102 [Z_ (m:Int)] g=.val (ZW (m:Int)):=λg=>xS hd ⟨by omega,by omega⟩;have a:∀g,ae C0 d 101 [ZW (n:Int),ZW (m:Int)] g=.val (ZW (Nat.gcd n m:Int)):=λg=>Ce hd (by omega) (by omega);have l1:decide ((n:Int)<0)=false:=by simp
 have l2:decide ((m:Int)<0)=false:=by simp
 have wq:∀x:Nat,x<=4611686018427387903->∀y:Nat,0<y->bN .quo (ZW (x:Int)) (ZW (y:Int))=.val (ZW ((x / y:Nat):Int)):=λx hx y hy=>by have h:x / y<=x:=Y2 _ _;rw[IZ .u64 (Ws x) (by omega),<-aeT];generalize x / y=z at h;rw[du (by omega) (by omega)]
 have b:∀g,ae C0 d 103 [.bool false,.agg [ZW 0,ZW ((n / Nat.gcd n m:Nat):Int)],.agg [ZW 0,ZW ((m / Nat.gcd n m:Nat):Int)]] g=.val (.agg [Z_ ((n / Nat.gcd n m:Nat):Int),Z_ ((m / Nat.gcd n m:Nat):Int)]):=λg=>br6 hd (by omega) (by omega);rw[MG];refine j9 Fg (by simp[rJ]) ?_;simp only[sz,simprocAttr,rJ,vz,sf,jR,e1,k,a,l1,l2,Yw,wq n hn _ hg0,wq m hm _ hg0,b];refine⟨?_,kk _ ⟨by simp;omega,λi hi=>?_⟩⟩
 ·simp only[I9,Nq,DI,ML];exact aK (Zb (Zb (true::[]))) [] (by simp[ZL,am,aA,xP,Hy]) (by decide) (by simp)
 ·simp[Za,show ¬i=g.nx by omega]
theorem br2[Z0]{n:Nat}(hd:0<d)(hn:n<=4611686018427387903)(hm0:0<m)(hm:m<=4611686018427387903) :
  ae C0 d 65 [Z_ (n:Int),Z_ (m:Int)] g=.val (.Zz [.agg [Z_ (Cb n m).1,Z_ (Cb n m).2],Z_ 0]):=by
 have key:∃r,ae C0 d 65 [Z_ (n:Int),Z_ (m:Int)] g=.val r/\mQ (Zl (Cb n m)) (One (0:Int)) ZX 0 .nil r:=by
  rw[Zn];refine aI Je (xs:=[Z_ (n:Int),Z_ (m:Int)]) rfl (by simp[wZ]) (bM (m:=2) (cH _) (aE _) (by decide) (by decide)) (by decide) hd ?_;have l1:decide ((m:Int)=0)=false:=by simp;omega
  simp only[sz,simprocAttr,wZ,zi,l1];rw[br4 (x:=Cb n m) (a':=[.ZR (Nat.max (d+1) 0) 1 [[Z_ (n:Int)]] 0 0,.ZR (Nat.max (d+1) 0) 1 [[Z_ (m:Int)]] 0 0]) (abc d) ?_ (λg K D kk=>br3 (abc _) hn hm0 hm kk)]
  ·simp only[sz,simprocAttr];exact⟨ZX,_,_,rfl,vp.2 rfl,ay.2 rfl⟩
  ·rw[Q4 (a':=.ZR (Nat.max (d+1) 0) 1 [[Z_ (n:Int)]] 0 0) (b':=.ZR (Nat.max (d+1) 0) 1 [[Z_ (m:Int)]] 0 0) (Ma (n:=(n:Int)) (d+1) 20 (by simp[sx,Za])) (Ma (n:=(m:Int)) (d+1) 20 (by simp[sx,Za]))]
 obtain⟨r,h1,a,b,rfl,h2,h⟩:=key;have h:=ay.1 h;injection h with h;rw[h1,vp.1 h2,h]
def br1(pm:List Nat)(ws:List (Bool×Bool)):Bool:=(List.range ws.length).all λj=>(List.range j).all λi=>!(ws.getD i (false,false)).2 || !(ws.getD j (false,false)).1 || (pm.getD j 0).testBit i
theorem C9{pm:List Nat}{i:Nat}{x:ZC}:∀{r:List ZC} {j:Nat},(∀b y,r[b]?=some y->y.wr=[]\/(pm.getD (j+b) 0).testBit i=true)->cJ pm i x j r=0
 |[],_,_=>rfl
 | y::r,j,h=>by
  have h0:=h 0 y rfl;have ih:cJ pm i x (Nat.succ j) r=0:=C9 λb z hz=>by have:=h (b+1) z (by simpa using hz);rwa [show j+(b+1)=Nat.succ j+b by omega]at this
  have hc:((pm.getD j 0).testBit i || !meets y.wr (FG x.lk.sr))=true:=by
   rcases h0 with h0|h0
   ·rw[h0];simp[meets]
   ·rw[Yt]at h0;rw[h0,U4]
  rw[cJ,aa,ZN hc,ih]
theorem IE{pm:List Nat}:∀{l:List ZC} {i:Nat},(∀a x,l[a]?=some x->x.lk.sr=[]\/∀b y,a<b->l[b]?=some y->y.wr=[]\/(pm.getD (i+b) 0).testBit (i+a)=true)->ic pm i l=true
 |[],_,_=>rfl
 | x::r,i,h=>by
  have ih:ic pm (Nat.succ i) r=true:=IE λa y hy=>by
   rcases h (a+1) y (by simpa using hy) with h'|h'
   ·exact .inl h'
   ·refine .inr λb z hb hz=>?_;have:=h' (b+1) z (by omega) (by simpa using hz);rwa [show i+(b+1)=Nat.succ i+b by omega,show i+(a+1)=Nat.succ i+a by omega]at this
  rw[ic,ih];rcases h 0 x rfl with h'|h'
  ·rw[h'];first|done|rfl
  ·have hc:cJ pm i x (Nat.succ i) r=0:=C9 λb y hy=>by have:=h' (b+1) y (by omega) (by simpa using hy);rwa [show i+(b+1)=Nat.succ i+b by omega,Yt]at this
   rw[hc];cases x.lk.sr<;>rfl
theorem br0{pm:List Nat}{fs:List ZC}(ws:List (Bool×Bool))(L:List (Nat×Nat))(hw:ZL (λ(f:ZC) (w:Bool×Bool)=>(w.2=false->f.lk.sr=[])/\(w.1=false->f.wr=[])) fs ws)(hs:br1 pm ws=true)(hd:JM pm (ws.map (·.1)) L=true)
  (hL:∀p∈L,∀x y,fs[p.1]?=some x->fs[p.2]?=some y->bz x y=true):lp pm fs=true:=by
 unfold lp;rw[aa,ZN]
 ·refine IE λa x ha=>?_;obtain⟨wa,d,ka⟩:=hw.get ha;cases e:wa.2 with
  |false=>exact .inl (ka.1 e)
  | true =>
   refine .inr λb y hab hb=>?_;obtain⟨wb,k,kb⟩:=hw.get hb;have c:=(tI.1 k).1;have:=Xw.1 (Xw.1 hs b (Q9.2 c)) a (Q9.2 hab);simp only[acG,d,k,Ns,e,Q_,aek,T6,Qw]at this;rcases this with h|h
   ·exact .inl (kb.2 h)
   ·refine .inr ?_;rw[Ku,Ku,acG];exact h
 ·refine qJ λa b x y hab ha hb=>?_;simp only[Ku];obtain⟨wa,d,ka⟩:=hw.get ha;obtain⟨wb,k,kb⟩:=hw.get hb;have c:=(tI.1 k).1;have:=Xw.1 (Xw.1 hd b (Q9.2 (by simpa using c))) a (Q9.2 hab);simp only[JL,T6]at this;rcases this with (h|h)|h
  ·rw[h,U4]
  ·simp only[acG,Zy,d,k,PW,Ns,Zk,Qw]at h;have ex:=ka.2 h.1;have ey:=kb.2 h.2;simp only[bz,fA,dL,ex,ey,XE,ae0]
  ·rw[hL (a,b) (adt.1 h) x y ha hb,ae0]
def Qg(L:List (α×Int))(k:α):Int:=match L with
 |[]=>0
 | (a,v)::r=>if k=a then v else Qg r k
def Vn(k:α)(v:Int):List (α×Int)->List (α×Int)
 |[]=>[(k,v)]
 | (a,w)::r=>if k=a then (k,v)::r else (a,w)::Vn k v r
theorem OT(k j:α)(v:Int):∀L:List (α×Int),Qg (Vn k v L) j=if j=k then v else Qg L j
 |[]=>by simp only[Vn,Qg]
 | (a,w)::r=>by
  rw[Vn]
  by_cases e:k=a
  ·subst e;rw[ZN rfl,Qg,Qg]
   by_cases e2:j=k
   ·rw[ZN e2,ZN e2]
   ·rw[ZF e2,ZF e2,ZF e2]
  ·rw[ZF e,Qg,OT k j v r,Qg]
   by_cases e2:j=a
   ·rw[ZN e2,ZN e2,ZF (λh=>e (by rw[<-h,e2]))]
   ·rw[ZF e2,ZF e2]
def MW(kf:α->AV)(L:List (α×Int)):List (AV×AV):=L.map λp=>(kf p.1,Z_ p.2)
theorem Oj{kf:α->AV}(hk:∀a b,ni (kf a) (kf b)=some (decide (a=b)))(k:α):∀L:List (α×Int),qg (kf k) (MW kf L)=some (if L.any (λp=>decide (k=p.1)) then some (Z_ (Qg L k)) else none)
 |[]=>rfl
 | (a,w)::r=>by
  rw[MW,Qv,qg,hk]
  by_cases e:k=a
  ·subst e;simp[Qg]
  ·have ih:=Oj hk k r;rw[MW]at ih;simp only[Vf e];rw[ih,aeR,Qg,ZF e,Vf e,aek]
theorem Lr(k:α):∀L:List (α×Int),L.any (λp=>decide (k=p.1))=false->Qg L k=0
 |[],_=>rfl
 | (a,w)::r,h=>by rw[aeR,afc]at h;rw[Qg,ZF (ad7 h.1),Lr k r h.2]
theorem bq_{kf:α->AV}(hk:∀a b,ni (kf a) (kf b)=some (decide (a=b))){kk:Nm}{m k:T->AV}{id:Nat}{a:α}{L:List (α×Int)}(h1:m t=.hmap id)(h2:k t=kf a)(ho:lQ kk (kf a)=true)(hg:g.h.get id=.map (MW kf L)) :
  cW kk (Z_ 0) false m k t g=.val (Z_ (Qg L a)):=by
 unfold cW;rw[h1,h2,ho];simp only[G.get_eq,hg,Oj hk];cases h:L.any (λp=>decide (a=p.1)) with
 |true=>simp
 |false=>simp[Lr a L h]
theorem Gn{kt et:Nat}{z:AV}{ok:Bool}(hu:C.P.underlying ty=some (.map kt et))(hz:wm C.P et=some z)(d:Nat)(rd:Option Nat)(t:T)(g:G):(SO.raw (.lookup ty (.tmp a) (.tmp b) ok)).run C d rd t g=cW (cL C.P kt) z ok (λt=>ZY t a) (λt=>ZY t b) t g:=by obtain⟨h,e1,e⟩:=aT (C:=C) (x:=.tmp a) (o:=.t a) rfl;obtain⟨k,c,f⟩:=aT (C:=C) (x:=.tmp b) (o:=.t b) rfl;show (bP C _).run (I C) d rd t g=_;rw[cd (s:=⟨cW (cL C.P kt) z ok h.run k.run⟩) rfl (by simp only[cP,e1,c,hu,hz])];rw[show h.run=λt=>ZY t a from funext e,show k.run=λt=>ZY t b from funext f]
theorem yB(t:T)(g:G):SO.foot C t g (.raw (.lookup ty (.tmp a) (.tmp b) false))=⟨[],(an (ZY t a)).map (·,ty),[],false⟩:=by
 obtain⟨k,e1,h⟩:=aT (C:=C) (x:=.tmp a) (o:=.t a) rfl;show (aL C _).run t g=_;simp only[aL,e1,h]
 rfl
theorem UJ[Z0]:wm C0.P 3=some (Z_ 0):=by kernel_rfl
def Tb(k:α):List (α×Int)->Nat
 |[]=>0
 | (a,_)::r=>if k=a then 0 else Tb k r+1
def DS(k:α):List (α×Int)->List (α×Int)
 |[]=>[(k,0)]
 | (a,w)::r=>if k=a then (a,w)::r else (a,w)::DS k r
theorem OQ(k:α):∀L:List (α×Int),(DS k L)[Tb k L]?=some (k,Qg L k)
 |[]=>rfl
 | (a,w)::r=>by
  rw[DS,Tb,Qg]
  by_cases e:k=a
  ·subst e;simp
  ·simp[e,OQ k r]
theorem Lp(k:α)(x:Int):∀L:List (α×Int),(DS k L).set (Tb k L) (k,x)=Vn k x L
 |[]=>rfl
 | (a,w)::r=>by
  rw[DS,Tb,Vn]
  by_cases e:k=a
  ·subst e;simp
  ·simp[e,Lp k x r]
theorem OS(k:α):∀L:List (α×Int),L.any (λp=>decide (k=p.1))=true->DS k L=L
 |[],h=>by cases h
 | (a,w)::r,h=>by
  rw[DS]
  by_cases e:k=a
  ·rw[ZN e]
  ·rw[ZF e,OS k r (by simpa [e] using h)]
theorem Lo(k:α):∀L:List (α×Int),L.any (λp=>decide (k=p.1))=false->DS k L=L++[(k,0)]/\Tb k L=L.length
 |[],_=>⟨rfl,rfl⟩
 | (a,w)::r,h=>by rw[aeR,afc]at h;have e:=ad7 h.1;obtain⟨h1,h2⟩:=Lo k r h.2;rw[DS,Tb,ZF e,ZF e,h1,h2];exact⟨rfl,rfl⟩
theorem Fz{kf:α->AV}(hk:∀a b,ni (kf a) (kf b)=some (decide (a=b)))(k:α):∀(L:List (α×Int)) (s:Nat),ir (kf k) s (MW kf L)=some (if L.any (λp=>decide (k=p.1)) then some (s+Tb k L,Z_ (Qg L k)) else none)
 |[],s=>rfl
 | (a,w)::r,s=>by
  rw[MW,Qv,ir,hk]
  by_cases e:k=a
  ·subst e;simp[Qg,Tb]
  ·have ih:=Fz hk k r (Nat.succ s);rw[MW]at ih;simp only[Vf e];rw[ih,aeR,Qg,ZF e,Vf e,aek,Tb,ZF e,show Nat.succ s+Tb k r=s+(Tb k r+1) by omega]
theorem bq9{α:Type}{kf:α->AV}{m st x:T->AV}{id:Nat}{a:α}{y v:Int}{L:List (α×Int)}(h1:m t=.hmap id)(h2:st t=Z_ (i:Int))(h3:x t=Z_ v)(hg:g.h.get id=.map (MW kf L))(hi:L[i]?=some (a,y)) :
  dI m st x t g=.upd .undef (g.put id (.map (MW kf (L.set i (a,v))))):=by
 have e:CB i (MW kf L)=some (kf a,Z_ y):=by rw[eI,MW,Zy,hi];rfl
 have b:HJ i (kf a,Z_ v) (MW kf L)=MW kf (L.set i (a,v)):=by rw[jh,MW,MW,MO]
 unfold dI;simp only[h1,h2,h3,G.get_eq,hg];show (match CB i (MW kf L) with|some (k,_)=>OR.upd .undef (g.put id (.map (HJ i (k,Z_ v) (MW kf L))))|none=>.fail)=_;rw[e];show OR.upd .undef (g.put id (.map (HJ i (kf a,Z_ v) (MW kf L))))=_;rw[b]
def pk(a:Int×Int):AV:=.agg [Z_ a.1,Z_ a.2]
theorem TD(a b:Int×Int):ni (pk a) (pk b)=some (decide (a=b)):=by
 show (match pA (Z_ a.1) (Z_ b.1),eT [Z_ a.2] [Z_ b.2] with|some x,some y=>some (ap x y false)|_,_=>none)=_;show some (ap (FL a.1 b.1) (ap (FL a.2 b.2) true false) false)=_;rw[mK,mK];obtain⟨a1,a2⟩:=a;obtain⟨b1,b2⟩:=b
 by_cases h1:a1=b1<;>by_cases h2:a2=b2<;>simp[h1,h2,ap]
def ktP[Z0]:Nat:=match C0.P.underlying Th with|some (.map k _)=>k|_=>0
theorem NP[Z0]:C0.P.underlying Th=some (.map ktP 3):=by kernel_rfl
theorem S7[Z0](a:Int×Int):lQ (cL C0.P ktP) (pk a)=true:=by
 have e:cL C0.P ktP=.flat [.int .i64,.int .i64]:=by kernel_rfl
 rw[e];rfl
theorem bq8[Z0](d:Nat)(rd:Option Nat)(t:T)(g:G):(bP C0 (.makeMap Th none)).run (I C0) d rd t g=.upd (.hmap g.nx) (g.new (.map [])):=by kernel_rfl
theorem Is{kt et:Nat}{z:AV}(hu:C.P.underlying ty=some (.map kt et))(hz:wm C.P et=some z)(d:Nat)(rd:Option Nat)(t:T)(g:G):(bP C (.mapEntry ty (.tmp a) (.tmp b))).run (I C) d rd t g=dM (cL C.P kt) z (λt=>ZY t a) (λt=>ZY t b) t g:=by obtain⟨h,e1,e⟩:=aT (C:=C) (x:=.tmp a) (o:=.t a) rfl;obtain⟨k,c,f⟩:=aT (C:=C) (x:=.tmp b) (o:=.t b) rfl;rw[cd (s:=⟨dM (cL C.P kt) z h.run k.run⟩) rfl (by simp only[cP,e1,c,hu,hz])];rw[show h.run=λt=>ZY t a from funext e,show k.run=λt=>ZY t b from funext f]
theorem bq7(d:Nat)(rd:Option Nat)(t:T)(g:G):(bP C (.entryStore ty (.tmp a) (.tmp b) (.tmp c))).run (I C) d rd t g=dI (λt=>ZY t a) (λt=>ZY t b) (λt=>ZY t c) t g:=by obtain⟨h,e1,j⟩:=aT (C:=C) (x:=.tmp a) (o:=.t a) rfl;obtain⟨k,f,l⟩:=aT (C:=C) (x:=.tmp b) (o:=.t b) rfl;obtain⟨e,i,m⟩:=aT (C:=C) (x:=.tmp c) (o:=.t c) rfl;rw[cd (s:=⟨dI h.run k.run e.run⟩) rfl (by simp only[cP,e1,f,i])];rw[show h.run=λt=>ZY t a from funext j,show k.run=λt=>ZY t b from funext l,show e.run=λt=>ZY t c from funext m]
theorem K3(t:T)(g:G):SO.foot C t g (.raw (.mapEntry ty (.tmp a) (.tmp b)))=⟨an (ZY t a),[],(an (ZY t a)).map (·,ty),false⟩:=by
 obtain⟨k,e1,h⟩:=aT (C:=C) (x:=.tmp a) (o:=.t a) rfl;show (aL C _).run t g=_;simp only[aL,e1,h]
 rfl
theorem Id(t:T)(g:G):SO.foot C t g (.raw (.entryStore ty (.tmp a) (.tmp b) (.tmp c)))=am (an (ZY t a)):=by
 obtain⟨k,e1,h⟩:=aT (C:=C) (x:=.tmp a) (o:=.t a) rfl;show (aL C _).run t g=_;simp only[aL,e1,h]
 rfl
theorem OM[Z0]{id:Nat}{k:Int×Int}{L:List ((Int×Int)×Int)}(h1:ZY t a=.hmap id)(h2:ZY t b=pk k)(hg:g.h.get id=.map (MW pk L)):(bP C0 (.lookup Th (.tmp a) (.tmp b) false)).run (I C0) d rd t g=.val (Z_ (Qg L k)):=by have:=Gn (C:=C0) (a:=a) (b:=b) (ok:=false) NP UJ d rd t g;rw[show (SO.raw (.lookup Th (.tmp a) (.tmp b) false)).run C0 d rd t g=(bP C0 (.lookup Th (.tmp a) (.tmp b) false)).run (I C0) d rd t g from rfl]at this;rw[this];exact bq_ TD h1 h2 (S7 k) hg
theorem bq6[Z0]{id:Nat}{k:Int×Int}(L:List ((Int×Int)×Int)) :
  (∀(t:T) (g:G),ZY t a=.hmap id->ZY t b=pk k->g.h.get id=.map (MW pk L)->(bP C0 (.mapEntry Th (.tmp a) (.tmp b))).run (I C0) d rd t g=.val (.Zz [Z_ (Qg L k),Z_ (Tb k L:Int)]))/\DS k L=L \/
  (∀(t:T) (g:G),ZY t a=.hmap id->ZY t b=pk k->g.h.get id=.map (MW pk L)->(bP C0 (.mapEntry Th (.tmp a) (.tmp b))).run (I C0) d rd t g=.upd (.Zz [Z_ 0,Z_ (Tb k L:Int)]) (g.put id (.map (MW pk (DS k L))))):=by
 cases h:L.any (λp=>decide (k=p.1)) with
 | true =>refine .inl ⟨λt g h1 h2 hg=>?_,OS k L h⟩;rw[Is NP UJ];unfold dM;simp only[h1,h2,S7,G.get_eq,hg,Fz TD,h];simp
 | false =>obtain⟨e1,c⟩:=Lo k L h;refine .inr λt g h1 h2 hg=>?_;rw[Is NP UJ,e1,c];unfold dM;simp only[h1,h2,S7,G.get_eq,hg,Fz TD,h];simp[MW,ap,ax]
theorem bq5[Z0]{id:Nat}{k:Int×Int}{y:Int}{L:List ((Int×Int)×Int)}(h1:ZY t a=.hmap id)(h2:ZY t b=Z_ (i:Int))(h3:ZY t c=Z_ x)(hg:g.h.get id=.map (MW pk L))(hi:L[i]?=some (k,y)):(bP C0 (.entryStore Th (.tmp a) (.tmp b) (.tmp c))).run (I C0) d rd t g=.upd .undef (g.put id (.map (MW pk (L.set i (k,x))))):=by rw[bq7];exact bq9 (kf:=pk) h1 h2 h3 hg hi
def B8(n:Zv)(e:List Int)(v:Nat)(x:Int)(w:Nat):Bool:=Dk n e w&&decide ((EU (IO n) (w:Int))[v]?=some x)
def Dd(n:Zv)(e:List Int)(v:Nat):List QI:=(List.range ((IO n)[v]?.getD 0).toNat).map λx:Nat=>Cb (GW n (B8 n e v (x:Int)) (Dj n)).toNat (Dl n e).toNat
def AR(n:Zv)(w:Nat):Int:=AS n (EU (IO n) (w:Int))
theorem xR{pm:List Nat}{fs:List ZC}(ws:List Bool)(L:List (Nat×Nat))(hw:ZL (λ(f:ZC) (w:Bool)=>w=false->f.wr=[]) fs ws)(hs:ic pm 0 fs=true)(hd:JM pm ws L=true)
  (hL:∀p∈L,∀x y,fs[p.1]?=some x->fs[p.2]?=some y->bz x y=true):lp pm fs=true:=by
 unfold lp;rw[aa,ZN]
 ·exact hs
 ·refine qJ λa b x y hab ha hb=>?_;simp only[Ku];obtain⟨wa,d,ka⟩:=hw.get ha;obtain⟨wb,k,kb⟩:=hw.get hb;have c:=(tI.1 k).1;have:=Xw.1 (Xw.1 hd b (Q9.2 c)) a (Q9.2 hab);simp only[JL,T6]at this;rcases this with (h|h)|h
  ·rw[h,U4]
  ·simp only[acG,d,k,Ns,Zk,Qw]at h;have ex:=ka h.1;have ey:=kb h.2;simp only[bz,fA,dL,ex,ey,XE,ae0]
  ·rw[hL (a,b) (adt.1 h) x y ha hb,ae0]
structure PoM (n:Zv) (e Z2:List Int) (j k m:Nat) (h:H):Prop where
 hm:∃L:List ((Int×Int)×Int),h.get m=.map (MW pk L)/\∀(v:Nat) (x:Int),Qg L ((v:Int),x)=GW n (B8 n e v x) j+if v<k/\Z2[v]?=some x then AR n j else 0
structure PoK (g0:G) (m:Nat) (g:G):Prop where
 nx:g0.nx<=g.nx
 fr:∀i,i≠m->i<g0.nx->g.h.get i=g0.h.get i
theorem bq4[Z0]{pw j:Nat}(hr:NR n)(hpe:Dk n e j=true)(hvals:Z2=EU (IO n) (j:Int))(hj:j<1024)
  (hu:ZT (λi=>lo<=i/\i<g0.nx) 0 g0.h Z2 u) (hlo:m<lo) (hp:pm≠m/\pm<g0.nx) (hw:pw≠m/\pw<g0.nx)
  (k6:g0.h.get pm=Z4 1 [[.hmap m]]) (k8:g0.h.get pw=Z4 3 [[Z_ (j:Int),Z_ (AR n j),u]])
  (h0:PoM n e Z2 j 0 m g0.h) (h6:ZY t 6=ZZ pm) (h8:ZY t 8=ZZ pw) (h21:ZY t 21=u) (h22:ZY t 22=Z_ (Z2.length:Int)) (h23:ZY t 23=Z_ 0)
  (fin:∀t g,PoK g0 m g->PoM n e Z2 j Z2.length m g.h->Q (.exit 2) t [] g):Uk (wp C0 d rd cR) Q t [] g0:=by
 have O:Z2.length<=8:=by rw[hvals,vg,aX];exact hr.l2
 have z:∀g,PoK g0 m g->ak g.h 1 u=some (Z2.map ci):=λg hk=>(hu.wd λi hi=>⟨hi,hk.fr i (by omega) hi.2⟩:ZT (λi=>lo<=i/\i<g0.nx) 0 g.h Z2 u).ints;simp only[cR];refine b_ (m:=Z2.length) (by omega) (λk t df g=>df=[]/\St t [(6,ZZ pm),(8,ZZ pw),(21,u)]/\PoK g0 m g/\PoM n e Z2 j k m g.h) ⟨rfl,⟨h6,h8,h21,trivial⟩,⟨ZV _,λ_ _ _=>rfl⟩,h0⟩ h23 h22 (by decide)
  (by rintro k t df g v s (rfl|rfl|rfl) ⟨a1,⟨b1,b2,F,-⟩,E⟩<;>exact⟨a1,by simp[St,sx,b1,b2,F],E⟩) ?_ ?_
 ·clear h6 h8 h21 h22 h23 h0;rintro k t df g hk ⟨rfl,⟨h6,h8,h21,-⟩,hK,L,l1,l2⟩ h23 h22;have ru:=z g hK;obtain⟨x,hx,-,-⟩:=ah hk;have D:k<(Z2.map ci).length:=by simpa using hk
  have R:(Z2.map ci)[k]?=some (ci x):=by rw[Zy,hx];rfl
  have N:nq u=true:=u7 ru D;refine eK (P:=λt' df g'=>df=[]/\g'=g/\St t' [(9,Z_ (k:Int)),(10,Z_ x),(6,ZZ pm),(8,ZZ pw),(21,u),(22,Z_ (Z2.length:Int)),(23,Z_ (k:Int))]) ?_ ?_
  ·simp only[sz,simprocAttr,h21,h23,ru,D,R,ci];simp[St,sx,h6,h8,h21,h22,h23]
  clear h6 h8 h21 h22 h23;rintro t df g' ⟨rfl,rfl,h9,l,h6,h8,h21,h22,h23,-⟩;obtain⟨K,f⟩:∃K:Int×Int,K=((k:Int),x):=⟨_,rfl⟩;have hb:=Er hr (p:=B8 n e k x) (j:=j+1) (by omega);have w:B8 n e k x j=true:=by rw[B8,hpe,<-hvals,hx];simp
  have r:Qg L K=GW n (B8 n e k x) j:=by rw[f,l2];simp
  have hs:GW n (B8 n e k x) (j+1)=Qg L K+AR n j:=by rw[GW,w,r];simp[AR]
  have w1:IntKind.wrap .i64 (Qg L K+AR n j)=Qg L K+AR n j:=by rw[<-hs,aq]
  have A:g'.h.get pm=Z4 1 [[.hmap m]]:=by rw[hK.fr pm hp.1 hp.2,k6]
  have B:g'.h.get pw=Z4 3 [[Z_ (j:Int),Z_ (AR n j),u]]:=by rw[hK.fr pw hw.1 hw.2,k8]
  have epk:AV.agg [Z_ (k:Int),Z_ x]=pk K:=by rw[f];rfl
  have o:∀a b:Int,BV [Z_ 0,Z_ 0] [(0,1),(1,1)] [Z_ a,Z_ b]=.val (.agg [Z_ a,Z_ b]):=λa b=>rfl;have lk:∀(t:T) (g:G),ZY t 28=.hmap m->ZY t 31=pk K->g.h.get m=.map (MW pk L)->(bP C0 (.lookup Th (.tmp 28) (.tmp 31) false)).run (I C0) d rd t g=.val (Z_ (Qg L K)):=λt g a b c=>OM a b c;have es:∀(t:T) (g:G),ZY t 28=.hmap m->ZY t 37=Z_ (Tb K L:Int)->ZY t 35=Z_ (Qg L K+AR n j)->g.h.get m=.map (MW pk (DS K L))->(bP C0 (.entryStore Th (.tmp 28) (.tmp 37) (.tmp 35))).run (I C0) d rd t g=.upd .undef (g.put m (.map (MW pk (Vn K (Qg L K+AR n j) L)))):=λt g a b c e=>by rw[bq5 a b c e (OQ K L),Lp]
  have res:∀(v:Nat) (y:Int),Qg (Vn K (Qg L K+AR n j) L) ((v:Int),y)=GW n (B8 n e v y) j+if v<k+1/\Z2[v]?=some y then AR n j else 0:=λv y=>by
   rw[OT]
   by_cases hvy:((v:Int),y)=K
   ·rw[ZN hvy];rw[f]at hvy;injection hvy with e1 H;have e1:v=k:=by omega
    subst e1 H;rw[r,ZN ⟨by omega,hx⟩]
   ·rw[ZF hvy,l2];congr 1;have:(v<k+1/\Z2[v]?=some y)↔(v<k/\Z2[v]?=some y):=by
     constructor
     ·rintro⟨h1,h2⟩;refine⟨?_,h2⟩
      by_cases hvk:v=k
      ·subst hvk;rw[hx]at h2;injection h2 with h2;exact absurd (by rw[f,h2]) hvy
      ·omega
     ·rintro⟨h1,h2⟩;exact⟨by omega,h2⟩
    simp only[this]
  have M:=hK.nx;rcases bq6 (d:=d) (rd:=rd) (a:=28) (b:=31) (id:=m) (k:=K) L with⟨en,em⟩|en
  ·rw[em]at es;simp only[sz,simprocAttr,sf,h6,h8,h9,l,A,B,o,epk,lk,l1,w1,en,es,yB,K3,Id];refine⟨?_,⟨by simp[St,sx,h6,h8,h21],⟨by simp;omega,λi h1 h2=>by simp[Za,h1];exact hK.fr i h1 h2⟩,_,by simp[Za],res⟩,h23,h22⟩;simp only[I9,Nq,DI,ML];exact br0 [(false,false),(false,false),(false,false),(false,false),(false,true),(false,false),(false,false),(false,false),(false,false),(false,false),(true,false)] [] (by simp[ZL,am,aA]) (by decide) (by decide) (by simp)
  ·simp only[sz,simprocAttr,sf,h6,h8,h9,l,A,B,o,epk,lk,l1,w1,en,es,yB,K3,Id];refine⟨?_,⟨by simp[St,sx,h6,h8,h21],⟨by simp;omega,λi h1 h2=>by simp[Za,h1];exact hK.fr i h1 h2⟩,_,by simp[Za],res⟩,h23,h22⟩;simp only[I9,Nq,DI,ML];refine xR (Zb (true::(false::(true::[])))) [(4,8),(7,8)] (by simp[ZL,am,aA]) ?_ (by decide) ?_
   ·simp[ic,cJ,meets,FG,am,aA,an,ap]
    rfl
   ·rintro q hq x y hx C;simp only[Y0,QA,TP]at hq;rcases hq with rfl|rfl<;>(simp at hx C;subst hx;subst C;simp[bz,fA,dL,meets,FG,Gg,an,ap,aA,am])
 ·rintro t df g ⟨rfl,-,hK,J⟩;exact fin t g hK J
structure PoH (n:Zv) (e:List Int) (cs:List AV) (p pm pq m lo:Nat) (g:G):Prop where
 kp:g.h.get p=Z4 4 [cs]
 km:g.h.get pm=Z4 1 [[.hmap m]]
 kq:g.h.get pq=Z4 1 [[Z_ (Dl n e)]]
 hm:∃L:List ((Int×Int)×Int),g.h.get m=.map (MW pk L)/\∀(v:Nat) (x:Int),Qg L ((v:Int),x)=GW n (B8 n e v x) (Dj n)
 lo:lo<=p/\lo<=pm/\lo<=pq/\lo<=m
 hi:p<g.nx/\pm<g.nx/\pq<g.nx/\m<g.nx
theorem PoH.step{cs:List AV}{pq:Nat}{g':G}(h:PoH n e cs p pm pq m lo g)(f:Fr g g'):PoH n e cs p pm pq m lo g':=by obtain⟨a1,a2,k,⟨L,a4,a⟩,b,b1,b2,c,d⟩:=h;have:=f.1;exact⟨by rw[f.2 _ b1,a1],by rw[f.2 _ b2,a2],by rw[f.2 _ c,k],⟨L,by rw[f.2 _ d,a4],a⟩,b,by omega,by omega,by omega,by omega⟩
structure PoJ (g1:G) (n:Zv) (e:List Int) (m pq j:Nat) (h:H):Prop where
 fr:∀i,i<g1.nx->i≠m->i≠pq->h.get i=g1.h.get i
 kq:h.get pq=Z4 1 [[Z_ (GW n (Dk n e) j)]]
 hm:PoM n e [] j 0 m h
theorem bq3[Z0]{b:AV}{y:Qi}{ke:Nat}(hd:0<d)(hr:NR n)(hc:Rp.rp ZX 0 .nil y [Z_ n.Z8,b,fl,S_])(hq:SE n y)(he:ZT ZX ke .nil e w)(hke:ke<d)(hev:EQ n e=true)
  (k0:Dl n e=0->∀g',Fr g g'->K (.Zz [.Mq,Z_ 7]) g')
  (k1:Dl n e≠0->∀g' p pm pq m,Fr g g'->PoH n e [Z_ n.Z8,b,fl,S_] p pm pq m g.nx g'->K (.Zz [.ZH 135 [] [ZZ p,ZZ pm,ZZ pq],Z_ 0]) g') :
  (ae C0 d 107 [.agg [Z_ n.Z8,b,fl,S_],w] g).sat K g D:=by
 obtain⟨el,ege⟩:=KS hev;obtain⟨W1,W2,W3⟩:=hr.wl;rw[lX];refine j9 nI (by simp[dD]) ?_;have r:∀(g:G) (i m:Nat),fC (Z4 1 [[.Xu]]) g i 0 0 1 0 (.hmap m)=.upd .undef (g.put i (Z4 1 [[.hmap m]])):=λg i m=>rfl;have w0:∀(d:Nat) (rd:Option Nat) (t:T) (g:G),(bP C0 (.makeMap Th none)).run (I C0) d rd t g=.upd (.hmap g.nx) (g.new (.map [])):=bq8;simp only[sz,simprocAttr,dD];unfold fJ;refine eK (P:=λt' df g'=>df=[]/\g'.nx=g.nx+4/\(∀i,i<g.nx->g'.h.get i=g.h.get i)/\g'.h.get g.nx=Z4 4 [[Z_ n.Z8,b,fl,S_]]/\g'.h.get (g.nx+1)=.map []/\g'.h.get (g.nx+2)=Z4 1 [[.hmap (g.nx+1)]]/\g'.h.get (g.nx+3)=Z4 1 [[Z_ 0]]/\St t' [(1,w),(2,ZZ g.nx),(6,ZZ (g.nx+2)),(7,ZZ (g.nx+3))]) ?_ ?_
 ·simp only[sz,simprocAttr,w0,r,show ¬g.nx=g.nx+1 by omega,show ¬g.nx+1=g.nx by omega];refine⟨λi hi=>?_,?_⟩
  ·rw[bJ,bJ,bJ,bJ,bJ,bJ]
  ·simp[St,sx,show ¬g.nx=g.nx+2 by omega,show ¬g.nx=g.nx+1+1+1 by omega]
 rintro t df g1 ⟨rfl,n1,f1,kp,km,k2,N,h1,h2,o,h7,-⟩;obtain⟨cs,z,t1,t2,ez,c,hz⟩:=CY (d:=d) (g:=g1) (y:=y) (e:=e) (v:=.agg [Z_ n.Z8,b,fl,S_]) (w:=w) hd ⟨_,rfl,Rp.tree hc (ZV _)⟩ (he.tree (ZV _));rw[eO];simp only[sz,simprocAttr,h1,h2,kp,ez];refine Iu (t1:=t1) (t2:=t2) (n:=n) (y:=y) (e:=e) (cs:=cs) (w:=z) hd hr hq c hz (by omega) (by simp[sx]) (by decide)
  (λj h=>PoJ g1 n e (g.nx+1) (g.nx+3) j h) (λ_=>False) (λj h h' hh hg=>⟨λi h1 h2 h3=>by rw[hh i h1,hg.fr i h1 h2 h3],by rw[hh _ (by omega),hg.kq],by obtain⟨L,l1,l2⟩:=hg.hm;exact⟨L,by rw[hh _ (by omega),l1],l2⟩⟩) (λ_ _ _ h=>h) ⟨λ_ _ _ _=>rfl,N,[],km,λv x=>by simp[Qg,GW]⟩ ?_ ?_ ?_ (λ_ h=>h.elim)
 ·intro j h F a hg;have hp:Dk n e j=false:=by rw[Dk,<-OA ege];exact a
  obtain⟨L,l1,l2⟩:=hg.hm;refine⟨hg.fr,by rw[hg.kq,GW,hp];simp,L,l1,λv x=>?_⟩;rw[l2,GW,B8,hp];simp
 ·intro j u g2 F a hg H hu;have hp:Dk n e j=true:=by rw[Dk,<-OA ege];exact a
  have hb:=Er hr (p:=Dk n e) (j:=j+1) (by omega);have hs:GW n (Dk n e) (j+1)=GW n (Dk n e) j+AR n j:=by rw[GW,hp];simp[AR]
  have w1:IntKind.wrap .i64 (GW n (Dk n e) j+AR n j)=GW n (Dk n e) (j+1):=by rw[<-hs,aq]
  obtain⟨Z2,k⟩:∃Z2,Z2=EU (IO n) (j:Int):=⟨_,rfl⟩;rw[<-k]at hu;simp only[sz,simprocAttr,eZ];refine⟨WO _ _ _,?_⟩;intro g3 n3 q;have A:g3.h.get g2.nx=Z4 3 [[Z_ (j:Int),Z_ (AR n j),u]]:=by rw[q _ (by omega),ZN rfl];rfl
  have jo:∀i,i<g1.nx->g3.h.get i=g2.h.get i:=λi hi=>by rw[q i (by omega),bJ,bJ]
  have M:g3.h.get (g.nx+3)=Z4 1 [[Z_ (GW n (Dk n e) j)]]:=by rw[jo _ (by omega),hg.kq]
  have J:g3.h.get (g.nx+2)=Z4 1 [[.hmap (g.nx+1)]]:=by rw[jo _ (by omega),hg.fr _ (by omega) (by omega) (by omega),k2]
  have s:ZT (λi=>g1.nx+2<=i/\i<g3.nx) 0 g3.h Z2 u:=hu.wd λi hi=>⟨⟨hi.1,by rw[n3];omega⟩,by rw[q i (by omega),bJ,bJ]⟩;simp only[e_];rw[GP];refine eK (P:=λt' df g'=>df=[]/\g'=g3.put (g.nx+3) (Z4 1 [[Z_ (GW n (Dk n e) (j+1))]])/\St t' [(6,ZZ (g.nx+2)),(8,ZZ g2.nx)]) ?_ ?_
  ·simp only[sz,simprocAttr,h7,A,M,w1];simp[St,sx,o]
  rintro t df O ⟨rfl,rfl,o,h8,-⟩;have C:(g3.put (g.nx+3) (Z4 1 [[Z_ (GW n (Dk n e) (j+1))]])).h.get g2.nx=Z4 3 [[Z_ (j:Int),Z_ (AR n j),u]]:=by simp[Za,show ¬g2.nx=g.nx+3 by omega];exact A
  have l:ZT (λi=>g1.nx+2<=i/\i<g3.nx) 0 (g3.put (g.nx+3) (Z4 1 [[Z_ (GW n (Dk n e) (j+1))]])).h Z2 u:=s.wd λi hi=>⟨hi,by simp[Za,show ¬i=g.nx+3 by omega]⟩;have lu:=l.len;simp only[sz,simprocAttr,h8,C,lu,show ¬g2.nx=g.nx+3 by omega,A];refine bq4 (lo:=g1.nx+2) (pm:=g.nx+2) (pw:=g2.nx) (m:=g.nx+1) (j:=j) (n:=n) (e:=e) (Z2:=Z2) (u:=u) hr hp k (by omega) (l.wd λi hi=>⟨⟨hi.1,by simpa using hi.2⟩,rfl⟩) (by omega) ⟨by omega,by simp;omega⟩ ⟨by omega,by rw[G.put_nx,n3];simp⟩ (by simp[Za,J]) C ?_ (by simp[sx,o]) (by simp[sx,h8]) (by simp[sx]) (by simp[sx]) (by simp[sx]) ?_
  ·obtain⟨L,l1,l2⟩:=hg.hm;refine⟨L,by simp[Za];rw[jo _ (by omega),l1],λv x=>?_⟩;rw[l2];simp
  ·rintro t E hK ⟨L,l1,l2⟩;simp only[mN,if_true];have B:g3.nx<=E.nx:=by simpa using hK.nx
   refine⟨rfl,by omega,λi h1 h2=>?_,.inl ⟨rfl,λi h1 h2 h3=>?_,?_,L,l1,λv x=>?_⟩⟩
   ·rw[hK.fr i (by omega) (by simpa using h2)];simp[Za,show ¬i=g.nx+3 by omega]
   ·rw[hK.fr i h2 (by simp;omega)];simp[Za,h3];rw[jo i h1,hg.fr i h1 h2 h3]
   ·rw[hK.fr _ (by omega) (by simp;omega)];simp[Za]
   ·rw[l2,GW,B8,hp,<-k];simp only[U2,RY,ae9,false_and,if_false,aeA];congr 1
    by_cases hx:Z2[v]?=some x
    ·have hl:=(tI.1 hx).1;rw[ZN ⟨hl,hx⟩,ZN hx,k];rfl
    ·rw[ZF λh=>hx h.2,ZF hx]
 ·intro g' hg H f;have f':Fr g (g'.put g1.nx (.ZP false)):=⟨by simp;omega,λi hi=>by simp[Za,show ¬i=g1.nx by omega];rw[hg.fr i (by omega) (by omega) (by omega),f1 i hi]⟩
  by_cases hz0:Dl n e=0
  ·have kq:=hg.kq;rw[<-t_,hz0]at kq;simp only[sz,simprocAttr,cS,h7,kq];refine jE f ?_;simp only[sx,↓reduceIte];exact k0 hz0 _ f'
  ·have kq:=hg.kq;rw[<-t_]at kq;simp only[sz,simprocAttr,cS,h7,kq,hz0,h2,o];refine jE f ?_;simp only[sx,↓reduceIte];obtain⟨L,l1,l2⟩:=hg.hm;refine k1 hz0 _ g.nx (g.nx+2) (g.nx+3) (g.nx+1) f' ⟨?_,?_,?_,⟨L,?_,λv x=>by rw[l2];simp⟩,⟨by omega,by omega,by omega,by omega⟩,by simp;omega⟩
   ·simp[Za,show ¬g.nx=g1.nx by omega];rw[hg.fr _ (by omega) (by omega) (by omega),kp]
   ·simp[Za,show ¬g.nx+2=g1.nx by omega];rw[hg.fr _ (by omega) (by omega) (by omega),k2]
   ·simp[Za,show ¬g.nx+3=g1.nx by omega];exact kq
   ·simp[Za,show ¬g.nx+1=g1.nx by omega];exact l1
def cq(q:QI):List AV:=[Z_ q.1,Z_ q.2]
theorem bq2[Z0](d:Nat)(a b c v:AV)(g:G):dQ C0 (I C0) d (.ZH 135 [] [a,b,c]) [v] g=XV ((I C0).call d 135 [v,a,b,c] g):=by kernel_rfl
theorem Cy(n:Zv)(e:List Int)(v:Nat):(Dd n e v).length=((IO n)[v]?.getD 0).toNat:=by simp[Dd]
theorem FX{v:Nat}(h:k<((IO n)[v]?.getD 0).toNat):(Dd n e v)[k]?=some (Cb (GW n (B8 n e v (k:Int)) (Dj n)).toNat (Dl n e).toNat):=by simp[Dd,h]
theorem bq1[Z0]{v pq:Nat}{b:AV}(hd:0<d)(hr:NR n)(hN:ZT ZX 0 .nil n.Z7 b)(hP:PoH n e [Z_ n.Z8,b,fl,S_] p pm pq m lo g)(hv:v<n.Z7.length)(hz0:Dl n e≠0)
  (kk:∀U g',Own g' g.nx U 2 ((Dd n e v).map cq)->Fr g g'->K (.Zz [U,Z_ 0]) g') :
  (dQ C0 (I C0) d (.ZH 135 [] [ZZ p,ZZ pm,ZZ pq]) [Z_ (v:Int)] g).sat K g D:=by
 obtain⟨rows,Z,r2,r3,r4⟩:=hN.all;have Z:∀h',ak h' 3 b=some rows:=Z;obtain⟨W1,W2,W3⟩:=hr.wl;obtain⟨x,hx,-,F⟩:=ah hv;obtain⟨row,q1,q2⟩:=r3 v x hx;obtain⟨fa,fb,rfl,-⟩:=cM.1 q2;have hlt:v<rows.length:=by omega
 have J:=r4 (by omega);have W:=hr.Z5 x F;obtain⟨c,hc⟩:∃c:Nat,x.Z5=(c:Int):=Wu (by omega);have X:((IO n)[v]?.getD 0).toNat=c:=by simp[IO,hx,hc]
 have R:=rg hr e;have h1:(Dd n e v).length=c:=by rw[Cy,X]
 rw[bq2];refine j9 l5 (by simp[cZ]) ?_;have kp:=hP.kp;rw[hc]at q1;simp only[sz,simprocAttr,cZ,kp,Z,hlt,q1,J];refine rf (b:=g.nx) (n:=c) (by unfold aQ;omega) (by unfold aQ;omega) (ZV _) λU g1 hU n1 f1 vU=>?_;have lU:=dq hU.rows;rw[aef]at lU;simp only[sz,simprocAttr,lU,eC];refine b_ (m:=c) (by omega) (λk t df g'=>df=[]/\St t [(0,Z_ (v:Int)),(2,ZZ pm),(3,ZZ pq),(7,U)]/\Fr g g'/\Own g' g.nx U 2 (((Dd n e v).take k).map cq++List.replicate (c - k) [Z_ 0,Z_ 0])) ⟨rfl,by simp[St,sx],⟨by omega,λi hi=>f1 i hi⟩,by simpa using hU⟩ (by simp[sx]) (by simp[sx]) (by decide)
  (by rintro k t df g v s (rfl|rfl|rfl) ⟨a1,⟨b1,b2,b3,b4,-⟩,a3⟩<;>exact⟨a1,by simp[St,sx,b1,b2,b3,b4],a3⟩) ?_ ?_
 ·rintro k t df g2 hk ⟨rfl,⟨h0,h2,o,h7,-⟩,hf,E⟩ f j;obtain⟨-,km,kq,⟨L,l1,l2⟩,-,-,bm,bq,bL⟩:=hP.step hf;obtain⟨A,hA⟩:=Wu (jz hr (B8 n e v (k:Int)) (Dj n)).1;have h4:=(jz hr (B8 n e v (k:Int)) (Dj n)).2;obtain⟨M,hM⟩:=Wu R.1;have l:=FX (n:=n) (e:=e) (v:=v) (k:=k) (by omega);obtain⟨q,hq⟩:∃q,q=Cb A M:=⟨_,rfl⟩;rw[hA,hM]at l;have l:(Dd n e v)[k]?=some q:=by rw[l,hq];rfl
  refine eK (P:=λt' df g'=>df=[]/\g'=g2/\St t' [(8,Z_ (k:Int)),(0,Z_ (v:Int)),(2,ZZ pm),(3,ZZ pq),(7,U),(20,Z_ (c:Int)),(21,Z_ (k:Int))]) ?_ ?_
  ·simp only[sz,simprocAttr,f];simp[St,sx,h0,h2,o,h7,j,f]
  clear h0 h2 o h7 j f;rintro t df g3 ⟨rfl,rfl,h8,h0,h2,o,h7,j,f,-⟩;obtain⟨KK,C⟩:∃K:Int×Int,K=((v:Int),(k:Int)):=⟨_,rfl⟩;have Y:Qg L KK=(A:Int):=by rw[C,l2,hA]
  have epk:AV.agg [Z_ (v:Int),Z_ (k:Int)]=pk KK:=by rw[C];rfl
  have V:∀a b:Int,BV [Z_ 0,Z_ 0] [(0,1),(1,1)] [Z_ a,Z_ b]=.val (.agg [Z_ a,Z_ b]):=λa b=>rfl;have lk:∀(t:T) (g:G),ZY t 25=.hmap m->ZY t 28=pk KK->g.h.get m=.map (MW pk L)->(bP C0 (.lookup Th (.tmp 25) (.tmp 28) false)).run (I C0) d none t g=.val (Z_ (A:Int)):=λt g a b c=>by rw[<-Y];exact OM a b c
  have kM:∀g,ae C0 d 65 [Z_ (A:Int),Z_ (M:Int)] g=.val (.Zz [.agg [Z_ q.1,Z_ q.2],Z_ 0]):=λg=>by rw[hq];exact br2 hd (by omega) (by omega) (by omega)
  rw[hM]at kq;obtain⟨r,H⟩:∃r,r=g3.nx+10:=⟨_,rfl⟩;have nm:¬g3.nx+1+1+1+1+1+1+1+1+1+1=m/\¬g3.nx+1+1+1+1+1+1+1+1+1+1=pm/\¬g3.nx+1+1+1+1+1+1+1+1+1+1=pq:=by omega
  have si:∀h (z:Int),aB h aw (Z_ z)=[]:=λ_ _=>rfl;refine gv (P:=λt' df g'=>df=[]/\Fr g3 g'/\r<g'.nx/\g'.h.get r=Z4 2 [[Z_ q.1,Z_ q.2]]/\St t' [(9,ZZ r),(10,Z_ 0),(8,Z_ (k:Int)),(0,Z_ (v:Int)),(2,ZZ pm),(3,ZZ pq),(7,U),(20,Z_ (c:Int)),(21,Z_ (k:Int))]) ?_ ?_
  ·simp only[sz,simprocAttr,sf,h0,h2,o,h8,km,kq,V,epk,lk,l1,kM,yB,FB];refine⟨?_,⟨by simp;omega,λi hi=>?_⟩,?_,?_,?_⟩
   ·simp only[I9,Nq,DI,ML];refine xR (Vk (Zb (true::(true::(false::[]))))) [(0,10),(1,10),(2,10),(3,10),(4,10),(5,10),(6,10),(7,10),(8,10),(9,10),(9,11)] (by simp[ZL,am,aA]) ?_ (by decide) ?_
    ·simp[ic,cJ,meets,FG,am,aA,an,ap,nm]
     rfl
    rintro q hq x y hx B;simp only[Y0,QA,TP]at hq;rcases hq with rfl|rfl|rfl|rfl|rfl|rfl|rfl|rfl|rfl|rfl|rfl<;>(simp at hx B;subst hx;subst B;simp[bz,fA,dL,meets,FG,aA,am,an,si,eH,nm])
   ·simp[Za,show ¬i=g3.nx+1+1+1+1+1+1+1+1+1+1 by omega]
   ·omega
   ·simp[Za,H]
   ·simp[St,sx,h0,h2,o,h7,h8,j,f,H]
  clear h0 h2 o h7 h8 j f;rintro t df g4 ⟨rfl,O,h6,kr,h9,Q,h8,h0,h2,o,h7,j,f,-⟩;have u:=E.step O;have w:(((Dd n e v).take k).map cq).length=k:=by rw[Ju,Rk];omega
  have h5:(((Dd n e v).take k).map cq++List.replicate (c - k) [Z_ 0,Z_ 0]).length=c:=by rw[J6,w,aef];omega
  obtain⟨y,B⟩:∃y,(((Dd n e v).take k).map cq++List.replicate (c - k) [Z_ 0,Z_ 0])[k]?=some y/\y=[Z_ 0,Z_ 0]:=⟨_,by rw[Sl (by omega),w,adH,i6],rfl⟩;obtain⟨B,rfl⟩:=B;have u1:k<(((Dd n e v).take k).map cq++List.replicate (c - k) [Z_ 0,Z_ 0]).length:=by omega
  have N:(((Dd n e v).take k).map cq++List.replicate (c - k) [Z_ 0,Z_ 0]).set k (cq q)=((Dd n e v).take (k+1)).map cq++List.replicate (c - (k+1)) [Z_ 0,Z_ 0]:=by
   rw[X0 _ _ (by omega),w,Yp];have e2:List.replicate (c - k) [Z_ 0,Z_ 0]=[Z_ 0,Z_ 0]::List.replicate (c - (k+1)) [Z_ 0,Z_ 0]:=by rw[<-VZ];congr 1;omega
   rw[e2,Va,NA,l];simp
  have ha:nq U=true:=u7 u.rows u1;have ru:=u.rows;simp only[sz,simprocAttr,Q,h9,h7,h8,kr,ru,u1,B];refine bZ (v:=U) (sz:=2) (n:=2) (i:=k) (off:=0) (x:=.agg [Z_ q.1,Z_ q.2]) (row':=cq q) u B rfl rfl rfl λg5 hO5 n5 f5=>?_;rw[N]at hO5;simp only[sz,simprocAttr];refine⟨⟨by simp[St,sx,h0,h2,o,h7],⟨by have:=hf.1;have:=O.1;omega,λi hi=>?_⟩,hO5⟩,f,j⟩;rw[f5 i λe=>by have:=(E.lt e).1;omega,O.2 i (Vd hi hf.1),hf.2 i hi]
 ·rintro t df g' ⟨rfl,⟨-,-,-,h7,-⟩,hf,E⟩;rw[U8 (by omega),Yp,adY,VM]at E;simp only[mN,if_true,sz,simprocAttr,eD,h7];exact kk U g' E hf
def wL(n:Zv)(e:List Int)(v:Int):Int:=if Di n e=0 then (if 0<=v/\v<n.Z7.length then (if Dl n e=0 then 7 else 0) else 2) else Di n e
def wn(n:Zv)(e:List Int)(v:Int):List QI:=if wL n e v=0 then Dd n e v.toNat else []
theorem bq0{P:Nat->Prop}(q:QI):Rp.rp P k h q (cq q):=u9.2 ⟨[Z_ q.1],[Z_ q.2],rfl,ay.2 rfl,ay.2 rfl⟩
theorem CW(hr:NR n)(v:Nat):(Dd n e v).length<=4:=by
 rw[Cy];cases h:(IO n)[v]? with
 |none=>simp
 |some c=>have:=hr.cs c (YH h);simp;omega
theorem Ty{U:AV}{v:Nat}{P:Nat->Prop}(hr:NR n)(h:Own g b U 2 ((Dd n e v).map cq))(hP:∀i,b<=i->i<g.nx->P i):ZT P 0 g.h (Dd n e v) U:=by have:=CW (e:=e) hr v;exact Own.sl (α:=QI) h (by omega) (Y7 (λq=>bq0 q) _) λi hi=>hP i (h.lt hi).1 (h.lt hi).2
theorem bp_[Z0]{z:Int}{P:Nat->Prop}(hd:0<d)(hm:Zl n ZX 0 g.h v)(he:ZT P k g.h e w)(hk:k<=d) :
  ∃r,ae C0 d 69 [v,w,Z_ z] g=.val r/\mQ (One (wn n e z)) (One (wL n e z)) ZX 0 .nil r:=by
 obtain⟨b,rows,rfl,e1,q,hN,B,C,D,E⟩:=bT d hm;obtain⟨w',ew,hw⟩:=aZ he d;rw[adW hk]at hw;have hw:=hw .nil;rw[Zn];refine aI zU (xs:=[.agg [Z_ n.Z8,b],w',Z_ z]) (by simp only[aD,e1,ew,aU]) (by simp[ku]) (bM (m:=2) (aE _) (aE _) (by decide) (by decide)) (by decide) hd ?_;simp only[sz,simprocAttr,ku];obtain⟨g0,hg0⟩:∃g0,g0=G.empty.new (Z4 2 [[Z_ n.Z8,b]]):=⟨_,rfl⟩;rw[<-hg0];have f0:g0.h.get 0=Z4 2 [[Z_ n.Z8,b]]:=by rw[hg0];simp[sx,Za]
 have l:g0.nx=1:=by rw[hg0];simp[sx]
 clear hg0;unfold oh;simp only[sz,simprocAttr,f0,hw.cell.1,hw.cell.2];refine aM (Rv (n:=n) (ls:=[e]) (abc d) (q _) (Yz hw (by simp[Za]))) λv hv=>?_;obtain⟨y,cs,rfl,s,hc,a1,a2,x,a4,rfl⟩:=EC hv;rw[C3]at s ⊢
 by_cases h0:Di n e=0
 ·have j:=s h0;obtain⟨h1,h2⟩:=np.1 h0;have hr:=bU.1 h1;obtain⟨b',b2,A,ecs,i,t,u⟩:=Bz.1 hc;injection ecs with ec1 ecs;injection ecs with ec2 ecs;rw[j.net]at ec1 i;subst ec1 ec2;have f:ZT ZX 0 .nil n.Z7 a2:=i.tree (ZV 0);have lb:∀g,gz .slice a2 g=.val (Z_ (n.Z7.length:Int)):=f.len
  by_cases hz:0<=z/\z<n.Z7.length
  ·obtain⟨vn,rfl⟩:=Wu hz.1;have c1:decide ((vn:Int)<0)=false:=by simp
   have o:decide ((n.Z7.length:Int)<=(vn:Int))=false:=by simp;omega
   simp only[sz,simprocAttr,l,h0,c1,lb,o];refine bq3 (n:=n) (y:=y) (e:=e) (abc d) hr hc j hw (Nat.lt_succ_self d) h2 (λhz0 g' hf=>?_) (λhz0 g' p pm pq m hf hP=>?_)
   ·have a:wL n e (vn:Int)=7:=by rw[wL,ZN h0,ZN hz,ZN hz0]
    have c:wn n e (vn:Int)=[]:=by rw[wn,a,ZF (by decide)]
    simp only[sz,simprocAttr];rw[a,c];exact⟨λ_=>True,_,_,rfl,dW.2 ⟨_,rfl,by show 0<2^63;decide,rfl⟩,ay.2 rfl⟩
   ·have a:wL n e (vn:Int)=0:=by rw[wL,ZN h0,ZN hz,ZF hz0]
    have c:wn n e (vn:Int)=Dd n e vn:=by rw[wn,a,ZN rfl];rfl
    simp only[sz,simprocAttr];refine bq1 (abc d) hr f hP (by omega) hz0 λU g2 hU hf2=>?_;simp only[sz,simprocAttr];rw[a,c];exact⟨λ_=>True,_,_,rfl,dW.2 ⟨_,rfl,Ty hr hU λ_ _ _=>trivial⟩,ay.2 rfl⟩
  ·have a:wL n e z=2:=by rw[wL,ZN h0,ZF hz]
   have c:wn n e z=[]:=by rw[wn,a,ZF (by decide)]
   rw[a,c]
   by_cases c1:z<0
   ·simp only[sz,simprocAttr,l,h0,c1];exact⟨λ_=>True,_,_,rfl,dW.2 ⟨_,rfl,by show 0<2^63;decide,rfl⟩,ay.2 rfl⟩
   ·have o:(n.Z7.length:Int)<=z:=by omega
    simp only[sz,simprocAttr,l,h0,c1,lb,o];exact⟨λ_=>True,_,_,rfl,dW.2 ⟨_,rfl,by show 0<2^63;decide,rfl⟩,ay.2 rfl⟩
 ·have a:wL n e z=Di n e:=by rw[wL,ZF h0]
  have c:wn n e z=[]:=by rw[wn,a,ZF h0]
  simp only[sz,simprocAttr,l,h0];rw[c,a];exact⟨λ_=>True,_,_,rfl,dW.2 ⟨_,rfl,by show 0<2^63;decide,rfl⟩,ay.2 rfl⟩
end
def Dc(x:Nat):Nat:=x % 18446744073709551616
def EV(x y:Nat):Nat×Nat :=
 let x0:=x % 4294967296
 let x1:=x / 4294967296
 let y0:=y % 4294967296
 let y1:=y / 4294967296
 let w0:=Dc (x0*y0)
 let t:=Dc (Dc (x1*y0)+w0 / 4294967296)
 let w1:=Dc (t % 4294967296+Dc (x0*y1))
 let w2:=t / 4294967296
 (Dc (Dc (Dc (x1*y1)+w2)+w1 / 4294967296),Dc (x*y))
theorem F5(x:Nat):Dc x<2^64:=US _ (by decide)
theorem EH(a b:Nat):bN .mul (ZW (a:Int)) (ZW (b:Int))=.val (ZW (Dc (a*b):Int)):=by rw[IY];congr 2
theorem IW(a b:Nat):bN .add (ZW (a:Int)) (ZW (b:Int))=.val (ZW (Dc (a+b):Int)):=by rw[AJ];congr 2
theorem EA(m:Nat)(h:m<2^64):bN .and (ZW (m:Int)) (ZW 4294967295)=.val (ZW ((m % 4294967296:Nat):Int)):=by have:=qK m 4294967295 h (by decide);have e:m &&& 4294967295=m % 4294967296:=Nat.and_two_pow_sub_one_eq_mod m 32;rw[e]at this;exact this
theorem GA(m:Nat)(h:m<2^64):bN .shr (ZW (m:Int)) (ZW 32)=.val (ZW ((m / 4294967296:Nat):Int)):=jX .u64 m 32 h
theorem bp9[Z0]{x:Nat}(hd:0<d)(hx:x<2^64)(hy:y<2^64) :
  ae C0 d 90 [ZW (x:Int),ZW (y:Int)] g=.val (.Zz [ZW ((EV x y).1:Int),ZW ((EV x y).2:Int)]):=by
 have key:∃r,ae C0 d 90 [ZW (x:Int),ZW (y:Int)] g=.val r/\mQ (One (EV x y).1) (One (EV x y).2) ZX 0 .nil r:=by rw[Zn];refine aI A3 (xs:=[ZW (x:Int),ZW (y:Int)]) rfl (by simp[l8]) (bM (m:=1) (aE _) (aE _) (by decide) (by decide)) (by decide) hd ?_;have nx:=EA x hx;have ny:=EA y hy;have sx':=GA x hx;have sy':=GA y hy;have i:=EH x y;unfold EV;simp only;generalize x % 4294967296=x0 at *;generalize x / 4294967296=x1 at *;generalize y % 4294967296=y0 at *;generalize y / 4294967296=y1 at *;have k:=EH x0 y0;have b:=EH x1 y0;have e:=EH x0 y1;have f:=EH x1 y1;have j:=GA (Dc (x0*y0)) (F5 _);have a1:=IW (Dc (x1*y0)) (Dc (x0*y0) / 4294967296);generalize Dc (x0*y0) / 4294967296=w0 at *;have ht:=F5 (Dc (x1*y0)+w0);generalize Dc (Dc (x1*y0)+w0)=tt at *;have n1:=EA tt ht;have l:=GA tt ht;have a2:=IW (tt % 4294967296) (Dc (x0*y1));have h:=IW (Dc (x1*y1)) (tt / 4294967296);have hw:=F5 (tt % 4294967296+Dc (x0*y1));generalize Dc (tt % 4294967296+Dc (x0*y1))=w1 at *;have n:=GA w1 hw;have a4:=IW (Dc (Dc (x1*y1)+tt / 4294967296)) (w1 / 4294967296);simp only[l8,sx,SO.run,↓reduceIte,Nat.reduceEqDiff,nx,ny,sx',sy',k,b,e,f,i,j,l,n,n1,a1,a2,h,a4,uW];exact⟨ZX,_,_,rfl,nX.2 ⟨rfl,F5 _⟩,nX.2 ⟨rfl,F5 _⟩⟩
 obtain⟨r,hr,a,c,rfl,ha,hc⟩:=key;have ha:=nX.1 ha;have hc:=nX.1 hc;rw[hr];rw[List.cons.inj ha.1 |>.1,List.cons.inj hc.1 |>.1]
section
variable {α:Type} [DecidableEq α]
abbrev QN:=Nat×Nat
theorem WE{x:QN}{P:Nat->Prop}(h1:x.1<2^64)(h2:x.2<2^64):Zl x P k h v↔v=.agg [ZW (x.1:Int),ZW (x.2:Int)]:=by
 constructor
 ·rintro⟨cs,rfl,hc⟩;obtain⟨a,b,rfl,q1,q2⟩:=u9.1 hc;rw[(nX.1 q1).1,(nX.1 q2).1];rfl
 ·rintro rfl;exact⟨_,rfl,u9.2 ⟨[ZW (x.1:Int)],[ZW (x.2:Int)],rfl,nX.2 ⟨rfl,h1⟩,nX.2 ⟨rfl,h2⟩⟩⟩
theorem Ib[Z0]{n:Nat}(hd:0<d)(hn:n<=4611686018427387903)(hm0:0<m)(hm:m<=4611686018427387903)(hg:Nat.gcd n m=1):ae C0 d 77 [.agg [Z_ (n:Int),Z_ (m:Int)]] g=.val (Z_ 0):=by
 rw[Zn];refine cz zh (xs:=[.agg [Z_ (n:Int),Z_ (m:Int)]]) rfl (by simp[cV]) hd ?_;have l1:decide ((m:Int)<1)=false:=by simp;omega
 have l2:decide ((4611686018427387903:Int)<(m:Int))=false:=by simp;omega
 have l3:decide ((n:Int) < -4611686018427387903)=false:=by rw[aeY];omega
 have k:decide ((4611686018427387903:Int)<(n:Int))=false:=by simp;omega
 have e1:∀g,ae C0 (d+1) 102 [Z_ (n:Int)] g=.val (ZW (n:Int)):=λg=>xS (abc d) ⟨by omega,by omega⟩;have h:∀g,ae C0 (d+1) 101 [ZW (n:Int),ZW (m:Int)] g=.val (ZW 1):=λg=>by rw[Ce (abc d) (by omega) (by omega),hg];rfl
 simp only[cV,cY,sx,sy,SO.run,↓reduceIte,Nat.reduceEqDiff,Nat.reduceAdd,l1,l2,l3,k,e1,h,du (show (0:Int)<=(m:Int) by omega) (show (m:Int)<2^64 by omega),decide_true,Q_]
theorem Pp{id:Nat}{a b:Int}(d k:Nat)(hg:h.get id=Z4 2 [[Z_ a,Z_ b]]):Hx.ZS h d (k+3) (ZZ id)=some (.ZR (Nat.max d 0) 2 [[Z_ a,Z_ b]] 0 0):=by
 simp only[Hx.ZS,hg,show Nat.beq 0 0=true from rfl,aD]
 rfl
theorem bp8{id f:Nat}(d k:Nat)(hg:h.get id=Z4 1 [[.ZH f [] []]]):Hx.ZS h d (k+3) (ZZ id)=some (.ZR (Nat.max d 0) 1 [[.ZH f [] []]] 0 0):=by
 simp only[Hx.ZS,hg,show Nat.beq 0 0=true from rfl,aD]
 rfl
theorem bp7{f:Nat}{a b c a' b' c':AV}(ha:Hx.ZS h d 23 a=some a')(hb:Hx.ZS h d 23 b=some b')(hc:Hx.ZS h d 23 c=some c'):Hx.ZS h d aw (.ZH f [] [a,b,c])=some (.ZH f [] [a',b',c']):=by show (match aD (Hx.ZS h d 23) [],aD (Hx.ZS h d 23) [a,b,c] with|some as',some cs=>some (AV.ZH f as' cs)|_,_=>none)=_;simp only[aD,ha,hb,hc]
theorem F8{x:Nat}(hx:x<2^64)(hy:y<2^64):(EV x y).1*18446744073709551616+(EV x y).2=x*y/\(EV x y).2<18446744073709551616/\(EV x y).1<2^64:=by
 have k:x / 4294967296<=4294967295:=by omega
 have f:y / 4294967296<=4294967295:=by omega
 have h:x % 4294967296<=4294967295:=by omega
 have d:y % 4294967296<=4294967295:=by omega
 have ex:x=x / 4294967296*4294967296+x % 4294967296:=by omega
 have ey:y=y / 4294967296*4294967296+y % 4294967296:=by omega
 unfold EV Dc;simp only;have key:x*y=(x / 4294967296*(y / 4294967296))*18446744073709551616+(x / 4294967296*(y % 4294967296)+x % 4294967296*(y / 4294967296))*4294967296+x % 4294967296*(y % 4294967296):=by
  generalize x / 4294967296=x1 at *;generalize x % 4294967296=x0 at *;generalize y / 4294967296=y1 at *;generalize y % 4294967296=y0 at *;subst ex ey;rw[UF,aff,aff];have h1:x1*4294967296*(y1*4294967296)=x1*y1*18446744073709551616:=by rw[Nat.mul_mul_mul_comm]
  have h2:x1*4294967296*y0=x1*y0*4294967296:=by rw[Nat.mul_right_comm]
  have i:x0*(y1*4294967296)=x0*y1*4294967296:=by rw[QQ]
  rw[h1,h2,i];omega
 have j:x % 4294967296*(y % 4294967296)<=18446744065119617025:=Wn h d;have b1:x / 4294967296*(y % 4294967296)<=18446744065119617025:=Wn k d;have b2:x % 4294967296*(y / 4294967296)<=18446744065119617025:=Wn h f;have l:x / 4294967296*(y / 4294967296)<=18446744065119617025:=Wn k f;generalize x % 4294967296*(y % 4294967296)=a at *;generalize x / 4294967296*(y % 4294967296)=b at *;generalize x % 4294967296*(y / 4294967296)=c at *;generalize x / 4294967296*(y / 4294967296)=e at *;rw[key];clear key ex ey;omega
theorem bp6{x x' y':Nat}(hx:x<2^64)(hy:y<2^64)(hx':x'<2^64)(hy':y'<2^64) :
  (((EV x y).1=(EV x' y').1/\(EV x y).2=(EV x' y').2)↔x*y=x'*y')/\(((EV x y).1<(EV x' y').1\/(EV x y).1=(EV x' y').1/\(EV x y).2<(EV x' y').2)↔x*y<x'*y'):=by
 obtain⟨a1,a2,h⟩:=F8 hx hy;obtain⟨b1,b2,k⟩:=F8 hx' hy';generalize EV x y=A at *;generalize EV x' y'=B at *;generalize x*y=p at *;generalize x'*y'=q at *;omega
def HD(x y:Nat):AV:=.agg [ZW ((EV x y).1:Int),ZW ((EV x y).2:Int)]
theorem IK[Z0]{x:Nat}(hd:0<d)(hx:x<2^64)(hy:y<2^64):ae C0 d 110 [ZW (x:Int),ZW (y:Int)] g=.val (HD x y):=by
 obtain⟨-,k,h⟩:=F8 hx hy;have key:∃r,ae C0 d 110 [ZW (x:Int),ZW (y:Int)] g=.val r/\Zl ((EV x y):QN) ZX 0 .nil r:=by rw[Zn];refine aI G_ (xs:=[ZW (x:Int),ZW (y:Int)]) rfl (by simp[uA]) (cH _) (by decide) hd ?_;have a:∀g,ae C0 (d+1) 90 [ZW (x:Int),ZW (y:Int)] g=.val (.Zz [ZW ((EV x y).1:Int),ZW ((EV x y).2:Int)]):=λg=>bp9 (abc d) hx hy;simp only[sz,simprocAttr,uA,w_,a];exact⟨ZX,(WE h k).2 rfl⟩
 obtain⟨r,h1,h2⟩:=key;rw[h1,(WE h k).1 h2];rfl
theorem bp5[Z0]{a' b':Nat}(hd:0<d):ae C0 d 111 [.agg [ZW (a:Int),ZW (b:Int)],.agg [ZW (a':Int),ZW (b':Int)]] g=.val (.bool (decide (a<a'\/a=a'/\b<b'))):=by
 rw[Zn];refine dA Jf (xs:=[.agg [ZW (a:Int),ZW (b:Int)],.agg [ZW (a':Int),ZW (b':Int)]]) rfl (by simp[mV]) hd ?_;have i0:∀id,FW 2 1 (ZZ id) (Z_ 0)=.val (ZZ id):=λ_=>rfl;have h:∀id,FW 2 1 (ZZ id) (Z_ 1)=.val (.ZD id 0 0 1):=λ_=>rfl
 by_cases c1:a<a'
 ·have d1:decide ((a:Int)<(a':Int))=true:=by simp;exact c1
  simp only[sz,simprocAttr,mV,mF,i0,h,d1];congr 1;simp[c1]
 ·have d1:decide ((a:Int)<(a':Int))=false:=by simp;omega
  by_cases c2:a=a'
  ·subst c2;have d2:decide ((b:Int)<(b':Int))=decide (b<b'):=by rw[Yj];simp
   simp only[sz,simprocAttr,mV,mF,i0,h,d1,d2];congr 1;simp
  ·have d2:decide ((a:Int)=(a':Int))=false:=by simp;omega
   simp only[sz,simprocAttr,mV,mF,i0,h,d1,d2];congr 1;simp[c1,c2]
def yY(a b:Nat):Int:=if a=b then 0 else if a<b then -1 else 1
theorem bp4[Z0](d:Nat)(a b:AV)(g:G):dQ C0 (I C0) d (.ZH 109 [] []) [a,b] g=XV ((I C0).call d 109 [a,b] g):=by kernel_rfl
theorem bp3[Z0]{a1 a2 b1 b2:Nat}(hd:0<d)(l1:a1<=4611686018427387903)(l2:a2<=4611686018427387903)(l3:b1<=4611686018427387903)(l4:b2<=4611686018427387903)
  (kk:∀g',Fr g g'->K (Z_ (yY (a1*b2) (b1*a2))) g'):(dQ C0 (I C0) d (.ZH 109 [] []) [.agg [Z_ (a1:Int),Z_ (a2:Int)],.agg [Z_ (b1:Int),Z_ (b2:Int)]] g).sat K g D:=by
 rw[bp4];refine j9 G9 (by simp[oS]) ?_;have e1:∀x:Nat,x<=4611686018427387903->∀g,ae C0 d 102 [Z_ (x:Int)] g=.val (ZW (x:Int)):=λx hx g=>xS hd ⟨by omega,by omega⟩;have u:=e1 a1 l1;have v:=e1 b1 l3;have w1:IntKind.wrap .u64 (b2:Int)=(b2:Int):=du (by omega) (by omega);have A:IntKind.wrap .u64 (a2:Int)=(a2:Int):=du (by omega) (by omega);have t1:∀g,ae C0 d 110 [ZW (a1:Int),ZW (b2:Int)] g=.val (HD a1 b2):=λg=>IK hd (by omega) (by omega);have t2:∀g,ae C0 d 110 [ZW (b1:Int),ZW (a2:Int)] g=.val (HD b1 a2):=λg=>IK hd (by omega) (by omega);obtain⟨o1,o2⟩:=bp6 (x:=a1) (y:=b2) (x':=b1) (y':=a2) (by omega) (by omega) (by omega) (by omega);have n1:decide ((a1:Int)<0)=false:=by simp
 have n2:decide ((b1:Int)<0)=false:=by simp
 have n3:decide ((0:Int)<=(a1:Int))=true:=by simp
 have eb:∀w:Bool,uz true .bool (.bool w) (.bool w)=.val (.bool false):=λw=>by cases w<;>rfl
 obtain⟨p,hp⟩:∃p,p=yY (a1*b2) (b1*a2):=⟨_,rfl⟩;rw[<-hp]at kk;have b:∀x y,HD x y=.agg [ZW ((EV x y).1:Int),ZW ((EV x y).2:Int)]:=λ_ _=>rfl;have st1:∀(g:G) (i x y:Nat),fC (Z4 2 [[ZW 0,ZW 0]]) g i 0 0 2 0 (HD x y)=.upd .undef (g.put i (Z4 2 [[ZW ((EV x y).1:Int),ZW ((EV x y).2:Int)]])):=λ_ _ _ _=>rfl;have ld:∀(x y:Nat),aO (Z4 2 [[ZW ((EV x y).1:Int),ZW ((EV x y).2:Int)]]) 0 0 true 2 0=.val (HD x y):=λ_ _=>rfl;have kl:∀g,ae C0 d 111 [HD a1 b2,HD b1 a2] g=.val (.bool (decide (a1*b2<b1*a2))):=λg=>by rw[b,b,bp5 hd];congr 2;exact decide_eq_decide.2 o2
 have eqm:uz false (.flat [.int .u64,.int .u64]) (HD a1 b2) (HD b1 a2)=.val (.bool (decide (a1*b2=b1*a2))):=by
  rw[b,b];have ha:FL ((EV a1 b2).1:Int) ((EV b1 a2).1:Int)=decide ((EV a1 b2).1=(EV b1 a2).1):=by rw[mK,Yj];simp only[RY];omega
  have hb:FL ((EV a1 b2).2:Int) ((EV b1 a2).2:Int)=decide ((EV a1 b2).2=(EV b1 a2).2):=by rw[mK,Yj];simp only[RY];omega
  have:decide (a1*b2=b1*a2)=(decide ((EV a1 b2).1=(EV b1 a2).1)&&decide ((EV a1 b2).2=(EV b1 a2).2)):=by rw[Yj];simp[o1]
  rw[this];simp only[uz,TZ,eU,eT,pA,ha,hb];cases decide ((EV a1 b2).1=(EV b1 a2).1)<;>cases decide ((EV a1 b2).2=(EV b1 a2).2)<;>rfl
 simp only[oS];refine eK (P:=λt' df g'=>df=[]/\g'=(g.new (Z4 2 [[Z_ (a1:Int),Z_ (a2:Int)]])).new (Z4 2 [[Z_ (b1:Int),Z_ (b2:Int)]])/\St t' [(2,ZZ g.nx),(3,ZZ (g.nx+1)),(4,Z_ 0)]) ?_ ?_
 ·simp only[sz,simprocAttr];simp[St,sx]
 rintro t df g1 ⟨rfl,a,h2,c,h4,-⟩;have k2:g1.h.get g.nx=Z4 2 [[Z_ (a1:Int),Z_ (a2:Int)]]:=by rw[a];simp[Za]
 have f:g1.h.get (g.nx+1)=Z4 2 [[Z_ (b1:Int),Z_ (b2:Int)]]:=by rw[a];simp[Za]
 have s:g1.nx=g.nx+2:=by rw[a];simp
 have f1:Fr g g1:=by rw[a];exact⟨by simp;omega,λi hi=>by simp[Za,show ¬i=g.nx by omega,show ¬i=g.nx+1 by omega]⟩
 clear a;simp only[wY];obtain⟨Qf,o⟩:∃Qf,Qf=Xs C0 d oS.res K:=⟨_,rfl⟩;show wp C0 d none _ (Xs C0 d [.tm 4] K) _ _ _;refine gv (P:=λt' df g'=>df=[]/\Fr g g'/\∃p q,p≠q/\g'.h.get g.nx=Z4 2 [[Z_ (a1:Int),Z_ (a2:Int)]]/\g'.h.get (g.nx+1)=Z4 2 [[Z_ (b1:Int),Z_ (b2:Int)]]/\g'.h.get p=Z4 2 [[ZW ((EV a1 b2).1:Int),ZW ((EV a1 b2).2:Int)]]/\g'.h.get q=Z4 2 [[ZW ((EV b1 a2).1:Int),ZW ((EV b1 a2).2:Int)]]/\St t' [(2,ZZ g.nx),(3,ZZ (g.nx+1)),(5,ZZ p),(6,ZZ q)]) ?_ ?_
 ·simp only[sz,simprocAttr,sf,h2,c,k2,f,u,v,w1,A,t1,t2,st1,xP,DG,show ¬g1.nx=g1.nx+2 by omega,show ¬g1.nx+2=g1.nx by omega];have si:∀h (k:IntKind) (z:Int),aB h aw (.int k z)=[]:=λ_ _ _=>rfl;refine⟨?_,⟨?_,λi hi=>?_⟩,g1.nx+14,g1.nx+16,by omega,?_,?_,?_,?_,?_⟩
  ·simp only[I9,Nq,DI,ML];refine aK (Vk (JO (Zb (true::(true::(true::(true::[]))))))) [(0,14),(1,14),(2,14),(3,14),(4,14),(5,14),(6,14),(7,14),(8,14),(9,14),(10,14),(11,14),(12,14),(13,14),(0,15),(1,15),(2,15),(3,15),(4,15),(5,15),(6,15),(7,15),(8,15),(9,15),(10,15),(11,15),(12,15),(13,15),(14,15)] (by simp[ZL,am,aA]) (by decide) ?_;rintro p e x y hx n;simp only[Y0,QA,TP]at e;rcases e with rfl|rfl|rfl|rfl|rfl|rfl|rfl|rfl|rfl|rfl|rfl|rfl|rfl|rfl|rfl|rfl|rfl|rfl|rfl|rfl|rfl|rfl|rfl|rfl|rfl|rfl|rfl|rfl|rfl<;>(simp at hx n;subst hx;subst n;refine dP rfl rfl rfl rfl ?_ ?_ ?_<;>simp[am,aA,an,eH,si]<;>omega)
  ·have:=f1.1;first| (simp;omega)|omega
  ·simp[Za,show ¬i=g1.nx+14 by omega,show ¬i=g1.nx+16 by omega];rw[f1.2 i hi]
  ·simp[Za,show ¬g.nx=g1.nx+14 by omega,show ¬g.nx=g1.nx+16 by omega,k2]
  ·repeat rw[bJ]
  ·simp[Za]
  ·simp[Za]
  ·simp[St,sx,h2,c]
 rintro t df g2 ⟨rfl,f2,p',q',r,k2,f,l,m,h2,c,h5,j,-⟩;have kf:=kk _ f2;have ef:uz false .bool (.bool false) (.bool true)=.val (.bool false):=rfl;have et:uz false .bool (.bool true) (.bool true)=.val (.bool true):=rfl
 by_cases c1:a1*b2=b1*a2
 ·have Vh:p=0:=by rw[hp,yY,ZN c1]
  rw[Qe c1]at eqm;rw[Vh]at kf;simp only[sz,simprocAttr,h2,c,h5,j,k2,f,l,m,n1,n2,eb,ld,eqm];exact kf
 ·rw[Vf c1]at eqm
  by_cases c2:a1*b2<b1*a2
  ·have Vh:p = -1:=by rw[hp,yY,ZF c1,ZN c2]
   rw[Qe c2]at kl;rw[Vh]at kf;simp only[sz,simprocAttr,h2,c,h5,j,k2,f,l,m,n1,n2,n3,eb,ld,eqm,kl,et];exact kf
  ·have Vh:p=1:=by rw[hp,yY,ZF c1,ZF c2]
   rw[Vf c2]at kl;rw[Vh]at kf;simp only[sz,simprocAttr,h2,c,h5,j,k2,f,l,m,n1,n2,n3,eb,ld,eqm,kl,ef];exact kf
theorem bp2[Z0](d:Nat)(a b:AV)(g:G):∃v,(I C0).call d 157 [a,b] g=.ok v g:=by
 have key:=j5 (C:=C0) (d:=d) (f:=157) («as»:=[a,b]) (g:=g) (K:=λv g'=>g'=g) zT (by simp[ko]) ?_
 ·cases hc:(I C0).call d 157 [a,b] g with
  |fail=>rw[hc]at key;exact key.elim
  |ok v g'=>rw[hc]at key;exact⟨v,by rw[show g'=g from key]⟩
 have e:uz true (.iface true) .tO .tO=.val (.bool false):=rfl;simp only[ko,sx,rm];simp only[sz,simprocAttr,e]
theorem bp1[Z0]{fn:Nat}{a a':List AV}(hd:0<d)(hs:Hx.ZS g.h d aw (.ZH fn [] a)=some (.ZH fn [] a'))(hc:∀(g:G) (K:AV->G->Prop) (D:ZU->Prop),(∀g',Fr g g'->K (Z_ x) g')->(dQ C0 (I C0) (d+1) (.ZH fn [] a') [] g).sat K g D) :
  ae C0 d 136 [.ZH fn [] a] g=.val (.Zz [Z_ x,Z_ 0]):=by
 have key:∃r,ae C0 d 136 [.ZH fn [] a] g=.val r/\mQ (One x) (One (0:Int)) ZX 0 .nil r:=by
  rw[Zn];refine aI Ci (xs:=[.ZH fn [] a']) (by simp only[aD,hs]) (by simp[nK]) (bM (m:=2) (aE _) (aE _) (by decide) (by decide)) (by decide) hd ?_;simp only[sz,simprocAttr,nK,qN];rw[u_ (f:=157) (first:=[]) (cap:=[ZZ 0,ZZ 1]) (by simp[sx])];simp only[sz,simprocAttr,Em,Eb];refine hc _ _ _ λg2 fr2=>?_;have k0:g2.h.get 0=Z4 1 [[Z_ 0]]:=by rw[fr2.2 0 (by simp[sx])];simp[sx,Za]
  have e:g2.h.get 1=Z4 1 [[Z_ 0]]:=by rw[fr2.2 1 (by simp[sx])];simp[sx]
  simp only[sz,simprocAttr,k0,e];obtain⟨v,c⟩:=bp2 (d+1) (ZZ 0) (ZZ 1) ((g2.put 0 (Z4 1 [[Z_ x]])).put 1 (Z4 1 [[Z_ 0]]));refine yA c ?_;simp only[sx,sy,↓reduceIte,Nat.reduceEqDiff,Nat.reduceAdd,Nat.reduceLeDiff];exact⟨ZX,_,_,rfl,ay.2 rfl,ay.2 rfl⟩
 obtain⟨r,h1,a,b,rfl,h2,k⟩:=key;have h2:=ay.1 h2;injection h2 with h2;have k:=ay.1 k;injection k with k;rw[h1,h2,k]
theorem bp0[Z0](d:Nat)(a b c:AV)(g:G):dQ C0 (I C0) d (.ZH 137 [] [a,b,c]) [] g=XV ((I C0).call d 137 [a,b,c] g):=by kernel_rfl
theorem bo_[Z0]{a1 a2 b1 b2:Nat}(hd:0<d)(l1:a1<=4611686018427387903)(l2:a2<=4611686018427387903)(l3:b1<=4611686018427387903)(l4:b2<=4611686018427387903)(p2:0<a2)(p4:0<b2)(g1:Nat.gcd a1 a2=1)(g2:Nat.gcd b1 b2=1) :
  ae C0 d 70 [.agg [Z_ (a1:Int),Z_ (a2:Int)],.agg [Z_ (b1:Int),Z_ (b2:Int)]] g=.val (.Zz [Z_ (yY (a1*b2) (b1*a2)),Z_ 0]):=by
 have kb:∀(d:Nat) (g:G),0<d->ae C0 d 108 [.agg [Z_ (a1:Int),Z_ (a2:Int)],.agg [Z_ (b1:Int),Z_ (b2:Int)],.ZH 109 [] []] g=.val (.Zz [Z_ (yY (a1*b2) (b1*a2)),Z_ 0]):=λd g hd=>by
  have key:∃z,ae C0 d 108 [.agg [Z_ (a1:Int),Z_ (a2:Int)],.agg [Z_ (b1:Int),Z_ (b2:Int)],.ZH 109 [] []] g=.val z/\mQ (One (yY (a1*b2) (b1*a2))) (One (0:Int)) ZX 0 .nil z:=by
   rw[Zn];refine aI Dr (xs:=[.agg [Z_ (a1:Int),Z_ (a2:Int)],.agg [Z_ (b1:Int),Z_ (b2:Int)],.ZH 109 [] []]) rfl (by simp[pG]) (bM (m:=2) (aE _) (aE _) (by decide) (by decide)) (by decide) hd ?_;have k:∀g,Kl (.ZH 109 [] []) g=.upd (ZZ g.nx) (g.new (Z4 1 [[.ZH 109 [] []]])):=λg=>rfl;have c1:∀g,ae C0 (d+1) 77 [.agg [Z_ (a1:Int),Z_ (a2:Int)]] g=.val (Z_ 0):=λg=>Ib (abc d) l1 p2 l2 g1;have c:∀g,ae C0 (d+1) 77 [.agg [Z_ (b1:Int),Z_ (b2:Int)]] g=.val (Z_ 0):=λg=>Ib (abc d) l3 p4 l4 g2;simp only[pG,s_,sx,sy,SO.run,↓reduceIte,Nat.reduceEqDiff,Nat.reduceAdd,Nat.reduceLeDiff,k,c1,c,decide_true,Q_];rw[bp1 (x:=yY (a1*b2) (b1*a2)) (a':=[.ZR (Nat.max (d+1) 0) 1 [[.ZH 109 [] []]] 0 0,.ZR (Nat.max (d+1) 0) 2 [[Z_ (a1:Int),Z_ (a2:Int)]] 0 0,.ZR (Nat.max (d+1) 0) 2 [[Z_ (b1:Int),Z_ (b2:Int)]] 0 0]) (abc d) ?_ ?_]
   ·simp only[sx,sy,SO.run,↓reduceIte,Nat.reduceEqDiff,Nat.reduceAdd,Nat.reduceLeDiff];exact⟨ZX,_,_,rfl,ay.2 rfl,ay.2 rfl⟩
   ·rw[bp7 (bp8 (f:=109) (d+1) 20 (by simp[sx,Za])) (Pp (a:=(a1:Int)) (b:=(a2:Int)) (d+1) 20 (by simp[sx,Za])) (Pp (a:=(b1:Int)) (b:=(b2:Int)) (d+1) 20 (by simp[sx,Za]))]
   ·intro g K D kk;rw[bp0];refine j9 A1 (by simp[l6]) ?_;simp only[l6,sx,sy,SO.run,↓reduceIte,Nat.reduceEqDiff,Nat.reduceAdd,Nat.reduceLeDiff,jR];refine bp3 (abc _) l1 l2 l3 l4 λg' hf=>?_;simp only[sx,sy,SO.run,↓reduceIte,Nat.reduceEqDiff,Nat.reduceAdd,Nat.reduceLeDiff];exact kk g' hf
  obtain⟨z,h1,a,b,rfl,h2,h⟩:=key;have h2:=ay.1 h2;injection h2 with h2;have h:=ay.1 h;injection h with h;rw[h1,h2,h]
 have key:∃r,ae C0 d 70 [.agg [Z_ (a1:Int),Z_ (a2:Int)],.agg [Z_ (b1:Int),Z_ (b2:Int)]] g=.val r/\mQ (One (yY (a1*b2) (b1*a2))) (One (0:Int)) ZX 0 .nil r:=by rw[Zn];refine aI KI (xs:=[.agg [Z_ (a1:Int),Z_ (a2:Int)],.agg [Z_ (b1:Int),Z_ (b2:Int)]]) rfl (by simp[z_]) (bM (m:=2) (aE _) (aE _) (by decide) (by decide)) (by decide) hd ?_;have e1:=λg=>kb (d+1) g (abc d);simp only[z_,A_,sx,sy,SO.run,↓reduceIte,Nat.reduceEqDiff,Nat.reduceAdd,Nat.reduceLeDiff,e1];exact⟨ZX,_,_,rfl,ay.2 rfl,ay.2 rfl⟩
 obtain⟨r,h1,a,b,rfl,h2,h⟩:=key;have h2:=ay.1 h2;injection h2 with h2;have h:=ay.1 h;injection h with h;rw[h1,h2,h]
end
section
variable {α:Type} [DecidableEq α]
theorem bo9[Z0]{v:Nat}(hd:0<d)(he:ZT ZX 0 .nil e w)(hv:v<e.length)(hl:e.length<=1000) :
  ∃r,ae C0 d 116 [w,Z_ (v:Int),Z_ x] g=.val r/\mQ (One (e.set v x)) (One (decide (e[v]?.getD 0<0) || decide (e[v]?.getD 0=x))) ZX 0 .nil r:=by
 have e1:=oZ (h:=g.h) d (he.tree (ZV 0));have re:∀h,ak h 1 w=some (e.map ci):=λh=>(he.tree (h':=h) (ZV 0):ZT ZX 0 h e w).ints;have a:v<(e.map ci).length:=by simpa using hv
 have c:(e.map ci)[v]?=some (ci (e[v]?.getD 0)):=by rw[Zy,Zq hv];rfl
 have f:nq w=true:=u7 (re .nil) a;rw[Zn];refine aI Hi (xs:=[w,Z_ (v:Int),Z_ x]) (by simp only[aD,e1,aU]) (by simp[uI]) (bM (m:=1) (aE _) (aE _) (by decide) (by decide)) (by decide) hd ?_;simp only[sz,simprocAttr,uI];refine aP (b:=0) (rows:=[]) (new:=e.map ci) (.inl ⟨rfl,rfl⟩) (re _) (by simp) (by simp[aQ];omega) λu g1 hu n1 _ _ _=>?_;have hu:Own g1 0 u 1 (e.map ci):=hu;have ru:=hu.rows;simp only[sz,simprocAttr,ru,a];refine bZ (v:=u) (sz:=1) (n:=1) (i:=v) (off:=0) (x:=Z_ x) (row':=ci x) hu c rfl rfl rfl λg2 hu2 n2 f2=>?_;rw[<-MO]at hu2;simp only[sz,simprocAttr,re,a,c,ci];have k:One (e.set v x) (λ_=>True) 0 g2.h u:=hu2.ints (by simpa using (by omega:e.length<2^63))
 by_cases hc:e[v]?.getD 0<0
 ·simp only[sz,simprocAttr,hc];exact⟨λ_=>True,_,_,rfl,k,cE.2 (by simp)⟩
 ·simp only[sz,simprocAttr,hc,re,a,c,ci];exact⟨λ_=>True,_,_,rfl,k,cE.2 (by simp)⟩
theorem bo8{v:Nat}(hv:v<e.length)(hl:e.length=n.Z7.length)(hx:0<=x) :
  GW n (B8 n e v x) (Dj n)=if (decide (e[v]?.getD 0<0) || decide (e[v]?.getD 0=x))=true then Dl n (e.set v x) else 0:=by
 have a:∀w:Nat,(EU (IO n) (w:Int)).length=n.Z7.length:=λw=>by rw[vg,aX]
 split
 ·rename_i hc;rw[t_];refine GI λw _=>?_;obtain⟨Z2,b⟩:∃Z2,Z2=EU (IO n) (w:Int):=⟨_,rfl⟩;have k:v<Z2.length:=by rw[b,a];omega
  rw[B8,Dk,Dk,<-b,Yj,Zk,RY,Ee,Ee,Zq k,P5];simp only[T6,RY]at hc;constructor
  ·rintro⟨h1,h2⟩ i hi;rw[aet]at hi
   by_cases hiv:v=i
   ·subst hiv;rw[J5 hv,Zq k,h2];simp
   ·rw[TS hiv];exact h1 i hi
  ·intro h;have h0:=h v (by simpa using hv);rw[J5 hv,Zq k]at h0;simp only[Ns]at h0;have c:Z2[v]=x:=by omega
   refine⟨λi hi=>?_,c⟩
   by_cases hiv:v=i
   ·subst hiv;rw[Zq k,Ns,c];exact hc
   ·have:=h i (by simpa using hi);rwa [TS hiv]at this
 ·rename_i hc;have:∀j,GW n (B8 n e v x) j=0:=λj=>by
   induction j with
   |zero=>rfl
   | succ j ih =>rw[GW,ih,ZF,aeA];intro hp;rw[B8,Dk,Zk,Ee,RY]at hp;have h1:=hp.1 v hv;rw[hp.2,Ns]at h1;exact hc (by simpa using h1)
  exact this _
theorem bo7[Z0]{v:Nat}(hd:0<d)(hm:Zl n ZX 0 g.h u)(hr:NR n)(he:ZT ZX 0 .nil e w)(hel:e.length=n.Z7.length)(hv:v<n.Z7.length)(hz0:Dl n e≠0) :
  ∃r,ae C0 d 82 [u,w,Z_ (v:Int)] g=.val r/\One (Dd n e v) ZX 0 .nil r:=by
 obtain⟨b,rows,rfl,e1,F,hN,r1,r2,r3,r4⟩:=bT d hm;have ew:=oZ (h:=g.h) d (he.tree (ZV 0));have O:∀h,ZT ZX 0 h e w:=λh=>he.tree (ZV 0);have Y:=hr.l2;obtain⟨x,hx,-,H⟩:=ah hv;obtain⟨pa,ra,q1,hlt,-⟩:=r3 v x hx;have I:=r4 (by omega);have N:=hr.Z5 x H;obtain⟨c,hc⟩:∃c:Nat,x.Z5=(c:Int):=Wu (by omega);have W:((IO n)[v]?.getD 0).toNat=c:=by simp[IO,hx,hc]
 rw[hc]at q1;have L:=rg hr e;obtain⟨M,T⟩:=Wu L.1;have kM:∀g,ae C0 (d+1) 61 [.agg [Z_ n.Z8,b],w] g=.val (Z_ (M:Int)):=λg=>by rw[<-T];exact Gr (abc d) (F _) hr (O g.h) hel
 rw[Zn];refine aI zY (xs:=[.agg [Z_ n.Z8,b],w,Z_ (v:Int)]) (by simp only[aD,e1,ew,aU]) (by simp[li]) (aE _) (by decide) hd ?_;simp only[sz,simprocAttr,li,oG,kM];refine bh c (by omega) (λj t df g=>df=[]/\g.h.get 0=Z4 2 [[Z_ n.Z8,b]]/\St t [(1,w),(2,Z_ (v:Int)),(3,ZZ 0),(7,Z_ (M:Int))]/\1<=g.nx/\∃U,ZY t 8=U/\Own g 1 U 2 (((Dd n e v).map cq).take j)) ⟨rfl,by simp[sx],by simp[St,sx],by simp[sx],.Z6,by simp[sx],.inl ⟨rfl,by simp⟩⟩ (by simp[sx]) (by decide) (by rintro j t df g z s (rfl|rfl|rfl)<;>simp[St,sx]) ?_ ?_ ?_
 ·rintro j t df g X ⟨rfl,g0,⟨h1,h2,i,h7,-⟩,Q,U,h8,B⟩ h9;simp only[sz,simprocAttr,h1,h2,i,h7,h8,h9,g0,r1,hlt,q1,I];simp[St,sx,h1,h2,i,h7,h8,h9,g0,Q,B]
 ·rintro j t df g X ⟨rfl,g0,⟨h1,h2,i,h7,-⟩,Q,U,h8,B⟩ h9;have o:=FX (n:=n) (e:=e) (v:=v) (k:=j) (by omega);have l:=bo8 (n:=n) (e:=e) (v:=v) (x:=(j:Int)) (by omega) hel (by omega);have J:=jz hr (B8 n e v (j:Int)) (Dj n);obtain⟨W1,W2,W3⟩:=hr.wl;obtain⟨A,R⟩:=Wu J.1;have V:=J.2;rw[R,T]at o;rw[R]at l;have o:(Dd n e v)[j]?=some (Cb A M):=o;obtain⟨q,hq⟩:∃q,q=Cb A M:=⟨_,rfl⟩;rw[<-hq]at o;have kO:∀g,ae C0 (d+1) 117 [Z_ (A:Int),Z_ (M:Int)] g=.val (.agg [Z_ q.1,Z_ q.2]):=λg=>by rw[hq];exact bA7 (abc d) (by omega) (by omega) (by omega)
  refine eK (P:=λt' df g'=>df=[]/\Fr g g'/\St t' [(1,w),(2,Z_ (v:Int)),(3,ZZ 0),(7,Z_ (M:Int)),(8,U),(9,Z_ (j:Int))]/\(∃z,ZY t' 10=z/\ZT ZX 0 .nil (e.set v (j:Int)) z)/\ZY t' 11=.bool (decide (e[v]?.getD 0<0) || decide (e[v]?.getD 0=(j:Int)))) ?_ ?_
  ·simp only[sz,simprocAttr,h1,h2,h9];refine aM (bo9 (abc d) he (by omega) (by omega)) ?_;rintro r ⟨a,c2,rfl,ha,p⟩;have p:=cE.1 p;injection p with p;subst p;simp only[sz,simprocAttr];exact⟨Fr.refl _,by simp[St,sx,h1,h2,i,h7,h8,h9],a,rfl,IT.sl (k:=0) ha _⟩
  clear h1 h2 i h7 h8 h9;rintro t df g2 ⟨rfl,hf,⟨h1,h2,i,h7,h8,h9,-⟩,⟨z,m,hz⟩,f⟩;have C:g2.h.get 0=Z4 2 [[Z_ n.Z8,b]]:=by rw[hf.2 0 (by omega),g0]
  refine eK (P:=λt' df g'=>df=[]/\g'=g2/\St t' [(1,w),(2,Z_ (v:Int)),(3,ZZ 0),(7,Z_ (M:Int)),(8,U),(9,Z_ (j:Int)),(10,z),(11,.bool (decide (e[v]?.getD 0<0) || decide (e[v]?.getD 0=(j:Int)))),(12,Z_ 0)]) ?_ ?_
  ·simp only[sz,simprocAttr];simp[St,sx,h1,h2,i,h7,h8,h9,m,f]
  clear h1 h2 i h7 h8 h9 m f;rintro t df g3 ⟨rfl,rfl,h1,h2,i,h7,h8,h9,m,f,y,-⟩;refine gv (P:=λt' df g'=>df=[]/\g'=g3/\St t' [(1,w),(2,Z_ (v:Int)),(3,ZZ 0),(7,Z_ (M:Int)),(8,U),(9,Z_ (j:Int)),(12,Z_ (A:Int))]) ?_ ?_
  ·cases hb:(decide (e[v]?.getD 0<0) || decide (e[v]?.getD 0=(j:Int))) with
   | true =>
    rw[hb]at f l;have kM2:∀g,ae C0 (d+1) 61 [.agg [Z_ n.Z8,b],z] g=.val (Z_ (A:Int)):=λg=>by rw[l,ZN rfl];exact Gr (abc d) (F _) hr (hz.tree (h':=g.h) (ZV 0)) (by rw[aet,hel])
    simp only[sz,simprocAttr,f,i,m,C,kM2];simp[St,sx,h1,h2,i,h7,h8,h9]
   | false =>rw[hb]at f l;rw[ZF (by simp)]at l;simp only[sz,simprocAttr,f];simp[St,sx,h1,h2,i,h7,h8,h9,y,l]
  clear h1 h2 i h7 h8 h9 m f y;rintro t df g3 ⟨rfl,rfl,h1,h2,i,h7,h8,h9,y,-⟩;have D:=B.step hf;have Z:(Dd n e v).length<=4:=CW hr v;simp only[sz,simprocAttr,m_,h7,h8,y,kO];refine aP (new:=[cq q]) (D.step (Fr.new _ _)) (by simp[sx,sy,cq]) (by simp) (by simp[aQ];omega) λv2 g4 hv2 n4 f4 _ l4=>?_;simp only[sz,simprocAttr];have h4:=hf.1;have K:g4.h.get 0=Z4 2 [[Z_ n.Z8,b]]:=by rw[f4 0 (by simp) (λh=>by have:=(D.lt h).1;omega)];simp[Za,show ¬0=g3.nx by omega,C]
  have E:((Dd n e v).map cq)[j]?=some (cq q):=by rw[Zy,o];rfl
  refine⟨⟨K,by simp[St,sx,h1,h2,i,h7],?_,v2,rfl,?_⟩,h9⟩
  ·simp at n4;omega
  ·rw[NA,E];exact hv2
 ·rintro t df g ⟨rfl,g0,⟨h1,h2,i,h7,-⟩,Q,U,h8,B⟩;simp only[sz,simprocAttr,nc,h8];rw[U8 (by rw[Ju,Cy];omega)]at B;exact⟨λ_=>True,dW.2 ⟨_,rfl,Ty hr B λ_ _ _=>trivial⟩⟩
end
theorem bo6{x:Nat}:bN .rem (Z_ (-(x:Int))) (Z_ 10000)=.val (Z_ (-((x % 10000:Nat):Int))):=by
 cases x with
 |zero=>rfl
 | succ m =>
  have e:(-((m+1:Nat):Int))=Int.negSucc m:=rfl;rw[e];simp only[bN,fT,bQ];show RK (oJ (Op.intDiv .rem .i64 (.negSucc m) (.ofNat 10000)))=_;unfold Op.intDiv;rw[ZF (by decide)];show OR.val (Z_ ((Int.negSucc m).tmod (.ofNat 10000)))=_
  rfl
theorem bo5{x:Nat}(hx:x<2^63):bN .quo (Z_ (-(x:Int))) (Z_ 10000)=.val (Z_ (-((x / 10000:Nat):Int))):=by
 cases x with
 |zero=>rfl
 | succ m =>have e:(-((m+1:Nat):Int))=Int.negSucc m:=rfl;rw[e];simp only[bN,fT,bQ];show RK (oJ (Op.intDiv .quo .i64 (.negSucc m) (.ofNat 10000)))=_;unfold Op.intDiv;rw[ZF (by decide)];show OR.val (Z_ (IntKind.wrap .i64 ((Int.negSucc m).tdiv (.ofNat 10000))))=_;have h:(Int.negSucc m).tdiv (.ofNat 10000) = -(((m+1) / 10000:Nat):Int):=rfl;rw[h,aq]
theorem bo4{x:Nat}(h:x<2^63):RX .neg (Z_ (-(x:Int)))=.val (Z_ (x:Int)):=by
 cases x with
 |zero=>rfl
 | succ n =>show RK (oJ (Op.unary .neg (.int .i64 (.negSucc n))))=_;show OR.val (Z_ (IntKind.wrap .i64 (0 - Int.negSucc n)))=_;rw[show 0 - Int.negSucc n=((n+1:Nat):Int) by omega,aq]
theorem bo3{x:Nat}(h:x<=4611686018427387903):RX .neg (ZW (IntKind.wrap .u64 (-(x:Int))))=.val (ZW (x:Int)):=by have e:∀z:Int,RX .neg (ZW z)=.val (ZW (IntKind.wrap .u64 (0 - z))):=λz=>rfl;rw[e,show IntKind.wrap .u64 (-(x:Int))=(-(x:Int)) % 18446744073709551616 from rfl];show OR.val (ZW ((0 - (-(x:Int)) % 18446744073709551616) % 18446744073709551616))=_;congr 2;omega
theorem bo2[Z0]{n:Nat}(hd:0<d)(hn:n<2^63):∃r,ae C0 d 114 [Z_ (-(n:Int))] g=.val r/\IT 0 (GZ n) r:=by
 rw[Zn];refine aI vy (xs:=[Z_ (-(n:Int))]) (by simp only[aD,aU 0]) (by simp[gY]) (aE _) (by decide) hd ?_;simp only[sz,simprocAttr,gY];refine gB (λk t df g=>df=[]/\k<2^63/\St t [(0,Z_ (-(k:Int)))]/\∃u L,ZY t 3=u/\Own g 0 u 1 ((L:List Int).map ci)/\L++GZ k=GZ n) n
  ⟨rfl,hn,by simp[sx,St],_,[],rfl,.inl ⟨by simp[sx],rfl⟩,rfl⟩ ?_
 rintro k t df g ⟨rfl,hk,⟨h0,-⟩,u,L,j,hu,c⟩;have a:L.length+(GZ k).length=(GZ n).length:=by rw[<-c,J6]
 have l:=iG n;simp only[sz,simprocAttr,kV,h0];refine ba (λhq=>?_) (λhq=>?_)
 ·have h:k≠0:=by simp at hq;omega
  have b:=mE h (by omega);have o:=bo6 (x:=k);have p:=bo5 (x:=k) hk;have hm:=US k (show 0<10000 by decide);have f:=bo4 (x:=k % 10000) (by omega);have e:max (-((k % 10000:Nat):Int)) ((k % 10000:Nat):Int)=((k % 10000:Nat):Int):=by omega
  have i:k / 10000<k:=ae8 (by omega) (by decide);generalize k % 10000=r at *;generalize k / 10000=q at *;simp only[sz,simprocAttr,h0,j,o,f,e];have m:L.length<(GZ n).length:=by rw[b]at a;simp at a;omega
  refine aP (new:=[ci (r:Int)]) (hu.step (Fr.new _ _)) (by simp[sx,sy,ci]) (by simp<;>omega) (by simp[aQ]<;>omega) λv2 g2 hv2 n2 f2 _ l2=>?_;simp only[sz,simprocAttr,h0,p,St];refine⟨q,i,by omega,?_,v2,L++[(r:Int)],?_,?_,?_⟩
  ·simp[sx]
  ·simp[sx]
  ·simpa using hv2
  ·rw[acq,adP,<-b,c]
 ·have h:k=0:=by simp at hq;omega
  subst h;rw[oQ,VM]at c;subst c;simp only[sz,simprocAttr,kW,j];exact⟨_,hu.ints (by omega)⟩
theorem Oe[Z0](hd:0<d)(h0:-4611686018427387903<=x)(h1:x<=4611686018427387903):∃r,ae C0 d 114 [Z_ x] g=.val r/\IT 0 (GZ x.natAbs) r:=by
 by_cases c:0<=x
 ·obtain⟨n,rfl⟩:=Wu c;exact jD hd (by omega)
 ·obtain⟨n,h⟩:∃n:Nat,x = -(n:Int):=⟨x.natAbs,by omega⟩;subst h;rw[show (-(n:Int)).natAbs=n by omega];exact bo2 hd (by omega)
def zJ(x y:Int):Prop:=(1<=y/\y<=4611686018427387903/\-4611686018427387903<=x/\x<=4611686018427387903)/\Nat.gcd x.natAbs y.natAbs=1
instance (x y:Int):Decidable (zJ x y):=by unfold zJ;infer_instance
theorem bo1:B9 a 1=0↔a=1:=by
 unfold B9
 split
 ·exact⟨λh=>absurd h (by decide),λh=>by omega⟩
 ·split
  ·rename_i h;exact⟨λ_=>h,λ_=>rfl⟩
  ·rename_i h;exact⟨λh=>absurd h (by decide),λh2=>absurd h2 h⟩
theorem bn_[Z0]{y:Int}(hd:0<d):ae C0 d 80 [.agg [Z_ x,Z_ y]] g=.val (.bool (decide (zJ x y))):=by
 rw[Zn];refine dA Fk (xs:=[.agg [Z_ x,Z_ y]]) (by rfl) (by simp[eN]) hd ?_;have bad:¬(1<=y/\y<=4611686018427387903/\-4611686018427387903<=x/\x<=4611686018427387903)->decide (zJ x y)=false:=λh=>Vf λh2=>h h2.1
 by_cases q1:y<1
 ·have:=bad (by omega);simp only[sz,simprocAttr,eN,eh,q1,this]
 by_cases q2:(4611686018427387903:Int)<y
 ·have:=bad (by omega);simp only[sz,simprocAttr,eN,eh,q1,q2,this]
 by_cases q3:(4611686018427387903:Int)<x
 ·have:=bad (by omega);simp only[sz,simprocAttr,eN,eh,q1,q2,q3,this]
 by_cases q4:x < -4611686018427387903
 ·have:=bad (by omega);simp only[sz,simprocAttr,eN,eh,q1,q2,q3,q4,this]
 have l:1<=y/\y<=4611686018427387903/\-4611686018427387903<=x/\x<=4611686018427387903:=by omega
 obtain⟨G0,c⟩:∃G0,G0=Nat.gcd x.natAbs y.natAbs:=⟨_,rfl⟩;have m:decide (zJ x y)=decide (B9 G0 1=0):=by rw[Yj,decide_eq_true_iff,decide_eq_true_iff,bo1,zJ,c];exact⟨λh=>h.2,λh=>⟨l,h⟩⟩
 simp only[sz,simprocAttr,eN,eh,q1,q2,q3,q4];refine aM (Oe (abc d) (by omega) (by omega)) λr1 h1=>?_;simp only[sz,simprocAttr,sf];refine aM (Oe (abc d) (by omega) (by omega)) λr2 h2=>?_;simp only[sz,simprocAttr,sf];refine aM (Pa (abc d) h1 h2 (by omega) (by omega)) λr3 h3=>?_;rw[<-c]at h3;simp only[sz,simprocAttr,sf];have hg0:G0<=4611686018427387903:=by
  have:G0<=y.natAbs:=by rw[c];exact Nat.gcd_le_right _ (by omega)
  omega
 have kc:∀(g:G),g.h.get 8=Z4 1 [[Z_ 1]]->8<g.nx->ae C0 (d+1) 112 [r3,.ZG 8 0 0 1 none] g=.val (Z_ (B9 G0 1)):=λg h8 n8=>by have ho:Own g 0 (.ZG 8 0 0 1 none) 1 ((GZ 1).map ci):=.inr ⟨8,0,false,Jq _,n8,rfl,h8⟩;obtain⟨w',a,hs⟩:=ho.ints (k:=0) (by have:=iG 1;omega);injection a with a;subst a;rw[uv (abc d) (h3.sl _) hs (by omega) (by omega)]
 have e:∀(h:H) (r:AV) (z:Nat),IT 0 (GZ z) r->aB h aw r=[]:=λh r z hr=>Yd (hr.sl h);have si:∀(h:H) (z:Int),aB h aw (Z_ z)=[]:=λ_ _=>rfl;have i:=λh=>e h r1 _ h1;have j:=λh=>e h r2 _ h2;have n:=λh=>e h r3 _ h3;rw[kc _ (by simp[show G.empty.nx=0 from rfl,Za]) (by simp[show G.empty.nx=0 from rfl])];simp only[sz,simprocAttr,sf,Bj,FC,Ak,i,j,n];simp only[I9,Nq,DI,ML];refine⟨?_,by rw[m]⟩;refine aK (false::(Vk (JO (true::(false::(Vk [])))))) [(0,7),(1,7),(2,7),(3,7),(4,7),(5,7),(6,7)] (by simp[ZL,am,aA]) (by decide) ?_;rintro p b x y hx f;simp only[Y0,QA,TP]at b;rcases b with rfl|rfl|rfl|rfl|rfl|rfl|rfl<;>(simp at hx f;subst hx;subst f;refine dP rfl rfl rfl rfl ?_ ?_ ?_<;>simp[am,aA,an,show G.empty.nx=0 from rfl,si,i,j])
theorem bn9[Z0](hd:0<d)(h0:-4611686018427387903<=x)(h1:x<=4611686018427387903):ae C0 d 102 [Z_ x] g=.val (ZW (x.natAbs:Int)):=by
 by_cases c:0<=x
 ·obtain⟨n,rfl⟩:=Wu c;exact xS hd ⟨by omega,by omega⟩
 ·obtain⟨n,h⟩:∃n:Nat,x = -(n:Int):=⟨x.natAbs,by omega⟩;subst h;rw[show (-(n:Int)).natAbs=n by omega,wI];refine cz A2 (xs:=[Z_ (-(n:Int))]) (by simp only[aD,aU 0]) (by simp[mW]) hd ?_;have c':(-(n:Int))<0:=by omega
  simp only[sz,simprocAttr,mW,c',bo3 (show n<=4611686018427387903 by omega)]
theorem bn8[Z0]{y:Int}(hd:0<d):ae C0 d 77 [.agg [Z_ x,Z_ y]] g=.val (Z_ (if zJ x y then 0 else 5)):=by
 rw[Zn];refine cz zh (xs:=[.agg [Z_ x,Z_ y]]) rfl (by simp[cV]) hd ?_;have bad:¬(1<=y/\y<=4611686018427387903/\-4611686018427387903<=x/\x<=4611686018427387903)->(if zJ x y then (0:Int) else 5)=5:=λh=>ZF λh2=>h h2.1
 by_cases q1:y<1
 ·have:=bad (by omega);simp only[sz,simprocAttr,cV,cY,q1,this]
 by_cases q2:(4611686018427387903:Int)<y
 ·have:=bad (by omega);simp only[sz,simprocAttr,cV,cY,q1,q2,this]
 by_cases q4:x < -4611686018427387903
 ·have:=bad (by omega);simp only[sz,simprocAttr,cV,cY,q1,q2,q4,this]
 by_cases q3:(4611686018427387903:Int)<x
 ·have:=bad (by omega);simp only[sz,simprocAttr,cV,cY,q1,q2,q3,q4,this]
 have e1:∀g,ae C0 (d+1) 102 [Z_ x] g=.val (ZW (x.natAbs:Int)):=λg=>bn9 (abc d) (by omega) (by omega);have k:∀g,ae C0 (d+1) 101 [ZW (x.natAbs:Int),ZW (y.natAbs:Int)] g=.val (ZW (Nat.gcd x.natAbs y.natAbs:Int)):=λg=>Ce (abc d) (by omega) (by omega);have wy:IntKind.wrap .u64 y=(y.natAbs:Int):=by rw[du (by omega) (by omega)];omega
 obtain⟨G0,a⟩:∃G0,G0=Nat.gcd x.natAbs y.natAbs:=⟨_,rfl⟩;rw[<-a]at k
 by_cases c:G0=1
 ·have h:zJ x y:=⟨by omega,by rw[<-a];exact c⟩;have c':(G0:Int)=1:=by omega
  rw[ZN h];simp only[sz,simprocAttr,cV,cY,q1,q2,q3,q4,e1,wy,k,c']
 ·have h:¬zJ x y:=λh=>c (by rw[a];exact h.2);have c':¬(G0:Int)=1:=by omega
  rw[ZF h];simp only[sz,simprocAttr,cV,cY,q1,q2,q3,q4,e1,wy,k,c']
theorem bn7[Z0]{a1 a2 b1 b2:Nat}(hd:0<d)(l1:a1<=4611686018427387903)(l2:a2<=4611686018427387903)(l3:b1<=4611686018427387903)(l4:b2<=4611686018427387903) :
  ae C0 d 81 [.agg [Z_ (a1:Int),Z_ (a2:Int)],.agg [Z_ (b1:Int),Z_ (b2:Int)]] g=.val (Z_ (B9 (a1*b2) (b1*a2))):=by
 rw[Zn];refine cz Ji (xs:=[.agg [Z_ (a1:Int),Z_ (a2:Int)],.agg [Z_ (b1:Int),Z_ (b2:Int)]]) (by rfl) (by simp[xk]) hd ?_;have h:a1*b2<=4611686018427387903*4611686018427387903:=Wn l1 l4;have k:b1*a2<=4611686018427387903*4611686018427387903:=Wn l3 l2;have q1:¬((a1:Int)<0):=by omega
 have q2:¬((b1:Int)<0):=by omega
 simp only[sz,simprocAttr,xk,zp];refine aM (jD (abc d) (by omega)) λr1 h1=>?_;simp only[sz,simprocAttr];refine aM (jD (abc d) (by omega)) λr2 h2=>?_;simp only[sz,simprocAttr];refine aM (yP (abc d) (h1.sl _) (h2.sl _) (x:=a1) (y:=b2) (by omega) (Ja (by omega)) (by have:=iG b2;omega) (oR b2 (by omega)) (by omega)) λr3 h3=>?_;simp only[sz,simprocAttr];refine aM (jD (abc d) (by omega)) λr4 h4=>?_;simp only[sz,simprocAttr];refine aM (jD (abc d) (by omega)) λr5 h5=>?_;simp only[sz,simprocAttr];refine aM (yP (abc d) (h4.sl _) (h5.sl _) (x:=b1) (y:=a2) (by omega) (Ja (by omega)) (by have:=iG a2;omega) (oR a2 (by omega)) (by omega)) λr6 h6=>?_;have kc:=λg:G=>uv (d:=d+1) (g:=g) (x:=a1*b2) (y:=b1*a2) (abc d) (h3.sl _) (h6.sl _) (by omega) (by omega);simp only[sz,simprocAttr,q1,q2,kc]
section
variable {C:ZO}{d:Nat}
def WZ:Op->Bool
 |.panic _=>true
 |_=>false
def VN(C:ZO)(i:SI):Bool:=yJ C i || (match i.op with|.raw op=>WZ op|_=>false)
def VO(C:ZO):List SI->Bool
 |[]=>true
 |i::r=>VN C i&&VO C r
def DV(C:ZO):SC->Bool
 |.ops l=>VO C l
 |.seq a b=>DV C a&&DV C b
 |.cond _ a b=>DV C a&&DV C b
 |.blk _ b=>DV C b
 |.loop b=>DV C b
 |.raw _ _=>false
 |_=>true
theorem bn6:∀{l:List SI} {Q Q':PT} {t:T} {df:List ZU} {g:G},RZ C d none l Q t df g->(∀t df g,Q t df g->Q' t df g)->RZ C d none l Q' t df g:=by
 intro l
 induction l with
 |nil=>intro Q Q' t df g h hq;exact hq _ _ _ h
 | cons i r ih =>
  intro Q Q' t df g h hq;have ih:=λt df g h=>ih (t:=t) (df:=df) (g:=g) h hq;unfold RZ at h ⊢
  split at h
  ·exact eo ih h
  ·exact xU (λt df g h=>eo ih h) (λt df g h=>ih _ _ _ h) h
theorem bn5{i:SI}{W:PT}(hi:(match i.op with|.raw op=>WZ op|_=>false)=true):¬sG C d none i W t df g:=by
 split at hi
 ·rename_i op h;cases op<;>first| (cases hi;done)|skip
  unfold sG;rw[h];exact λh=>h
 ·cases hi
theorem Pf{i:SI}(h:VN C i=true){W:PT}{Q:QP}(hr:sG C d none i W t df g):qv C d i W Q t df g:=by
 unfold VN at h;rw[T6]at h;rcases h with h|h
 ·exact BA h hr
 ·exact absurd hr (bn5 h)
theorem bn4{Q:QP}:∀{l:List SI},VO C l=true->∀{t:T} {df:List ZU} {g:G},RZ C d none l (Q (.ex .norm)) t df g->U5 C d l Q t df g:=by
 intro l
 induction l with
 |nil=>intro _ t df g h;exact h
 | cons i r ih =>
  intro hp t df g h;have hp:(VN C i&&VO C r)=true:=hp;rw[Zk]at hp;have ih:=λt df g h=>ih hp.2 (t:=t) (df:=df) (g:=g) h;unfold RZ at h;unfold U5;cases hg:i.gd with
  | none =>rw[hg]at h;exact Pf hp.1 (eo ih h)
  | some sw =>rw[hg]at h;exact xU (λt df g h=>Pf hp.1 (eo ih h)) (λt df g h=>ih _ _ _ h) h
theorem bn3:∀(s:SC),DV C s=true->∀{Q:QT} {Q':QP} {t:T} {df:List ZU} {g:G},wp C d none s Q t df g->(∀e t df g,Q e t df g->Q' (.ex e) t df g)->NU C d s Q' t df g:=by
 intro s
 induction s with
 | ops l =>intro hs Q Q' t df g h hq;rw[GQ]at h;exact Ml (Q:=λe t df g=>∃e',e=.ex e'/\Q e' t df g) (by rintro e t df g ⟨e',rfl,h⟩;exact hq _ _ _ _ h) (bn4 hs (bn6 h λt df g h=>⟨_,rfl,h⟩))
 | seq a b iha ihb =>
  intro hs Q Q' t df g h hq;have hs:(DV C a&&DV C b)=true:=hs;rw[Zk]at hs;rw[eO]at h;refine iha hs.1 h λe t df g h=>?_;cases e with
  |norm=>exact ihb hs.2 h hq
  |exit x=>exact hq _ _ _ _ h
  |ret=>exact hq _ _ _ _ h
 | cond c a b iha ihb =>
  intro hs Q Q' t df g h hq;have hs:(DV C a&&DV C b)=true:=hs;rw[Zk]at hs;rw[J_]at h;show wpC (c.get t) (NU C d a Q') (NU C d b Q') t df g;unfold wpC at h ⊢
  split at h
  ·exact⟨λq=>iha hs.1 (h.1 q) hq,λq=>ihb hs.2 (h.2 q) hq⟩
  ·exact h
 | blk id b ih =>
  intro hs Q Q' t df g h hq;rw[GP]at h;refine ih hs h λe t df g h=>?_;cases e with
  |norm=>exact hq _ _ _ _ h
  |ret=>exact hq _ _ _ _ h
  | exit x =>
   rw[mN]at h;rw[Bm]
   split at h
   ·rename_i e;rw[ZN e];exact hq _ _ _ _ h
   ·rename_i e;rw[ZF e];exact hq _ _ _ _ h
 | loop b ih =>
  intro hs Q Q' t df g h hq;rw[Ka]at h;obtain⟨Inv,hk,f⟩:=h;refine⟨Inv,hk,λk t df g hi=>ih hs (f k t df g hi) λe t df g h=>?_⟩;cases e with
  |norm=>exact h
  |exit x=>exact hq _ _ _ _ h
  |ret=>exact hq _ _ _ _ h
 |raw nt c=>intro hs;cases hs
 |_=>intro _ Q Q' t df g h hq;exact ch _ h λe t df g h=>hq _ _ _ _ h
theorem sX{f:Nat}{s:SF}(hf:ZE C f=some s)(hs:DV C s.code=true){xs:List AV}{KP:AV->G->Prop}(hl:xs.length<=s.nt)(h:wp C d none s.code (Xs C d s.res K) (bk 0 xs .nil) [] g):Zu C d f xs g K KP :=gq hf hl (bn3 _ hs h λe t df g h=>h)
end
end
end Hx
