/- A part of the proof. -/
import Derived.Test.YtikpmbiklokdiaaGreatHx12
set_option linter.all false
set_option maxRecDepth 20000
set_option maxHeartbeats 8000000
namespace Hx
open Go
noncomputable section
variable {g:G}{i d K k kk j:Nat}{gr:Int}{V:Ky->AV}{Q:QT}{t:T}{x:Node}{l pl:List Int}{r0 DH:List AV}{r5 w u wv:AV}
theorem Ec{e:List Int}(hj:j<=64):EP e j<2^64:=Vd (S8 e j) (Wl (by decide) hj)
theorem OJ{e:List Int}{y:Int}(hj:j<64)(hy:e[j]?=some y):EP e (j+1)=if 0<=y then EP e j ||| B7 j else EP e j:=by rw[EP,hy,Ns,Rz hj]
theorem Nt[Z0]{P:Nat->Prop}{v:AV}{e:List Int}(hd:0<d)(he:ZT P k g.h e v)(hl:e.length<=64):ae C0 d 43 [v] g=.val (ZW (EP e e.length:Int)):=by
 obtain⟨v',e1,b⟩:=aZ he d;have n2:=λg=>(b .nil).len g;have rb:=λh=>(b h).ints;rw[Zn];refine cz Fu (xs:=[v']) (by simp only[aD,e1]) (by simp[sg]) hd ?_;simp only[sz,simprocAttr,sg,tL,tM];refine bh e.length (by omega) (λj t df g=>df=[]/\St t [(0,v'),(3,ZW (EP e j:Int))]) ⟨rfl,by simp[St,sx,EP]⟩ (by simp[sx]) (by decide)
  (by rintro j t df g v s (rfl|rfl|rfl)<;>simp[St,sx]) ?_ ?_ ?_
 ·rintro j t df g f ⟨rfl,h0,a,-⟩ h4;simp only[sz,simprocAttr,h0,a,h4,n2,St]
 ·rintro j t df g f ⟨rfl,h0,a,-⟩ h4;obtain⟨y,l,-,-⟩:=ah f;have m:j<(e.map ci).length:=by simpa using f
  have n:(e.map ci)[j]?=some (ci y):=by rw[Zy,l];rfl
  have w1:IntKind.wrap .u64 (j:Int)=(j:Int):=du (by omega) (by omega);have i:=BQ (EP e j) (B7 j) (Ec (by omega)) (wG j);have hk:=OJ (by omega) l
  by_cases c:0<=y
  ·rw[ZN c]at hk;simp only[sz,simprocAttr,h0,a,h4,rb,m,n,ci,c,w1,mU,i];simp[St,sx,h0,h4,hk]
  ·rw[ZF c]at hk;simp only[sz,simprocAttr,h0,a,h4,rb,m,n,ci,c];simp[St,sx,h0,a,h4,hk]
 ·rintro t df g ⟨rfl,h0,a,-⟩;simp only[sz,simprocAttr,tN,a]
theorem bn2[Z0]{s:Nat}{P:Nat->Prop}{v:AV}{e:List Int}(hd:0<d)(he:ZT P k g.h e v)(hl:e.length<=1000)(hs:s<2^64) :
  ∃r,ae C0 d 62 [v,ZW (s:Int)] g=.val r/\IT 0 (Dg e s) r:=by
 obtain⟨v',e1,f⟩:=aZ he d;have n2:=λg=>(f .nil).len g;have rb:=λh=>(f h).ints;rw[Zn];refine aI Hk (xs:=[v',ZW (s:Int)]) (by simp only[aD,e1,aU]) (by simp[uK]) (aE _) (by decide) hd ?_;simp only[sz,simprocAttr,uK,vT,vV];have m:=mP e s;refine bh e.length (by omega) (λj t df g=>df=[]/\St t [(0,v'),(1,ZW (s:Int))]/\∃u,ZY t 5=u/\Own g 0 u 1 (((Dg e s).take j).map ci)) ⟨rfl,by simp[St,sx],_,rfl,.inl ⟨by simp[sx],rfl⟩⟩ (by simp[sx]) (by decide)
  (by rintro j t df g v s (rfl|rfl|rfl)<;>simp[St,sx]) ?_ ?_ ?_
 ·rintro j t df g i ⟨rfl,⟨h0,h1,-⟩,u,h5,hu⟩ b;simp only[sz,simprocAttr,h0,h1,b,n2,St];exact⟨u,h5,hu⟩
 ·rintro j t df g i ⟨rfl,⟨h0,h1,-⟩,u,h5,hu⟩ b;obtain⟨y,n,-,-⟩:=ah i;obtain⟨z,hz,ht,-⟩:=ah (l:=Dg e s) (j:=j) (by omega);have a:=Eh e s j i;rw[hz,n,Ns]at a;injection a with a;have o:j<(e.map ci).length:=by simpa using i
  have p:(e.map ci)[j]?=some (ci y):=by rw[Zy,n];rfl
  have ki:=λg:G=>Ov (d:=d+1) (g:=g) (s:=s) (v:=j) (by omega) hs (by omega)
  by_cases c:s.testBit j=true
  ·rw[ZN c]at a;subst a;have c':AU s j=true:=by rw[mM,c]
   simp only[sz,simprocAttr,h0,h1,h5,b,rb,o,p,ci,ki,c'];refine aP (new:=[ci z]) (hu.step (Fr.new _ _)) (by simp[sx,sy,ci]) (by simp) (by simp[aQ];omega) λv2 g2 hv2 n2 f2 _ l2=>?_;simp only[sz,simprocAttr];refine⟨⟨by simp[St,sx,h0,h1],_,rfl,?_⟩,by simp[sx,b]⟩;rw[ht];simpa [ci] using hv2
  ·rw[ZF c]at a;subst a;have c':AU s j=false:=by rw[mM];simpa using c
   simp only[sz,simprocAttr,h0,h1,h5,b,ki,c'];refine aP (new:=[ci (-1)]) (hu.step (Fr.new _ _)) (by simp[sx,sy,ci]) (by simp) (by simp[aQ];omega) λv2 g2 hv2 n2 f2 _ l2=>?_;simp only[sz,simprocAttr];refine⟨⟨by simp[St,sx,h0,h1],_,rfl,?_⟩,by simp[sx,b]⟩;rw[ht];simpa [ci] using hv2
 ·rintro t df g ⟨rfl,-,u,h5,hu⟩;rw[<-m,Xo]at hu;simp only[sz,simprocAttr,vX,h5];exact⟨_,hu.ints (by omega)⟩
theorem bn1[Z0]{v:Nat}{P:Nat->Prop}{e:List Int}{x:Int}(hd:0<d)(he:ZT P k g.h e w)(hl:e.length<=1000)(hv:v<e.length) :
  ∃r,ae C0 d 33 [w,Z_ (v:Int),Z_ x] g=.val r/\IT 0 (e.set v x) r:=by
 obtain⟨w',e1,c⟩:=aZ he d;have rb:=λh=>(c h).ints;rw[Zn];refine aI Ho (xs:=[w',Z_ (v:Int),Z_ x]) (by simp only[aD,e1,aU]) (by simp[uN]) (aE _) (by decide) hd ?_;simp only[sz,simprocAttr,uN];refine aP (b:=0) (rows:=[]) (new:=e.map ci) (.inr ⟨_,0,false,Jq _,?_,rfl,?_⟩) (rb _) (Jq _) (by simp[aQ];omega) λv2 g2 hv2 n2 f2 _ l2=>?_
 ·simp[sx]
 ·simp[Za,sx]
 have a:Own g2 0 v2 1 (e.map ci):=by simpa using hv2
 obtain⟨y,f⟩:∃y,e[v]?=some y:=⟨_,Zq hv⟩;have j:v<(e.map ci).length:=by simpa using hv
 have l:(e.map ci)[v]?=some (ci y):=by rw[Zy,f];rfl
 simp only[sz,simprocAttr,a.rows,j];refine bZ (v:=v2) (sz:=1) (n:=1) (i:=v) (off:=0) (x:=Z_ x) (row':=ci x) a l rfl rfl rfl λg4 hu4 n4 f4=>?_;simp only[sz,simprocAttr];rw[show (e.map ci).set v (ci x)=(e.set v x).map ci by rw[MO]]at hu4;exact⟨_,hu4.ints (by rw[aet];omega)⟩
def t8(n:Zv)(e:List Int)(v:Int):Prop:=EQ n e=true/\0<=v/\v<(n.Z7.length:Int)/\e[v.toNat]?.getD 0<0
def AQ(n:Zv)(v:Int)(x:Int):Prop:=0<=x/\x<(IO n)[v.toNat]?.getD 0
open Classical in
def B_(n:Zv)(e:List Int)(v:Int)(l:List Int):Int:=if Dm n=true then if t8 n e v/\∀x∈l,AQ n v x then 0 else 2 else 50
theorem mq{n:Zv}{e:List Int}{v:Int}:B_ n e v l=0↔Dm n=true/\t8 n e v/\∀x∈l,AQ n v x:=by
 unfold B_
 by_cases h:Dm n=true
 ·rw[ZN h]
  by_cases h2:t8 n e v/\∀x∈l,AQ n v x
  ·rw[ZN h2];exact⟨λ_=>⟨h,h2⟩,λ_=>rfl⟩
  ·rw[ZF h2];exact⟨λh=>absurd h (by decide),λh=>absurd h.2 h2⟩
 ·rw[ZF h];exact⟨λh=>absurd h (by decide),λh2=>absurd h2.1 h⟩
theorem Bh{n:Zv}{e:List Int}{v:Int}(h:Dm n=true)(h2:¬(t8 n e v/\∀x∈l,AQ n v x)):B_ n e v l=2:=by unfold B_;rw[ZN h,ZF h2]
theorem Ol{n:Zv}{e:List Int}{v:Int}(h:Dm n=true)(h2:t8 n e v)(h3:∀x∈l,AQ n v x):B_ n e v l=0:=mq.2 ⟨h,h2,h3⟩
theorem KY{n:Zv}{e:List Int}{v:Int}(h:Dm n=false):B_ n e v l=50:=by unfold B_;rw[ZF (by rw[h];decide)]
theorem bn0[Z0]{k2:Nat}{P P2:Nat->Prop}{n:Zv}{e:List Int}{v:Int}{x:AV}(hd:0<d)(hm:Zl n ZX 0 g.h u)(he:ZT P k g.h e w)(hl:ZT P2 k2 g.h l x) :
  ae C0 d 60 [u,w,Z_ v,x] g=.val (Z_ (B_ n e v l)):=by
 obtain⟨w',O,B⟩:=aZ he d;obtain⟨x',Q,C⟩:=aZ hl d;obtain⟨b,rows,rfl,e1,o,hN,L,W,U,V⟩:=bT d hm;have n2:=λg=>(C .nil).len g;have rb:=λh=>(B h).ints;have rx:=λh=>(C h).ints;have T:=he.1;have E:=hl.1;rw[Zn];refine cz Hl (xs:=[.agg [Z_ n.Z8,b],w',Z_ v,x']) (by simp only[aD,e1,O,Q,aU]) (by simp[eF]) hd ?_;have kr:=λg:G=>by8 (d:=d+1) (g:=g) (n:=n) (v:=.agg [Z_ n.Z8,b]) (by omega) (o _);have kv:=λg:G=>bz0 (d:=d+1) (g:=g) (n:=n) (e:=e) (v:=.agg [Z_ n.Z8,b]) (by omega) (o g.h) (B g.h)
 by_cases hn:Dm n=true
 rotate_left
 ·have p:Dm n=false:=by simpa using hn
  simp only[sz,simprocAttr,eF,dS,kr,p,KY p]
 rw[hn]at kr;have bad:¬t8 n e v->B_ n e v l=2:=λh=>Bh hn λh2=>h h2.1
 by_cases hev:EQ n e=true
 rotate_left
 ·have m:EQ n e=false:=by simpa using hev
  have:=bad λh=>hev h.1;simp only[sz,simprocAttr,eF,dS,kr,kv,m,this]
 rw[hev]at kv;obtain⟨R,-⟩:=eB.1 hev
 by_cases hv0:v<0
 ·have:=bad λh=>by have:=h.2.1;omega
  simp only[sz,simprocAttr,eF,dS,kr,kv,hv0,this]
 obtain⟨vn,rfl⟩:=Wu (show 0<=v by omega)
 by_cases hv1:(n.Z7.length:Int)<=(vn:Int)
 ·have:=bad λh=>by have:=h.2.2.1;omega
  simp only[sz,simprocAttr,eF,dS,kr,kv,hv0,hN.len,hv1,this]
 have A:vn<e.length:=by omega
 obtain⟨y,H⟩:∃y,e[vn]?=some y:=⟨_,Zq A⟩;have M:vn<(e.map ci).length:=by simpa using A
 have N:(e.map ci)[vn]?=some (ci y):=by rw[Zy,H];rfl
 by_cases hy0:0<=y
 ·have:=bad λh=>by have:=h.2.2.2;rw[Ya,H,Ns]at this;omega
  simp only[sz,simprocAttr,eF,dS,kr,kv,hv0,hN.len,hv1,rb,M,N,ci,hy0,this]
 have F:t8 n e vn:=⟨hev,by omega,by omega,by rw[Ya,H,Ns];omega⟩;obtain⟨nd,q,-,-⟩:=ah (l:=n.Z7) (j:=vn) (by omega);obtain⟨X,Y,q1,hlt,-⟩:=U vn nd q;have r:=V (by omega);have f:(IO n)[vn]?.getD 0=nd.Z5:=by simp[IO,q]
 simp only[sz,simprocAttr,eF,dS,vY,kr,kv,hv0,hN.len,hv1,rb,M,N,ci,hy0];refine bh l.length E (λj t df g=>df=[]/\St t [(2,Z_ (vn:Int)),(3,x'),(4,ZZ 0)]/\g.h.get 0=Z4 2 [[Z_ n.Z8,b]]/\∀i,i<j->∀z,l[i]?=some z->AQ n vn z)
  ⟨rfl,by simp[St,sx],by simp[sx],λi h=>absurd h (ae9 i)⟩ (by simp[sx]) (by decide) (by rintro j t df g v s (rfl|rfl|rfl)<;>simp[St,sx]) ?_ ?_ ?_
 ·rintro j t df g D ⟨rfl,⟨h2,c,h4,-⟩,hg,ha⟩ h9;simp only[sz,simprocAttr,c,h9,n2];exact⟨by simp[St,sx,h2,c,h4],hg,ha⟩
 ·rintro j t df g D ⟨rfl,⟨h2,c,h4,-⟩,hg,ha⟩ h9;obtain⟨z,hz,-,I⟩:=ah D;have J:j<(l.map ci).length:=by simpa using D
  have K:(l.map ci)[j]?=some (ci z):=by rw[Zy,hz];rfl
  have bad2:¬AQ n vn z->B_ n e vn l=2:=λh=>Bh hn λh2=>h (h2.2 z I)
  by_cases c1:z<0
  ·have:=bad2 λh=>by have:=h.1;omega
   simp only[sz,simprocAttr,h2,c,h4,h9,hg,rx,J,K,ci,c1,this]
  ·by_cases c2:nd.Z5<=z
   ·have:=bad2 λh=>by have:=h.2;rw[Ya,f]at this;omega
    simp only[sz,simprocAttr,h2,c,h4,h9,hg,rx,L,hlt,q1,r,J,K,ci,c1,c2,this]
   ·simp only[sz,simprocAttr,h2,c,h4,h9,hg,rx,L,hlt,q1,r,J,K,ci,c1,c2];refine⟨by simp[St,sx,h2,c,h4],λi hi z' a=>?_⟩
    by_cases e:i=j
    ·subst e;rw[hz]at a;injection a with a;subst a;exact⟨by omega,by rw[Ya,f];omega⟩
    ·exact ha i (by omega) z' a
 ·rintro t df g ⟨rfl,-,-,ha⟩;have:=Ol (l:=l) hn F λz hz=>by obtain⟨i,hi⟩:=QG hz;exact ha i (tI.1 hi).1 z hi
  simp only[sz,simprocAttr,vZ,this]
structure GvJ (g0:G) (q:Nat) (s:Int) (h:H):Prop where
 fr:∀i,i<g0.nx->i≠q->h.get i=g0.h.get i
 hq:h.get q=Z4 1 [[Z_ s]]
structure ND where
 c:Nat->Int
 P:Nat->List Int
 m:Nat->Nat
 R:Nat->Nat->List Int
 o:Nat->Nat
def LN(n:Nat)(D:ND):Ky->Prop:=λk=>k=(0,0)\/∃i q,k=(i+1,q)/\i<n/\q<2+D.o i
theorem LN.z{n:Nat}{D:ND}:LN n D (0,0):=.inl rfl
theorem LN.s{n:Nat}{D:ND}{q:Nat}(h:i<n)(hq:q<2+D.o i):LN n D (i+1,q):=.inr ⟨i,q,rfl,h,hq⟩
theorem LN.p{n:Nat}{D:ND}(h:i<n):LN n D (i+1,0):=LN.s h (by omega)
theorem LN.r{n:Nat}{D:ND}{i:Nat}(h:i<n):LN n D (i+1,1):=LN.s h (by omega)
def iQ(D:ND)(V:Ky->AV)(i:Nat):List AV:=[Z_ (D.c i),V (i+1,0),V (i+1,1)]
def Ny(V:Ky->AV)(i r:Nat):List AV:=[V (i+1,2+r)]
structure BN (K n:Nat) (V:Ky->AV) (E:Ky->En) (D:ND):Prop where
 ns:E (0,0)=.sl 3 ((List.range n).map (iQ D V))
 ps:∀i,i<n->E (i+1,0)=.sl 1 ((D.P i).map ci)/\(D.P i).length<=K
 rs:∀i,i<n->E (i+1,1)=.sl 1 ((List.range (D.m i)).map (Ny V i))/\D.m i<=K
 rr:∀i r,i<n->r<D.m i->(D.R i r).length<=K/\((r<D.o i/\E (i+1,2+r)=.sl 1 ((D.R i r).map ci))\/ZT ZX 0 .nil (D.R i r) (V (i+1,2+r)))
def ND.node(D:ND)(i:Nat):Node:=⟨D.c i,D.P i,(List.range (D.m i)).map (D.R i)⟩
theorem yQ{b:Nat}{v:AV}{P:Nat->Prop}(h:Own g b v 1 (l.map ci))(hl:l.length<2^63)(hp:∀i,b<=i->P i):ZT P 0 g.h l v :=Own.sl (α:=Int) h hl (Y7 (λa=>ay.2 rfl) _) λi hi=>hp i (h.lt hi).1
theorem BN.rows{b n:Nat}{E:Ky->En}{D:ND}{L:Ky->Prop}(hB:BN K n V E D)(hH:Hp g b L V E)(hL:∀k,LN n D k->L k)(hK:K<=1000000)(hi:i<n):ZT (λj=>b<=j) 0 g.h ((List.range (D.m i)).map (D.R i)) (V (i+1,1)):=by
 obtain⟨h1,h2⟩:=hB.rs i hi;have ho:=hH.own (hL _ (LN.r hi)) h1;refine Own.sl (α:=List Int) ho (by simp;omega) (BM λr hr=>?_) λj hj=>(ho.lt hj).1;have hr:=Q9.1 hr;obtain⟨h4,h3⟩:=hB.rr i r hi hr;rcases h3 with⟨h5,h3⟩|h3
 ·exact dW.2 ⟨_,rfl,yQ (hH.own (hL _ (LN.s hi (by omega))) h3) (by omega) λ_ h=>h⟩
 ·exact dW.2 ⟨_,rfl,(h3.tree (h':=g.h) (ZV 0)).wd λ_ h=>h.elim⟩
theorem Hp.off{κ:Type} [DecidableEq κ]{b:Nat}{L:κ->Prop}{V:κ->AV}{E:κ->En}{k:κ}{x:AV}(h:Hp g b L V E)(hk:¬L k):Hp g b L (ups V k x) E:=by have ne:∀j,L j->j≠k:=λj hj e=>hk (by rw[<-e];exact hj);exact⟨λj hj=>by rw[ac (ne j hj)];exact h.ok j hj,λj l hj hl hne id=>by rw[ac (ne j hj),ac (ne l hl)];exact h.sep j l hj hl hne id,h.nx⟩
theorem BN.pars{b n:Nat}{E:Ky->En}{D:ND}{L:Ky->Prop}(hB:BN K n V E D)(hH:Hp g b L V E)(hL:∀k,LN n D k->L k)(hK:K<=1000000)(hi:i<n):ZT (λj=>b<=j) 0 g.h (D.P i) (V (i+1,0)):=by obtain⟨h1,h2⟩:=hB.ps i hi;exact yQ (hH.own (hL _ (LN.p hi)) h1) (by omega) λ_ h=>h
theorem BN.Z7{b n:Nat}{E:Ky->En}{D:ND}{L:Ky->Prop}(hB:BN K n V E D)(hH:Hp g b L V E)(hL:∀k,LN n D k->L k)(hK:K<=1000000)(hn:n<=1000000):ZT (λj=>b<=j) 0 g.h ((List.range n).map D.node) (V (0,0)):=by have ho:=hH.own (hL _ LN.z) hB.ns;refine Own.sl (α:=Node) ho (by simp;omega) (BM λi hi=>?_) λj hj=>(ho.lt hj).1;have hi:=Q9.1 hi;exact cM.2 ⟨_,_,rfl,hB.pars hH hL hK hi,hB.rows hH hL hK hi⟩
theorem sE{α:Type}(f:Nat->α){n:Nat}(x:α)(hi:i<n):((List.range n).map f).set i x=(List.range n).map (ups f i x):=by
 refine adG (by simp) λj h1 h2=>?_;rw[aeU]
 by_cases e:i=j
 ·subst e;simp[au]
 ·rw[ZF e];simp[ac (Vw e)]
theorem i_{α:Type}(f:Nat->α){n:Nat}(hi:i<n):((List.range n).map f)[i]?=some (f i):=by simp[hi]
theorem Ga{D D':ND}{V':Ky->AV}{n:Nat}{row:List AV}(h0:row=iQ D' V' i)(h:∀j,j<n->j≠i->iQ D V j=iQ D' V' j):(List.range n).map (ups (iQ D V) i row)=(List.range n).map (iQ D' V'):=by
 refine Sc λj k=>?_;have k:=Q9.1 k
 by_cases e:j=i
 ·subst e;rw[au,h0]
 ·rw[ac e,h j k e]
section
variable {X:List Int}{C:Nat}
def UO(gr c:Int)(l:List Int):Prop:=(l.length:Int)=c/\(∀y∈l,0<=y/\y<=gr)/\l.sum=gr
def bm_(gr:Int)(C:Nat):VS:=λP k h v=>∃l:List Int,(l.length=C/\UO gr C l)/\One l P k h v
def GV(gr s x:Int):Int:=gr*x / s
theorem Pc(gr s:Int):GV gr s 0=0:=by simp[GV]
theorem Nx{gr s:Int}(hs:0<=s)(hg:0<=gr):∀l:List Int,(∀x∈l,0<=x/\x<=s)->0<=(l.map (GV gr s)).sum/\(l.map (GV gr s)).sum*s<=gr*l.sum
 |[],_=>by simp
 | x::l,h=>by
  have ih:=Nx hs hg l λy hy=>h y (ada _ hy);have hx:=h x (ado ..);have h1:0<=GV gr s x:=aeq (Vl hg hx.1) hs;have h2:GV gr s x*s<=gr*x:=by
   by_cases e:s=0
   ·have:x=0:=by omega
    subst this;simp[GV,e]
   ·exact Int.ediv_mul_le _ e
  simp only[Qv,TE];refine⟨by omega,?_⟩;rw[Wk,aem];omega
theorem Ef:∀(l:List Int),(∀x∈l,0<=x)->0<=l.sum/\∀x∈l,x<=l.sum
 |[],_=>by simp
 | a::l,h=>by
  have ih:=Ef l λy hy=>h y (ada _ hy);have ha:=h a (ado ..);simp only[TE];refine⟨by omega,λx hx=>?_⟩;rcases Y0.1 hx with rfl|hx
  ·omega
  ·have:=ih.2 x hx;omega
theorem Pq:∀(l:List Int) (i:Nat) (x y:Int),l[i]?=some x->(l.set i y).sum=l.sum - x+y
 |[],i,x,y,h=>by simp at h
 | a::l,0,x,y,h=>by simp at h;subst h;simp only[Va,TE];omega
 | a::l,i+1,x,y,h=>by rw[adL,TE,TE,Pq l i x y (by simpa using h)];omega
theorem bm9{s:Int}{la:Nat}(hg:0<=gr)(hX:∀x∈X,0<=x/\x<=s)(hs:s=X.sum)(hla:la<X.length){x:Int}(hx:(X.map (GV gr s))[la]?=some x):UO gr X.length ((X.map (GV gr s)).set la (x+(gr - (X.map (GV gr s)).sum)))/\0<=x+(gr - (X.map (GV gr s)).sum)/\x+(gr - (X.map (GV gr s)).sum)<=gr:=by
 have b:0<=s:=by rw[hs];exact (Ef X λx hx=>(hX x hx).1).1
 have hq:=Nx b hg X hX;have d:(X.map (GV gr s)).sum<=gr:=by
  by_cases e:s=0
  ·have h0:∀x∈X,x=0:=λx hx=>by have:=hX x hx;omega
   have:X.map (GV gr s)=List.replicate X.length 0:=by rw[List.eq_replicate_iff];refine⟨by simp,λy hy=>?_⟩;obtain⟨z,hz,rfl⟩:=YY.1 hy;rw[h0 z hz,Pc]
   rw[this];have:∀n:Nat,(List.replicate n (0:Int)).sum=0:=λn=>by induction n with
    |zero=>rfl
    |succ n ih=>rw[VZ,TE,ih];rfl
   rw[this];exact hg
  ·have h1:=hq.2;rw[<-hs]at h1;exact Int.le_of_mul_le_mul_right h1 (by omega)
 have c:∀y∈X.map (GV gr s),0<=y:=λy hy=>by obtain⟨z,hz,rfl⟩:=YY.1 hy;exact aeq (Vl hg (hX z hz).1) b
 have f:=c x (YH hx);have k:((X.map (GV gr s)).set la (x+(gr - (X.map (GV gr s)).sum))).sum=gr:=by rw[Pq _ _ _ _ hx];omega
 have a:∀y∈(X.map (GV gr s)).set la (x+(gr - (X.map (GV gr s)).sum)),0<=y:=λy hy=>by
  rcases adv hy with h|rfl
  ·exact c y h
  ·omega
 have hb:=Ef _ a;rw[k]at hb;refine⟨⟨by simp,λy hy=>⟨a y hy,hb.2 y hy⟩,k⟩,by omega,hb.2 _ ?_⟩;exact List.mem_set (by simpa using hla) _
structure Rw1 (gr:Int) (nv u:AV) (C F j:Nat) (t:T) (g:G):Prop where
 st:St t [(0,Z_ gr),(1,Z_ (C:Int)),(2,nv),(3,Z_ (F:Int)),(9,u)]
 hX:∃(X:List Int) (s:Int),ZY t 10=Z_ s/\X.length=C/\Own g 0 u 1 (X.map ci)/\(∀x∈X,0<=x/\x<=7)/\s=(X.take j).sum/\0<=s/\s<=7*j
theorem bm8[Z0]{F:Nat}{nv:AV}{l:List UInt8}(hC:C<=3)(hF:F<=1000)(hl:ZT ZX kk .nil l nv)(h0:Rw1 gr nv u C F 0 t g)(h11:ZY t 11=Z_ 0)
  (fin:∀t g,Rw1 gr nv u C F C t g->Q (.exit 0) t [] g):Uk (wp C0 d none qb) Q t [] g:=by
 obtain⟨nr,I,r2,r3,r4⟩:=hl.all;have I:∀h',ak h' 1 nv=some nr:=I;have W:=hl.1;have ll:=hl.len;simp only[qb,xC];refine bh C (by omega) (λj t df g=>df=[]/\Rw1 gr nv u C F j t g) ⟨rfl,h0⟩ h11 (by decide) ?_ ?_ ?_ ?_
 ·rintro j t df g v s (rfl|rfl|rfl) ⟨a1,⟨b1,b2,N,O,R,-⟩,X,s',c1,U⟩<;>exact⟨a1,by simp[St,sx,b1,b2,N,O,R],X,s',by simp[sx,c1],U⟩
 ·rintro j t df g V ⟨rfl,⟨h0,h1,h2,c,h9,-⟩,X,s,k,hX⟩ h11;simp only[sz,simprocAttr,h11,h1];exact⟨by simp[St,sx,h0,h1,h2,c,h9],X,s,by simp[sx,k],hX⟩
 ·rintro j t df g V ⟨rfl,⟨h0,h1,h2,c,h9,-⟩,X,s,k,w,hX,q,D,Y,Z⟩ h11;refine gv (P:=λt' df g'=>df=[]/\∃(X':List Int) (x':Int),St t' [(0,Z_ gr),(1,Z_ (C:Int)),(2,nv),(3,Z_ (F:Int)),(9,u),(10,Z_ s),(11,Z_ (j:Int))]/\X'.length=C/\Own g' 0 u 1 (X'.map ci)/\(∀x∈X',0<=x/\x<=7)/\X'[j]?=some x'/\∀i,i≠j->X'[i]?=X[i]?) ?_ ?_
  ·have r:X[j]?=some X[j]:=Zq (by omega);simp only[sz,simprocAttr,h2,ll];refine ba (λhb=>?_) (λhb=>?_)
   ·have hb:0<l.length:=by simpa using hb
    have w1:IntKind.wrap .i64 ((F:Int)+(j:Int))=((F+j:Nat):Int):=by rw[aq];simp
    have q1:=Ej (x:=F+j) (y:=l.length) hb;have m:=US (F+j) hb;generalize (F+j) % l.length=a at q1 m;obtain⟨y,hy,-,-⟩:=ah (l:=l) (j:=a) m;obtain⟨row,M,z2⟩:=r3 a y hy;rw[fK.1 z2]at M;have hlt:a<nr.length:=by omega
    have q2:=gC .u8 (a:=(y.toNat:Int)) (b:=8) (by omega) (by omega);have E:0<=(y.toNat:Int) % 8:=adN _ (by decide);have H:(y.toNat:Int) % 8<8:=adK _ (by decide);have L:IntKind.wrap .i64 ((y.toNat:Int) % 8)=(y.toNat:Int) % 8:=aq;generalize (y.toNat:Int) % 8=z at q2 E H L;have J:j<(X.map ci).length:=by simp;omega
    have K:(X.map ci)[j]?=some (ci X[j]):=by rw[Zy,r];rfl
    have rX:=hX.rows;simp only[sz,simprocAttr,h2,c,h9,h11,ll,w1,q1,I,hlt,M,q2,L,rX,J];refine bZ (v:=u) (sz:=1) (n:=1) (i:=j) (off:=0) (x:=Z_ z) (row':=ci z) hX K rfl rfl rfl λg4 hu4 n4 f4=>?_;rw[<-MO]at hu4;simp only[sx,sy];refine⟨X.set j z,z,by simp[St,sx,h0,h1,h2,c,h9,k,h11],by simp[w],hu4,λx hx=>?_,by rw[J5 (by omega)],λi hi=>by rw[TS (Vw hi)]⟩;rcases adv hx with h|rfl
    ·exact q x h
    ·omega
   ·simp only[sx,sy];exact⟨X,X[j],by simp[St,sx,h0,h1,h2,c,h9,k,h11],w,hX,q,r,λ_ _=>rfl⟩
  clear h0 h1 h2 c h9 k h11 hX;rintro t df g ⟨rfl,X',x',⟨h0,h1,h2,c,h9,k,h11,-⟩,A,p,f,o,B⟩;have J:j<(X'.map ci).length:=by simp;omega
  have K:(X'.map ci)[j]?=some (ci x'):=by rw[Zy,o];rfl
  have rX:=p.rows;have h4:=f x' (YH o);have w1:IntKind.wrap .i64 (s+x')=s+x':=aq;simp only[sz,simprocAttr,xB,k,h9,h11,rX,J,K,ci,w1];have ht:X'.take j=X.take j:=aeN λi=>by
   by_cases e:i<j
   ·rw[X5 e,X5 e,B i (by omega)]
   ·rw[VV (by simp;omega),VV (by simp;omega)]
  refine⟨by simp[St,sx,h0,h1,h2,c,h9],X',s+x',by simp[sx],A,p,f,?_,by omega,by omega⟩;rw[NA,o,ht,ae7,<-D];simp
 ·rintro t df g ⟨rfl,h⟩;exact fin t g h
structure Rw2 (gr s:Int) (u:AV) (C:Nat) (X:List Int) (j:Nat) (t:T) (g:G):Prop where
 st:St t [(0,Z_ gr),(1,Z_ (C:Int)),(9,u),(10,Z_ s)]
 hX:∃(la:Nat),ZY t 12=Z_ (gr - ((X.take j).map (GV gr s)).sum)/\ZY t 13=Z_ (la:Int)/\la<C/\Own g 0 u 1 (((X.take j).map (GV gr s)++X.drop j).map ci)
theorem bm7{s:Int}(h:j<X.length):((X.take j).map (GV gr s)++X.drop j).set j (GV gr s X[j])=(X.take (j+1)).map (GV gr s)++X.drop (j+1):=by
 have hl:((X.take j).map (GV gr s)).length=j:=by simp;omega
 rw[X0 _ _ (by omega),hl,Yp,Tg h,Va,acV h,K0,acq]
 rfl
theorem bm6[Z0]{s:Int}(hC:C<=3)(hg:0<=gr/\gr<=60)(hXl:X.length=C)(hXb:∀x∈X,0<=x/\x<=7/\x<=s)(h0:Rw2 gr s u C X 0 t g)(h14:ZY t 14=Z_ 0)
  (fin:∀t g,Rw2 gr s u C X C t g->Q (.exit 2) t [] g):Uk (wp C0 d none qc) Q t [] g:=by
 simp only[qc,xE];refine bh C (by omega) (λj t df g=>df=[]/\Rw2 gr s u C X j t g) ⟨rfl,h0⟩ h14 (by decide) ?_ ?_ ?_ ?_
 ·rintro j t df g v s (rfl|rfl|rfl) ⟨a1,⟨b1,b2,O,R,-⟩,la,c1,L,U⟩<;>exact⟨a1,by simp[St,sx,b1,b2,O,R],la,by simp[sx,c1],by simp[sx,L],U⟩
 ·rintro j t df g I ⟨rfl,⟨h0,h1,h9,k,-⟩,la,c,f,hX⟩ h14;simp only[sz,simprocAttr,h14,h1];exact⟨by simp[St,sx,h0,h1,h9,k],la,by simp[sx,c],by simp[sx,f],hX⟩
 ·rintro j t df g I ⟨rfl,⟨h0,h1,h9,k,-⟩,la,c,f,o,hX⟩ h14;have m:j<X.length:=by omega
  obtain⟨K,b1,b2⟩:=hXb X[j] (E_ m);have F:((X.take j).map (GV gr s)++X.drop j).length=C:=by simp;omega
  have w:((X.take j).map (GV gr s)++X.drop j)[j]?=some X[j]:=by rw[Sl (by simp;omega)];simp[show min j X.length=j by omega,m]
  have E:j<(((X.take j).map (GV gr s)++X.drop j).map ci).length:=by rw[Ju,F];exact I
  have q:(((X.take j).map (GV gr s)++X.drop j).map ci)[j]?=some (ci X[j]):=by rw[Zy,w];rfl
  have rX:=hX.rows;have H:0<=gr*X[j]:=Vl hg.1 K;have M:gr*X[j]<=60*7:=aeD hg.2 b1 K (by decide);have p:=bm7 (gr:=gr) (s:=s) m;have D:(X.take (j+1)).map (GV gr s)=(X.take j).map (GV gr s)++[GV gr s X[j]]:=by rw[acV m,K0];rfl
  have Y:=Nx (gr:=gr) (s:=s) (by omega) hg.1 (X.take j) λy hy=>by have:=hXb y (Xp hy);omega
  have B:∀x∈X,0<=GV gr s x/\GV gr s x<=420:=λx hx=>by obtain⟨c0,c1,L⟩:=hXb x hx;have h1:0<=gr*x:=Vl hg.1 c0;have h2:gr*x<=60*7:=aeD hg.2 c1 c0 (by decide);refine⟨aeq h1 (by omega),?_⟩;have:=Int.ediv_le_self (b:=s) h1;unfold GV;omega
  have J:∀l:List Int,(∀x∈l,x∈X)->(l.map (GV gr s)).sum<=420*l.length:=λl=>by
   induction l with
   |nil=>intro _;simp
   | cons a l ih =>
    intro h;have h1:=B a (h a (ado ..));have h2:=ih λy hy=>h y (ada _ hy);simp only[Qv,TE,V8]
    push_cast
    omega
  have W:=J (X.take j) λx hx=>Xp hx;have N:(X.take j).length<=3:=by simp;omega
  have V:=B X[j] (E_ m);refine gv (P:=λt' df g'=>df=[]/\∃(la':Nat),St t' [(0,Z_ gr),(1,Z_ (C:Int)),(9,u),(10,Z_ s),(12,Z_ (gr - ((X.take j).map (GV gr s)).sum)),(13,Z_ (la':Int)),(14,Z_ (j:Int))]/\la'<C/\Own g' 0 u 1 (((X.take (j+1)).map (GV gr s)++X.drop (j+1)).map ci)) ?_ ?_
  ·simp only[sz,simprocAttr,h9,h14,rX,E,q,ci];refine ba (λhb=>?_) (λhb=>?_)
   ·have hb:0<X[j]:=by simpa using hb
    have w1:IntKind.wrap .i64 (gr*X[j])=gr*X[j]:=aq;have q1:bN .quo (Z_ (gr*X[j])) (Z_ s)=.val (Z_ (GV gr s X[j])):=AK (x:=gr*X[j]) (y:=s) H (by omega) (by omega);simp only[sz,simprocAttr,h0,h9,k,h14,rX,E,q,ci,w1,q1];refine bZ (v:=u) (sz:=1) (n:=1) (i:=j) (off:=0) (x:=Z_ (GV gr s X[j])) (row':=ci (GV gr s X[j])) hX q rfl rfl rfl λg4 hu4 n4 f4=>?_;rw[<-MO,p]at hu4;simp only[sz,simprocAttr,h14];exact⟨j,by simp[St,sx,h0,h1,h9,k,c,h14],by omega,hu4⟩
   ·have hb:X[j]=0:=by
     have:¬0<X[j]:=by simpa using hb
     omega
    simp only[sx,sy];refine⟨la,by simp[St,sx,h0,h1,h9,k,c,f,h14],o,?_⟩;rw[<-p,hb,Pc,<-hb];have:((X.take j).map (GV gr s)++X.drop j).set j X[j]=(X.take j).map (GV gr s)++X.drop j:=by
     refine aeN λi=>?_
     by_cases e:j=i
     ·subst e;rw[J5 (by omega),w]
     ·rw[TS e]
    rw[this];exact hX
  clear h0 h1 h9 k c f h14 hX rX o E q;rintro t df g ⟨rfl,la',⟨h0,h1,h9,k,c,f,h14,-⟩,o,r⟩;have A:((X.take (j+1)).map (GV gr s)++X.drop (j+1)).length=C:=by simp;omega
  have z:((X.take (j+1)).map (GV gr s)++X.drop (j+1))[j]?=some (GV gr s X[j]):=by rw[QJ (by simp;omega),D,Sl (by simp;omega)];simp[show min j X.length=j by omega]
  have E:j<(((X.take (j+1)).map (GV gr s)++X.drop (j+1)).map ci).length:=by rw[Ju,A];exact I
  have q:(((X.take (j+1)).map (GV gr s)++X.drop (j+1)).map ci)[j]?=some (ci (GV gr s X[j])):=by rw[Zy,z];rfl
  have rX:=r.rows;have w1:IntKind.wrap .i64 (gr - ((X.take j).map (GV gr s)).sum - GV gr s X[j])=gr - ((X.take (j+1)).map (GV gr s)).sum:=by rw[D,ae7,aq];simp;omega
  simp only[sz,simprocAttr,xD,c,h9,h14,rX,E,q,ci,w1];exact⟨by simp[St,sx,h0,h1,h9,k],la',by simp[sx],by simp[sx,f],o,r⟩
 ·rintro t df g ⟨rfl,h⟩;exact fin t g h
theorem bm5[Z0]{F:Nat}{nv:AV}{l:List UInt8}(hd:0<d)(hC:1<=C/\C<=3)(hF:F<=1000)(hg:0<=gr/\gr<=60)(hl:ZT ZX kk .nil l nv) :
  ∃r,ae C0 d 32 [Z_ gr,Z_ (C:Int),nv,Z_ (F:Int)] g=.val r/\bm_ gr C ZX 0 .nil r:=by
 rw[Zn];refine aI Jm (xs:=[Z_ gr,Z_ (C:Int),nv,Z_ (F:Int)]) (by simp only[aD,oZ d (hl.tree (h':=g.h) (ZV _)),aU 0]) (by simp[xA]) (o7 λo=>aE _) (by decide) hd ?_;simp only[sz,simprocAttr,xA];refine rf (b:=0) (n:=C) (by unfold aQ;omega) (by unfold aQ;omega) (Jq _) λu g1 hu n1 f1 vu=>?_;simp only[sz,simprocAttr];refine bm8 (gr:=gr) (nv:=nv) (u:=u) (C:=C) (F:=F) hC.2 hF hl ⟨by simp[St,sx],List.replicate C 0,0,by simp[sx],by simp,by simpa [ci] using hu,λx hx=>by rw[(adp.1 hx).2];decide,by simp,by omega,by omega⟩ (by simp[sx]) ?_;rintro t g2 ⟨⟨h0,h1,h2,q,h9,-⟩,X,s,c,e,hX,k,a,y,z⟩;rw[U8 (by omega)]at a;have j:=Ef X λx hx=>(k x hx).1;simp only[sz,simprocAttr,xG,h0];refine bm6 (gr:=gr) (s:=s) (u:=u) (C:=C) (X:=X) hC.2 hg e (λx hx=>⟨(k x hx).1,(k x hx).2,by rw[a];exact j.2 x hx⟩) ⟨by simp[St,sx,h0,h1,h9,c],0,by simp[sx],by simp[sx],by omega,by simpa using hX⟩ (by simp[sx]) ?_;clear h0 h1 h2 q h9 c hX;rintro t g3 ⟨⟨h0,h1,h9,c,-⟩,la,f,m,w,hX⟩;rw[U8 (by omega)]at f hX;rw[List.drop_eq_nil_of_le (by omega),VM]at hX;obtain⟨x,hx⟩:∃x,(X.map (GV gr s))[la]?=some x:=⟨_,Zq (by simp;omega)⟩;obtain⟨f1,f2,B⟩:=bm9 (gr:=gr) (s:=s) (X:=X) (la:=la) hg.1 (λx hx=>⟨(k x hx).1,by rw[a];exact j.2 x hx⟩) a (by omega) hx;have A:la<((X.map (GV gr s)).map ci).length:=by simp;omega
 have p:((X.map (GV gr s)).map ci)[la]?=some (ci x):=by rw[Zy,hx];rfl
 have rX:=hX.rows;have w1:IntKind.wrap .i64 (x+(gr - (X.map (GV gr s)).sum))=x+(gr - (X.map (GV gr s)).sum):=aq;simp only[sz,simprocAttr,xF,h9,m,f,rX,A,p,ci,w1];refine bZ (v:=u) (sz:=1) (n:=1) (i:=la) (off:=0) (x:=Z_ (x+(gr - (X.map (GV gr s)).sum))) (row':=ci (x+(gr - (X.map (GV gr s)).sum))) hX p rfl rfl rfl λg4 hu4 n4 f4=>?_;rw[<-MO]at hu4;simp only[sz,simprocAttr,h9];exact⟨λ_=>True,_,⟨by simp[e],by rw[<-e];exact f1⟩,hu4.ints (by simp;omega)⟩
end
theorem Gj(os:List UInt8):∀k,(Cc os k).Perm ((List.range k).map λi:Nat=>(i:Int))
 |0=>.refl _
 | k+1=>by rw[Ri,K0,Cc];refine List.perm_middle.trans ?_;rw[IV];exact ((Gj os k).cons _).trans (List.perm_append_comm (l₁:=[(k:Int)]))
structure U6 (n:Nat) (pl:List Int) (num:Nat->Nat):Prop where
 len:pl.length=n
 at_:∀k,k<n->pl[k]?=some (num k:Int)
 lt:∀k,k<n->num k<n
 inj:∀i j,i<n->j<n->num i=num j->i=j
 sur:∀u,u<n->∃k,k<n/\num k=u
theorem bm4(os:List UInt8)(n:Nat):∃num,U6 n (Cc os n) num:=by
 have hp:=Gj os n;have hl:=ub os n;have f:∀x∈Cc os n,∃i:Nat,i<n/\x=(i:Int):=λx hx=>by have:=hp.mem_iff.1 hx;obtain⟨i,hi,rfl⟩:=YY.1 this;exact⟨i,Q9.1 hi,rfl⟩
 have l:(Cc os n).Nodup:=by rw[hp.nodup_iff];refine List.Pairwise.map _ ?_ (aeV (n:=n));intro a b h e;exact h (by omega)
 have c:∀k,k<n->(Cc os n)[k]?=some (((Cc os n)[k]?.getD 0).toNat:Int)/\((Cc os n)[k]?.getD 0).toNat<n:=λk hk=>by
  have d:k<(Cc os n).length:=by omega
  have e:=Zq d;obtain⟨i,hi,h⟩:=f _ (E_ d);rw[e,Ns,h];simp[hi]
 refine⟨λk=>((Cc os n)[k]?.getD 0).toNat,hl,λk hk=>(c k hk).1,λk hk=>(c k hk).2,λi j hi hj h=>?_,λu hu=>?_⟩
 ·have h1:=(c i hi).1;have h2:=(c j hj).1;refine (afw (by omega) l).1 ?_;rw[h1,h2];exact congrArg (λx:Nat=>some (x:Int)) h
 ·have:(u:Int)∈Cc os n:=hp.mem_iff.2 (YY.2 ⟨u,Q9.2 hu,rfl⟩);obtain⟨k,hk,he⟩:=QX.1 this;refine⟨k,by omega,?_⟩;rw[Zq hk,he];rfl
theorem bm3(m n:Nat):∃z:Int,bN .shl (Z_ (m:Int)) (ZW (n:Int))=.val (Z_ z):=⟨_,rfl⟩
def Qc(X:Ky->Prop)(n:Nat)(D:ND):Ky->Prop:=λk=>LN n D k\/X k
def X1:Ky->Prop:=λk=>k=(0,1)
def X2:Ky->Prop:=λk=>k=(0,1)\/k=(0,2)
structure DN (X:Ky->Prop) (r0:List AV) (n q K:Nat) (gr:Int) (V:Ky->AV) (E:Ky->En) (D:ND) (g:G):Prop where
 hp:Hp g 2 (Qc X n D) V E
 bn:BN K n V E D
 vb:V (0,1)=ZZ q
 bx:E (0,1)=.bx [Z_ gr,V (0,0)]
 h0:g.h.get 0=Z4 3 [r0]
 h1:g.h.get 1=Z4 2 [[Z_ 0,.Z6]]
theorem DN.q{X:Ky->Prop}{r0:List AV}{n q K:Nat}{gr:Int}{V:Ky->AV}{E:Ky->En}{D:ND}{g:G}(h:DN X r0 n q K gr V E D g)(hX:X (0,1)):g.h.get q=Z4 2 [[Z_ gr,V (0,0)]]/\2<=q/\q<g.nx:=by obtain⟨id,h1,h2,a,h4⟩:=h.hp.box (k:=(0,1)) (.inr hX) h.bx;rw[h.vb]at a;injection a with a;subst a;exact⟨h4,h1,h2⟩
theorem DN.ns{X:Ky->Prop}{r0:List AV}{n q K:Nat}{gr:Int}{V:Ky->AV}{E:Ky->En}{D:ND}{g:G}(h:DN X r0 n q K gr V E D g):Own g 2 (V (0,0)) 3 ((List.range n).map (iQ D V)):=h.hp.own (.inl LN.z) h.bn.ns
theorem DN.same{X:Ky->Prop}{n q:Nat}{E:Ky->En}{D:ND}{g':G}(h:DN X r0 n q K gr V E D g)(hf:Fr g g'):DN X r0 n q K gr V E D g':=by have:=h.hp.nx;exact⟨h.hp.step hf.1 λi _ hi=>hf.2 i hi,h.bn,h.vb,h.bx,by rw[hf.2 0 (by omega),h.h0],by rw[hf.2 1 (by omega),h.h1]⟩
theorem ib{b:Nat}{v:AV}{sz:Nat}{rows:List (List AV)}(h:Own g b v sz rows)(hr:0<rows.length):nq v=true:=by
 rcases h with⟨rfl,rfl⟩|⟨id,ep,lo,-,-,rfl,-⟩
 ·simp at hr
 ·rfl
theorem DN.Z5{X:Ky->Prop}{n q:Nat}{c:Int}{E:Ky->En}{D:ND}{KK:AV->G->Prop}{DD:ZU->Prop}(h:DN X r0 n q K gr V E D g)(hi:i<n)(hX:∀k,X k->k≠(0,0))
  (kk:∀g' E',DN X r0 n q K gr V E' { D with c:=ups D.c i c } g'->g'.nx=g.nx->KK .undef g'):(qA 1 (mA 3 (V (0,0)) i 0) (Z_ c) g).sat KK g DD:=by
 refine h.hp.put (k:=(0,0)) (row:=iQ D V i) (row':=[Z_ c,V (i+1,0),V (i+1,1)]) (.inl LN.z) h.bn.ns (i_ _ hi) rfl rfl rfl λg' hH hn hf1 hf2=>?_;refine kk g' _ ⟨hH.sub λk hk=>hk,⟨?_,λj hj=>?_,λj hj=>?_,λj r hj hr=>?_⟩,h.vb,?_,by rw[hf1 0 (by omega),h.h0],by rw[hf1 1 (by omega),h.h1]⟩ hn
 ·rw[au,sE _ _ hi];congr 1;refine Ga (by simp[iQ,au]) λj hj hne=>by simp[iQ,ac hne]
 ·rw[ac];exact h.bn.ps j hj
 ·rw[ac];exact h.bn.rs j hj
 ·rw[ac];exact h.bn.rr j r hj hr
 ·rw[ac];exact h.bx
structure DAok (D:ND) (n i:Nat) (num:Nat->Nat):Prop where
 e:∀v,v<n->D.P v=[]/\D.m v=0
 c:∀k,k<i->D.c (num k)=2\/D.c (num k)=3
 o:∀u,D.o u=0
def YV(n q:Nat)(r5:AV):List (Nat×AV):=[(1,ZZ 0),(2,ZZ 1),(3,Z_ (n:Int)),(4,ZZ q),(5,r5)]
structure DA (r0:List AV) (n q:Nat) (gr:Int) (r5:AV) (num:Nat->Nat) (i:Nat) (t:T) (g:G):Prop where
 st:St t (YV n q r5)
 w:∃w:Nat,ZY t 6=Z_ (w:Int)/\w<=3 ^ i
 hd:∃V E D,DN X1 r0 n q 1000 gr V E D g/\DAok D n i num
theorem bm2(h:i<=5):3 ^ i<=243:=by
 have:i=0\/i=1\/i=2\/i=3\/i=4\/i=5:=by omega
 rcases this with rfl|rfl|rfl|rfl|rfl|rfl<;>decide
theorem bm1[Z0]{n q:Nat}{x:BJ}{a b:AV}{num:Nat->Nat}(hn:1<=n/\n<=5)(ha:ZT ZX kk .nil x.2.1 a)(h5:IT 0 pl r5)(hN:U6 n pl num)
  (h0:DA [Zt x.1,a,b] n q gr r5 num 0 t g) (h7:ZY t 7=Z_ 0)
  (fin:∀t g,DA [Zt x.1,a,b] n q gr r5 num n t g->Q (.exit 0) t [] g):Uk (wp C0 d none gZ) Q t [] g:=by
 obtain⟨pr,O,r2,r3,r4⟩:=ha.all;have O:∀h',ak h' 3 a=some pr:=O;have la:=ha.len;have hc:=ha.1;have R:∀h,ak h 1 r5=some (pl.map ci):=λh=>(h5.sl h).ints;simp only[gZ,mZ];refine bh n (by omega) (λj t df g=>df=[]/\DA [Zt x.1,a,b] n q gr r5 num j t g) ⟨rfl,h0⟩ h7 (by decide) ?_ ?_ ?_ ?_
 ·rintro j t df g v s (rfl|rfl|rfl) ⟨a1,⟨b1,b2,Z,b4,b5,-⟩,⟨w,c1,c2⟩,c3⟩<;>exact⟨a1,by simp[St,YV,sx,b1,b2,Z,b4,b5],⟨w,by simp[sx,c1],c2⟩,c3⟩
 ·rintro j t df g M ⟨rfl,⟨h1,h2,f,h4,h5,-⟩,⟨w,l,hw⟩,I⟩ h7;simp only[sz,simprocAttr,h7,f];exact⟨by simp[St,YV,sx,h1,h2,f,h4,h5],⟨w,by simp[sx,l],hw⟩,I⟩
 ·rintro j t df g M ⟨rfl,⟨h1,h2,f,h4,h5,-⟩,⟨w,l,hw⟩,V,E,D,I,B⟩ h7;obtain⟨u,F⟩:∃u,u=g.nx:=⟨_,rfl⟩;have he:=I.hp.nx;refine gv (P:=λt' df g'=>df=[]/\g'=g.new (Z4 3 [[.int .u8 0,.int .u8 0,.Z6]])/\St t' ((6,Z_ (w:Int))::(7,Z_ (j:Int))::(8,ZZ u)::YV n q r5)) ?_ ?_
  ·simp only[sz,simprocAttr];simp[St,YV,sx,h1,h2,f,h4,h5,l,h7,F]
  clear h1 h2 f h4 h5 l h7;rintro t df g1 ⟨rfl,r,⟨l,h7,h8,h1,h2,f,h4,h5,-⟩⟩;have f1:Fr g g1:=by rw[r];exact Fr.new _ _
  have L:g1.h.get u=Z4 3 [[.int .u8 0,.int .u8 0,.Z6]]:=by rw[r,F];simp[Za]
  have n1:u<g1.nx:=by rw[r,F];simp
  clear r;have J:=I.same f1;have e0:=J.h0;refine gv (P:=λt' df g'=>df=[]/\Fr g g'/\St t' ((6,Z_ (w:Int))::(7,Z_ (j:Int))::(8,ZZ u)::YV n q r5)/\u<g'.nx/\∃(y:UInt8) (X Y:AV),g'.h.get u=Z4 3 [[Zt y,X,Y]]) ?_ ?_
  ·simp only[sz,simprocAttr,h7,h1,e0,la];refine ba (λhb=>?_) (λhb=>?_)
   ·have hb:j<x.2.1.length:=by simpa using hb
    obtain⟨y,hy,-,-⟩:=ah hb;obtain⟨row,q1,q2⟩:=r3 j y hy;obtain⟨wv,rfl,hg⟩:=Iy.1 q2;have hlt:j<pr.length:=by omega
    have K:=r4 (by omega);simp only[sz,simprocAttr,h7,h1,e0,O,hlt,q1,h8,L];refine⟨?_,by simp[St,YV,sx,h1,h2,f,h4,h5,l,h7,h8],by simpa using n1,y.1,Zt y.2.1,wv,by simp[Za]⟩;exact⟨Y1 f1.1 (by simp),λi hi=>by simp[Za,show ¬i=u by omega];exact f1.2 i hi⟩
   ·simp only[sx,sy];exact⟨f1,by simp[St,YV,sx,h1,h2,f,h4,h5,l,h7,h8],n1,0,.int .u8 0,.Z6,L⟩
  clear h1 h2 f h4 h5 l h7 h8 e0 J L n1 f1;rintro t df g2 ⟨rfl,f2,⟨l,h7,h8,h1,h2,f,h4,h5,-⟩,n2,y,X,Y,L⟩;have p:=I.same f2;have q2:=gC .u8 (a:=(y.toNat:Int)) (b:=2) (by omega) (by omega);obtain⟨m,hm⟩:∃m:Nat,(y.toNat:Int) % 2=(m:Int):=Wu (adN _ (by decide));have hd:m<2:=by have:=adK (y.toNat:Int) (show (0:Int)<2 by decide);omega
  rw[hm]at q2;have w2:IntKind.wrap .i64 (m:Int)=(m:Int):=aq;have W:IntKind.wrap .i64 (2+(m:Int))=((2+m:Nat):Int):=by rw[aq];rfl
  have hf:=bm2 (i:=j) (by omega);have H:w*(2+m)<=243*3:=Wn (by omega) (by omega);have N:IntKind.wrap .i64 ((w:Int)*((2+m:Nat):Int))=((w*(2+m):Nat):Int):=by rw[<-QR,aq]
  have w5:IntKind.wrap .i64 ((n:Int) - 1)=((n - 1:Nat):Int):=by rw[aq];omega
  have w6:IntKind.wrap .i64 (((n - 1:Nat):Int) - (j:Int))=((n - 1 - j:Nat):Int):=by rw[aq];omega
  have w7:IntKind.wrap .u64 ((n - 1 - j:Nat):Int)=((n - 1 - j:Nat):Int):=du (by omega) (by omega);obtain⟨z,hz⟩:=bm3 (w*(2+m)) (n - 1 - j);refine gv (P:=λt' df g'=>df=[]/\g'=g2/\St t' ((6,Z_ (w:Int))::(7,Z_ (j:Int))::(9,Z_ ((2+m:Nat):Int))::YV n q r5)) ?_ ?_
  ·simp only[sz,simprocAttr,h8,L,Zt,q2,w2,W];simp[St,YV,sx,h1,h2,f,h4,h5,l,h7]
  clear h1 h2 f h4 h5 l h7 h8;rintro t df g3 ⟨rfl,rfl,⟨l,h7,h9,h1,h2,f,h4,h5,-⟩⟩;refine gv (P:=λt' df g'=>df=[]/\g'=g3/\∃C:Nat,(C=2\/C=3)/\St t' ((6,Z_ (w:Int))::(7,Z_ (j:Int))::(9,Z_ (C:Int))::YV n q r5)) ?_ ?_
  ·simp only[sz,simprocAttr,l,h7,h9,f,N,w5,w6,w7,hz];refine ba (λhb=>?_) (λhb=>?_)
   ·simp only[sz,simprocAttr];refine⟨2,.inl rfl,?_⟩;simp[St,YV,sx,h1,h2,f,h4,h5,l,h7]
   ·simp only[sx,sy];refine⟨2+m,by omega,?_⟩;simp[St,YV,sx,h1,h2,f,h4,h5,l,h7,h9]
  clear h1 h2 f h4 h5 l h7 h9 H N hz W;rintro t df g4 ⟨rfl,rfl,C,hC,⟨l,h7,h9,h1,h2,f,h4,h5,-⟩⟩;have H:w*C<=3 ^ j*3:=Wn hw (by omega);have U:w*C<=243*3:=Wn (by omega) (by omega);have N:IntKind.wrap .i64 ((w:Int)*(C:Int))=((w*C:Nat):Int):=by rw[<-QR,aq]
  refine gv (P:=λt' df g'=>df=[]/\g'=g4/\St t' ((6,Z_ ((w*C:Nat):Int))::(7,Z_ (j:Int))::(9,Z_ (C:Int))::YV n q r5)) ?_ ?_
  ·simp only[sz,simprocAttr,l,h9,N];simp[St,YV,sx,h1,h2,f,h4,h5,h7,h9]
  clear h1 h2 f h4 h5 l h7 h9;rintro t df g5 ⟨rfl,rfl,⟨l,h7,h9,h1,h2,f,h4,h5,-⟩⟩;obtain⟨kq,hh,hl⟩:=p.q rfl;have rns:=p.ns.rows;have K:=ib p.ns (by simp;omega);have A:=hN.lt j M;have u1:j<(pl.map ci).length:=by rw[Ju,hN.len];exact M
  have u2:(pl.map ci)[j]?=some (ci (num j:Int)):=by rw[Zy,hN.at_ j M];rfl
  have u3:num j<((List.range n).map (iQ D V)).length:=by simpa using A
  have u4:=i_ (iQ D V) A;simp only[sz,simprocAttr,sf,h4,kq,h5,h7,h9,R,u1,u2,rns,u3,K,ci];refine (p.same (g':=_) ⟨?_,?_⟩).Z5 (i:=num j) (c:=(C:Int)) A (λk hk=>by rw[hk];simp) λg6 E' hD6 n6=>?_
  ·simp;omega
  ·intro i hi;simp
  simp only[sx,sy,↓reduceIte,Nat.reduceEqDiff];refine⟨?_,⟨by simp[St,YV,sx,h1,h2,f,h4,h5],⟨w*C,by simp[sx,l],by rw[Rh];exact H⟩,V,E',_,hD6.same ⟨by simp,λi _=>by simp⟩,B.e,λk hk=>?_,B.o⟩,by simp[h7]⟩
  ·simp only[I9,Nq,DI,ML];exact aK (false::(Zb (true::[]))) [] (by simp[ZL,am,aA]) (by decide) (by simp)
  ·by_cases e:num k=num j
   ·simp[e,au];omega
   ·show ups D.c (num j) (C:Int) (num k)=2\/ups D.c (num j) (C:Int) (num k)=3;rw[ac e];refine B.c k ?_;have:k≠j:=λh=>e (by rw[h]);omega
 ·rintro t df g ⟨rfl,h⟩;exact fin t g h
section
variable {D:ZU->Prop}
theorem CO{g:G}{b:Nat}{v x:AV}{sz bytes:Nat}{rows new:List (List AV)}{K:AV->G->Prop}(hv:Own g b v sz rows)(hx:ak g.h sz x=some new)(hb:b<=g.nx)
  (hr:(rows.length+new.length)*bytes<=aQ)
  (k:∀v' g',Own g' b v' sz (rows++new)->g.nx<=g'.nx->(∀i,i<g.nx->Zi v≠some i->g'.h.get i=g.h.get i)->(Zi v'=Zi v\/∃i,Zi v'=some i/\g.nx<=i)->(∀i∈g'.lg,i∈g.lg\/Zi v=some i\/g.nx<=i)->K v' g') :
  (eS sz bytes v x g).sat K g D:=by
 unfold eS;rw[hx];dsimp only;rcases hv with⟨rfl,rfl⟩|⟨id,ep,lo,h1,h2,rfl,a⟩
 ·cases new with
  |nil=>exact k _ _ (.inl ⟨rfl,rfl⟩) (ZV _) (λ_ _ _=>rfl) (.inl rfl) (λi hi=>.inl hi)
  | cons r new =>simp only[bK,ax,aa,R1];rw[ZN (by simpa using hr)];refine k _ _ (.inr ⟨g.nx,0,true,hb,by simp,rfl,by simp[aY]⟩) (by simp) (λi hi _=>?_) (.inr ⟨g.nx,rfl,ZV _⟩) (λi hi=>by simp at hi;rcases hi with rfl|hi;exact .inr (.inr (ZV _));exact .inl hi);rw[G.new_h,aF]
 ·simp only[bK,G.get_eq,a,ax,aa,show Nat.beq ep ep=true from X_ ep,show Nat.beq sz sz=true from X_ sz,U2,R1,Zk,Ku,XH,Fa];rw[ZN ⟨ZV _,hr⟩];cases new with
  | nil =>rw[ZN (by simp)];refine k _ _ (.inr ⟨id,ep,lo,h1,h2,by simp,by simpa using a⟩) (ZV _) (λ_ _ _=>rfl) (.inl rfl) (λi hi=>.inl hi)
  | cons r new =>
   rw[ZF (by simp)];have ht:iE rows.length (gN 0 rows)=rows:=by rw[bE,bu];simp
   cases lo with
   | false =>rw[ZN (by simp)];refine k _ _ (.inr ⟨g.nx,0,true,by omega,by simp,by simp,by simp[aY,ht]⟩) (by simp) (λi hi _=>?_) (.inr ⟨g.nx,rfl,ZV _⟩) (λi hi=>by simp at hi;rcases hi with rfl|hi;exact .inr (.inr (ZV _));exact .inl hi);rw[G.new_h,aF]
   | true =>rw[ZF (by simp)];refine k _ _ (.inr ⟨id,ep+1,true,h1,by simpa using h2,by simp,by simp[aY,ht]⟩) (by simp) (λi hi hne=>?_) (.inl rfl) (λi hi=>by simp at hi;rcases hi with rfl|hi;exact .inr (.inl rfl);exact .inl hi);rw[G.put_h,aF (λe=>hne (by rw[e];rfl))]
section
variable {κ:Type} [DecidableEq κ]{g:G}{b:Nat}{L:κ->Prop}{V:κ->AV}{E:κ->En}{k:κ}
theorem Hp.app2(h:Hp g b L V E)(hk:L k){sz bytes:Nat}{rows new:List (List AV)}(he:E k=.sl sz rows){x:AV}{K:AV->G->Prop}(hx:ak g.h sz x=some new)
  (hr:(rows.length+new.length)*bytes<=aQ)
  (kk:∀v' g',Hp g' b L (ups V k v') (ups E k (.sl sz (rows++new)))->g.nx<=g'.nx->(∀i,i<b->g'.h.get i=g.h.get i)->(∀i,i<g.nx->Vc (V k)≠some i->g'.h.get i=g.h.get i)->(∀i∈g'.lg,i∈g.lg\/Vc (V k)=some i\/g.nx<=i)->v'.cells=[v']->v'.isTup=false->K v' g') :
  (eS sz bytes (V k) x g).sat K g D:=by
 have ho:=h.own hk he;refine CO ho hx h.nx hr λv' g' hv' hn hf hvid hlg=>?_;refine kk v' g' (h.set hk (e':=.sl sz (rows++new)) hv' hn (λi _ hi hne=>hf i hi (by rw[<-cU ho];exact hne)) ?_) hn (λi hi=>hf i (Vd hi h.nx) λe=>by have:=(ho.lt e).1;omega)
  (λi hi hne=>hf i hi (by rw[<-cU ho];exact hne)) (λi hi=>by rw[cU ho];exact hlg i hi) hv'.cell.1 hv'.cell.2
 rw[cU hv',cU ho];exact hvid
theorem Hp.putv(h:Hp g b L V E)(hk:L k){v0:AV}(hv:V k=v0){sz n off:Nat}{rows:List (List AV)}{row row':List AV}(he:E k=.sl sz rows){x:AV}{K:AV->G->Prop}(hr:rows[i]?=some row)
  (hl:x.cells.length=n) (ht:x.isTup=false) (hp:dh row off x.cells=some row')
  (kk:∀g',Hp g' b L V (ups E k (.sl sz (rows.set i row')))->g'.nx=g.nx->(∀i,i<b->g'.h.get i=g.h.get i)->(∀i,Vc (V k)≠some i->g'.h.get i=g.h.get i)->K .undef g'):(qA n (mA sz v0 i off) x g).sat K g D:=by
 subst hv;exact h.put hk he hr hl ht hp kk
end
theorem HR(m n:Nat):∃z:Nat,bN .shr (.int .u8 (m:Int)) (ZW (n:Int))=.val (.int .u8 (z:Int)) :=⟨m / 2 ^ (Nat.min n 8),rfl⟩
theorem HQ(m n:Nat):∃z:Int,bN .and (.int .u8 (m:Int)) (.int .u8 (n:Int))=.val (.int .u8 z):=by have:∃z:Int,Op.intBits .and .u8 (.ofNat m) (.ofNat n)=.pure (.int .u8 z):=⟨_,rfl⟩;obtain⟨z,hz⟩:=this;refine⟨z,?_⟩;show RK (oJ (Op.intBits .and .u8 (.ofNat m) (.ofNat n)))=_;rw[hz];rfl
structure DB (D:ND) (n i v:Nat) (num:Nat->Nat):Prop where
 c:∀u,u<n->D.c u=2\/D.c u=3
 p:∀u,u<n->(D.P u).length<=3/\∀y∈D.P u,0<=y/\y<n
 m:∀u,u<n->D.m u<=64
 o:∀u,D.o u=0
 f:∀k,i<k->k<n->D.P (num k)=[]/\D.m (num k)=0
def vv(P0:List Int)(c0:Nat->Int):Int:=G5 (P0.map λy=>c0 y.toNat)
structure DOk (gr:Int) (D:ND) (n i:Nat) (num:Nat->Nat):Prop where
 s:∀u,u<n->(D.P u).Pairwise (·<·)
 a:∀k,k<n->∀y∈D.P (num k),∃k',k'<k/\y=(num k':Int)
 w:∀k,k<i->(D.m (num k):Int)=vv (D.P (num k)) D.c
 r:∀u r,u<n->r<D.m u->UO gr (D.c u) (D.R u r)
def Uv(n q i p v:Nat)(r5:AV):List (Nat×AV):=[(1,ZZ 0),(2,ZZ 1),(3,Z_ (n:Int)),(4,ZZ q),(5,r5),(10,Z_ (i:Int)),(11,ZZ p),(12,Z_ (v:Int))]
structure DP (r0 Xy:List AV) (n q i p v:Nat) (gr:Int) (r5:AV) (num:Nat->Nat) (g:G) (V:Ky->AV) (E:Ky->En) (D:ND):Prop where
 dn:DN X2 r0 n q 1000 gr V E D g
 pb:V (0,2)=ZZ p/\E (0,2)=.bx Xy
 db:DB D n i v num
 mv:D.m v=0
 ok:DOk gr D n i num
theorem DP.p{r0 Xy:List AV}{n q i p v:Nat}{gr:Int}{r5:AV}{num:Nat->Nat}{g:G}{V:Ky->AV}{E:Ky->En}{D:ND}(h:DP r0 Xy n q i p v gr r5 num g V E D):g.h.get p=Z4 Xy.length [Xy]/\2<=p/\p<g.nx:=by obtain⟨id,h1,h2,a,h4⟩:=h.dn.hp.box (k:=(0,2)) (.inr (.inr rfl)) h.pb.2;rw[h.pb.1]at a;injection a with a;subst a;exact⟨h4,h1,h2⟩
theorem Jw{X:Ky->Prop}{n:Nat}{D:ND}{V:Ky->AV}{E:Ky->En}{g:G}(h:Hp g 2 (Qc X n D) V E){j k:Ky}(hj:Qc X n D j)(hk:Qc X n D k)(hne:j≠k){id:Nat}(he:Vc (V j)=some id):Vc (V k)≠some id:=h.sep j k hj hk hne id he
def Gi:SC:=.Q8 [0,1,0,0,8,0,56,120,248,0,512,2040,4095,8191,16383] [oF 131 1 4,oL 132 131,oM 133 12,oF 134 1 4,oL 135 134,oM 136 12,YI 137 3 135 136,oF 138 1 137,oL 139 138,oM 140 13,QE 141 140,Wm 142 1 8 139 141,YI 143 3 132 133,oF 144 1 143,Xr 1 144 142]
theorem bm0[Z0]{n q p v u:Nat}{Xy:List AV}{num:Nat->Nat}{g:G}{V:Ky->AV}{E:Ky->En}{D:ND}{rest:List (Nat×AV)}(hn:1<=n/\n<=5)(hv:v<n)(hvi:∀k,i<k->k<n->num k≠v)(hu:u<n)(hvl:∀k,k<i->num k≠v)(hua:∃k',k'<i/\u=num k')(hlt:∀y∈D.P v,y<(u:Int))
  (h4:ZY t 4=ZZ q) (h12:ZY t 12=Z_ (v:Int)) (h13:ZY t 13=Z_ (u:Int)) (hP:DP r0 Xy n q i p v gr r5 num g V E D) (hl:(D.P v).length<3)
  (fin:∀t' g' V' E' D',(∀s,(s<131\/144<s)->ZY t' s=ZY t s)->D'.P v=D.P v++[(u:Int)]->DP r0 Xy n q i p v gr r5 num g' V' E' D'->Q .norm t' [] g') :
  wp C0 d none Gi Q t [] g:=by
 have l:=hP.dn;obtain⟨kq,U,W⟩:=l.q (.inl rfl);unfold Gi;have rns:=l.ns.rows;have K:=ib l.ns (by simp;omega);have u3:v<((List.range n).map (iQ D V)).length:=by simpa using hv
 have N:=i_ (iQ D V) hv;have M:=l.bn.ps v hv;have R:=l.hp.nx;simp only[sz,simprocAttr,sf,h4,h12,h13,kq,rns,u3,N,K,iQ];refine (l.hp.step (g':=_) ?_ ?_).app2 (k:=(v+1,0)) (.inl (LN.p hv)) M.1 (new:=[ci (u:Int)]) (by simp[sx,sy,ci]) (by unfold aQ;simp;omega) λv1 g1 hH1 n1 fb1 fo1 lg1 vc vt=>?_
 ·simp;omega
 ·intro i _ hi;simp[Za];omega
 simp only[sx,sy]at n1 fb1 fo1 lg1;have H:ups V (v+1,0) v1 (0,0)=V (0,0):=ac;have C:ups E (v+1,0) (.sl 1 ((D.P v).map ci++[ci (u:Int)])) (0,0)=.sl 3 ((List.range n).map (iQ D V)):=by rw[ac];exact l.bn.ns
 have rns1:ak g1.h 3 (V (0,0))=some ((List.range n).map (iQ D V)):=by rw[<-H];exact (hH1.own (k:=(0,0)) (.inl LN.z) C).rows
 have X:((List.range n).map (iQ D V))[v]?=some [Z_ (D.c v),V (v+1,0),V (v+1,1)]:=N;simp only[sz,simprocAttr,sf,rns1,u3,K];refine (hH1.same (g':=_) ?_ ?_).putv (k:=(0,0)) (.inl LN.z) H (row':=[Z_ (D.c v),v1,V (v+1,1)]) C N (by rw[vc];rfl) vt (by rw[vc];rfl) λg2 hH2 n2 fb2 fo2=>?_
 ·simp
 ·simp;omega
 simp only[sy];refine⟨?_,?_⟩
 ·simp only[I9,Nq,DI,ML];refine aK (Vk (Zb (true::(true::(Vk (true::[])))))) [(0,10),(1,10),(2,10),(3,10),(4,10),(5,10),(6,10),(7,10),(8,10),(0,11),(1,11),(2,11)] (by simp[ZL,am,aA]) (by decide) ?_;have I:∀i∈g1.lg,i≠q:=λi hi e=>by
   rcases lg1 i hi with h|h|h
   ·simp at h
   ·exact Jw l.hp (.inl (LN.p hv)) (.inr (.inl rfl)) (by simp) h (by rw[l.vb,e];rfl)
   ·omega
  obtain⟨id0,ep0,O,L⟩:∃id ep,id<g.nx/\V (0,0)=.ZG id ep 0 ((List.range n).map (iQ D V)).length none:=by
   rcases l.ns with⟨h,e⟩|⟨id,ep,lo,-,h1,h2,-⟩
   ·have:=congrArg List.length e;simp at this;omega
   ·exact⟨id,ep,h1,h2⟩
  have F:∀i∈g1.lg,i≠id0:=λi hi e=>by
   rcases lg1 i hi with h|h|h
   ·simp at h
   ·exact Jw l.hp (.inl (LN.p hv)) (.inl LN.z) (by simp) h (by rw[L,e];rfl)
   ·omega
  rintro p J x y hx B;simp only[Y0,QA,TP]at J;rcases J with rfl|rfl|rfl|rfl|rfl|rfl|rfl|rfl|rfl|rfl|rfl|rfl<;>(simp at hx B;subst hx;subst B;refine dP rfl rfl rfl rfl ?_ ?_ ?_<;>simp[am,aA,an,L,mA]<;>first|omega|exact I|exact F|exact λi hi e=>I i hi e.symm|exact λi hi e=>F i hi e.symm)
 refine fin _ _ (ups V (v+1,0) v1) _ { D with P:=ups D.P v (D.P v++[(u:Int)]) } (λs hs=>?_) (au _ _ _) ⟨⟨(hH2.same (g':=_) (by simp) (by simp)).sub λk hk=>hk,⟨?_,λj hj=>?_,λj hj=>?_,λj r hj hr=>?_⟩,?_,?_,?_,?_⟩,⟨?_,?_⟩,⟨hP.db.c,λw hw=>?_,hP.db.m,hP.db.o,λk hk hkn=>?_⟩,hP.mv,?_⟩
 ·simp only[gn]
  repeat rw[bJ]
 ·rw[au,sE _ _ hv];congr 1;refine Ga (by simp[iQ,au,ac]) λj hj hne=>by simp[iQ,ac,hne]
 ·by_cases e:j=v
  ·subst e;rw[ac,au];show En.sl 1 _=En.sl 1 ((ups D.P j (D.P j++[(u:Int)]) j).map ci)/\(ups D.P j (D.P j++[(u:Int)]) j).length<=1000;rw[au];exact⟨by simp,by simp;omega⟩
  ·rw[ac,ac (by simp[e])];show E (j+1,0)=En.sl 1 ((ups D.P v (D.P v++[(u:Int)]) j).map ci)/\(ups D.P v (D.P v++[(u:Int)]) j).length<=1000;rw[ac e];exact l.bn.ps j hj
 ·rw[ac,ac];have:=l.bn.rs j hj;refine⟨?_,this.2⟩;rw[this.1];congr 1;exact Sc λr _=>by simp[Ny,ac]
 ·rw[ac,ac,ac];exact l.bn.rr j r hj hr
 ·rw[ac];exact l.vb
 ·rw[ac,ac,ac];exact l.bx
 ·simp only[Zx];rw[fb2 0 (by omega)];simp;rw[fb1 0 (by omega),bJ,l.h0]
 ·simp only[Zx];rw[fb2 1 (by omega)];simp;rw[fb1 1 (by omega),bJ,l.h1]
 ·rw[ac];exact hP.pb.1
 ·rw[ac,ac];exact hP.pb.2
 ·by_cases e:w=v
  ·subst e;show (ups D.P w (D.P w++[(u:Int)]) w).length<=3/\∀y∈ups D.P w (D.P w++[(u:Int)]) w,0<=y/\y<n;rw[au];refine⟨by simp;omega,λy B=>?_⟩;rcases Tn.1 B with h|h
   ·exact (hP.db.p w hw).2 y h
   ·rw[Wa.1 h];omega
  ·show (ups D.P v (D.P v++[(u:Int)]) w).length<=3/\∀y∈ups D.P v (D.P v++[(u:Int)]) w,0<=y/\y<n;rw[ac e];exact hP.db.p w hw
 ·show ups D.P v (D.P v++[(u:Int)]) (num k)=[]/\D.m (num k)=0;rw[ac (hvi k hk hkn)];exact hP.db.f k hk hkn
 ·have A:=hP.ok;refine⟨λw hw=>?_,λk hk y B=>?_,λk hk=>?_,A.r⟩
  ·show (ups D.P v (D.P v++[(u:Int)]) w).Pairwise (·<·)
   by_cases e:w=v
   ·rw[e,au];rw[List.pairwise_append];exact⟨A.s v hv,List.pairwise_singleton _ _,λa ha b hb=>by rw[Wa.1 hb];exact hlt a ha⟩
   ·rw[ac e];exact A.s w hw
  ·have B:y∈ups D.P v (D.P v++[(u:Int)]) (num k):=B
   by_cases e:num k=v
   ·rw[e,au]at B;rcases Tn.1 B with h|h
    ·rw[<-e]at h;exact A.a k hk y h
    ·obtain⟨k',h1,h2⟩:=hua;have:¬k<i:=λh=>hvl k h e;exact⟨k',by omega,by rw[Wa.1 h,h2]⟩
   ·rw[ac e]at B;exact A.a k hk y B
  ·show (D.m (num k):Int)=vv (ups D.P v (D.P v++[(u:Int)]) (num k)) D.c;rw[ac (hvl k hk)];exact A.w k hk
end
structure DJ (r0 Xy:List AV) (n q i p v u:Nat) (gr:Int) (r5:AV) (num:Nat->Nat) (j:Nat) (t:T) (g:G):Prop where
 st:St t ((13,Z_ (u:Int))::Uv n q i p v r5)
 hd:∃V E D,DP r0 Xy n q i p v gr r5 num g V E D/\(∀y∈D.P v,y<=(u:Int))/\((∃k,k<j/\num k=u)\/∀y∈D.P v,y<(u:Int))
theorem bl_[Z0]{n q p v u:Nat}{y1 y2:UInt8}{num:Nat->Nat}(hn:1<=n/\n<=5)(h5:IT 0 pl r5)(hN:U6 n pl num)(hi:i<n)(hv:v=num i)(hu:u<n)
  (h0:DJ r0 [Zt y1,Zt y2,wv] n q i p v u gr r5 num 0 t g) (h14:ZY t 14=Z_ 0)
  (fin:∀t g,DJ r0 [Zt y1,Zt y2,wv] n q i p v u gr r5 num i t g->Q (.exit 6) t [] g):Uk (wp C0 d none g_) Q t [] g:=by
 have A:∀h,ak h 1 r5=some (pl.map ci):=λh=>(h5.sl h).ints;have o:v<n:=by rw[hv];exact hN.lt i hi
 have U:∀k,i<k->k<n->num k≠v:=λk h1 h2 e=>by have:=hN.inj k i h2 hi (by rw[e,hv]);omega
 have W:∀k,k<i->num k≠v:=λk h1 e=>by have:=hN.inj k i (by omega) hi (by rw[e,hv]);omega
 obtain⟨FR,H⟩:∃FR,FR=Gi:=⟨_,rfl⟩;simp only[g_,m6,ZQ,Vj];rw[show (SC.Q8 [0,1,0,0,8,0,56,120,248,0,512,2040,4095,8191,16383] [oF 131 1 4,oL 132 131,oM 133 12,oF 134 1 4,oL 135 134,oM 136 12,YI 137 3 135 136,oF 138 1 137,oL 139 138,oM 140 13,QE 141 140,Wm 142 1 8 139 141,YI 143 3 132 133,oF 144 1 143,Xr 1 144 142])=FR from H.symm];refine bh i (by omega) (λj t df g=>df=[]/\DJ r0 [Zt y1,Zt y2,wv] n q i p v u gr r5 num j t g) ⟨rfl,h0⟩ h14 (by decide) ?_ ?_ ?_ ?_
 ·rintro j t df g w s (rfl|rfl|rfl) ⟨a1,⟨b1,b2,b3,b4,b5,b6,b7,b8,b9,-⟩,c⟩<;>exact⟨a1,by simp[St,Uv,sx,b1,b2,b3,b4,b5,b6,b7,b8,b9],c⟩
 ·rintro j t df g Y ⟨rfl,⟨a,h1,h2,F,h4,h5,l,b,f,-⟩,hD⟩ h14;simp only[sz,simprocAttr,h14,l];exact⟨by simp[St,Uv,sx,a,h1,h2,F,h4,h5,l,b,f],hD⟩
 ·rintro j t df g Y ⟨rfl,⟨a,h1,h2,F,h4,h5,l,b,f,-⟩,V,E,D,x,z,I⟩ h14;obtain⟨kp,-,-⟩:=x.p;have kp:g.h.get p=Z4 3 [[Zt y1,Zt y2,wv]]:=kp;obtain⟨kq,h6,h7⟩:=x.dn.q (.inl rfl);have rns:=x.dn.ns.rows;have J:=ib x.dn.ns (by simp;omega);have K:j<(pl.map ci).length:=by rw[Ju,hN.len];omega
  have L:(pl.map ci)[j]?=some (ci (num j:Int)):=by rw[Zy,hN.at_ j (by omega)];rfl
  have u3:v<((List.range n).map (iQ D V)).length:=by simpa using o
  have Z:((List.range n).map (iQ D V))[v]?=some [Z_ (D.c v),V (v+1,0),V (v+1,1)]:=i_ (iQ D V) o;have O:=x.dn.bn.ps v o;have B:∀g2:G,gz .slice (V (v+1,0)) g2=.val (Z_ ((D.P v).length:Int)):=λg2=>by have:=(x.dn.hp.own (.inl (LN.p o)) O.1).rows;rw[dq this];simp
  have w1:IntKind.wrap .u64 (j:Int)=(j:Int):=du (by omega) (by omega);obtain⟨z1,C⟩:=HR y2.toNat j;obtain⟨z2,X⟩:=HQ z1 1;have m:(∃k,k<j+1/\num k=u)\/∀y∈D.P v,y<(u:Int):=by
   rcases I with⟨k,h1,h2⟩|h
   ·exact .inl ⟨k,by omega,h2⟩
   ·exact .inr h
  have r:bN .and (.int .u8 (z1:Int)) (.int .u8 1)=.val (.int .u8 z2):=X
  by_cases c1:(num j:Int)=(u:Int)
  ·by_cases c2:z2=1
   ·by_cases c3:((D.P v).length:Int)<3
    ·simp only[sz,simprocAttr,h14,h5,a,A,K,L,ci,c1,b,kp,Zt,w1,C,r,c2,h4,kq,f,rns,u3,Z,J,B,c3];rw[H];refine bm0 (n:=n) (q:=q) (i:=i) (p:=p) (v:=v) (u:=u) (r5:=r5) (num:=num) hn o U hu W ⟨j,Y,by omega⟩ ?_ ?_ ?_ ?_ x (by omega) (rest:=[]) ?_
     ·rcases I with⟨k,h1,h2⟩|h
      ·have:=hN.inj k j (by omega) (by omega) (by omega);omega
      ·exact h
     ·simp[sx,h4]
     ·simp[sx,f]
     ·simp[sx,a]
     intro t' g' V' E' D' R N M;simp only[sy];have hs:∀s,s<131->ZY t' s=_:=λs h=>R s (.inl h);refine⟨⟨?_,V',E',D',M,λy hy=>?_,.inl ⟨j,by omega,by omega⟩⟩,?_⟩
     ·simp[St,Uv,hs,sx,a,h1,h2,F,h4,h5,l,b,f]
     ·rw[N]at hy;rcases Tn.1 hy with h|h
      ·exact z y h
      ·rw[Wa.1 h];exact ael _
     ·simp[hs,sx,h14]
    ·simp only[sz,simprocAttr,h14,h5,a,A,K,L,ci,c1,b,kp,Zt,w1,C,r,c2,h4,kq,f,rns,u3,Z,J,B,c3];exact⟨by simp[St,Uv,sx,a,h1,h2,F,h4,h5,l,b,f],V,E,D,x,z,m⟩
   ·simp only[sz,simprocAttr,h14,h5,a,A,K,L,ci,c1,b,kp,Zt,w1,C,r,c2];exact⟨by simp[St,Uv,sx,a,h1,h2,F,h4,h5,l,b,f],V,E,D,x,z,m⟩
  ·simp only[sz,simprocAttr,h14,h5,a,A,K,L,ci,c1];exact⟨by simp[St,Uv,sx,a,h1,h2,F,h4,h5,l,b,f],V,E,D,x,z,m⟩
 ·rintro t df g ⟨rfl,h⟩;exact fin t g h
structure DK (r0 Xy:List AV) (n q i p v:Nat) (gr:Int) (r5:AV) (num:Nat->Nat) (j:Nat) (t:T) (g:G):Prop where
 st:St t (Uv n q i p v r5)
 hd:∃V E D,DP r0 Xy n q i p v gr r5 num g V E D/\∀y∈D.P v,y<(j:Int)
theorem bl9[Z0]{n q p v:Nat}{y1 y2:UInt8}{num:Nat->Nat}(hn:1<=n/\n<=5)(h5:IT 0 pl r5)(hN:U6 n pl num)(hi:i<n)(hv:v=num i)
  (h0:DK r0 [Zt y1,Zt y2,wv] n q i p v gr r5 num 0 t g) (h13:ZY t 13=Z_ 0)
  (fin:∀t g,DK r0 [Zt y1,Zt y2,wv] n q i p v gr r5 num n t g->Q (.exit 4) t [] g):Uk (wp C0 d none hZ) Q t [] g:=by
 simp only[hZ,m7];refine bh n (by omega) (λj t df g=>df=[]/\DK r0 [Zt y1,Zt y2,wv] n q i p v gr r5 num j t g) ⟨rfl,h0⟩ h13 (by decide) ?_ ?_ ?_ ?_
 ·rintro j t df g w s (rfl|rfl|rfl) ⟨a1,⟨b1,b2,C,F,H,I,J,K,-⟩,c⟩<;>exact⟨a1,by simp[St,Uv,sx,b1,b2,C,F,H,I,J,K],c⟩
 ·rintro j t df g B ⟨rfl,⟨h1,h2,f,h4,h5,k,a,b,-⟩,m⟩ h13;simp only[sz,simprocAttr,h13,f];exact⟨by simp[St,Uv,sx,h1,h2,f,h4,h5,k,a,b],m⟩
 ·rintro j t df g B ⟨rfl,⟨h1,h2,f,h4,l,k,a,b,-⟩,V,E,D,m,hlt⟩ h13;simp only[sz,simprocAttr];refine bl_ (u:=j) hn h5 hN hi hv B ⟨by simp[St,Uv,sx,h13,h1,h2,f,h4,l,k,a,b],V,E,D,m,λy hy=>Int.le_of_lt (hlt y hy),.inr hlt⟩ (by simp[sx]) ?_;rintro t2 g2 ⟨⟨A,L,k2,M,N,O,r,x,z,-⟩,V2,E2,D2,o,e,-⟩;simp only[sx,sy,↓reduceIte];exact⟨⟨by simp[St,Uv,L,k2,M,N,O,r,x,z],V2,E2,D2,o,λy hy=>by have:=e y hy;omega⟩,A⟩
 ·rintro t df g ⟨rfl,h⟩;exact fin t g h
def Gs:SC:=.Q8 [0,1,0,0,8,0,56,120,248,0,512,0,2048,0,14336,30720,63488,0,131072,0,0,1048576,0,7340032,15728640,32505856,66060288,133693440,268434944,536870400,1073741816,2147483647,4294967295,8589934591] [oF 153 1 4,oL 154 153,oM 155 12,oF 156 1 4,oL 157 156,oM 158 12,YI 159 3 157 158,oF 160 2 159,oL 161 160,oF 162 0 4,oL 163 162,oF 164 1 4,oL 165 164,oM 166 12,YI 167 3 165 166,oF 168 0 167,oL 169 168,oF 170 2 11,oL 171 170,oM 172 15,oF 173 1 4,oL 174 173,oM 175 12,YI 176 3 174 175,oF 177 0 176,oL 178 177,oA 179 178,afB 180 .mul 172 179,afY 181 32 163 169 171 180,af7 182 181,Wm 183 1 24 161 182,YI 184 3 154 155,oF 185 2 184,Xr 1 185 183]
structure DQ (r0 Xy:List AV) (n q i p v j:Nat) (gr:Int) (r5:AV) (num:Nat->Nat) (P0:List Int) (c0:Nat->Int) (g:G) (V:Ky->AV) (E:Ky->En) (D:ND):Prop where
 dn:DN X2 r0 n q 1000 gr V E D g
 pb:V (0,2)=ZZ p/\E (0,2)=.bx Xy
 db:DB D n i v num
 mv:D.m v=j
 pv:D.P v=P0
 cv:D.c=c0
 ok:DOk gr D n i num
theorem DQ.p{r0 Xy:List AV}{n q i p v j:Nat}{gr:Int}{r5:AV}{num:Nat->Nat}{P0:List Int}{c0:Nat->Int}{g:G}{V:Ky->AV}{E:Ky->En}{D:ND}(h:DQ r0 Xy n q i p v j gr r5 num P0 c0 g V E D):g.h.get p=Z4 Xy.length [Xy]/\2<=p/\p<g.nx:=by obtain⟨id,h1,h2,a,h4⟩:=h.dn.hp.box (k:=(0,2)) (.inr (.inr rfl)) h.pb.2;rw[h.pb.1]at a;injection a with a;subst a;exact⟨h4,h1,h2⟩
theorem bl8[Z0]{n q p v:Nat}{y1 y2:UInt8}{W:List UInt8}{num:Nat->Nat}{P0:List Int}{c0:Nat->Int}{E:Ky->En}{D:ND}(hd:0<d)(hn:1<=n/\n<=5)(hv:v<n)(hvi:∀k,i<k->k<n->num k≠v)(hvl:∀k,k<i->num k≠v)(hj:j<64)(hgr:0<=gr/\gr<=60)(hwv:ZT ZX kk .nil W wv)
  (h4:ZY t 4=ZZ q) (h11:ZY t 11=ZZ p) (h12:ZY t 12=Z_ (v:Int)) (h15:ZY t 15=Z_ (j:Int)) (hP:DQ r0 [Zt y1,Zt y2,wv] n q i p v j gr r5 num P0 c0 g V E D)
  (fin:∀t' g' V' E' D',(∀s,(s<153\/185<s)->ZY t' s=ZY t s)->DQ r0 [Zt y1,Zt y2,wv] n q i p v (j+1) gr r5 num P0 c0 g' V' E' D'->Q .norm t' [] g') :
  wp C0 d none Gs Q t [] g:=by
 have A:=hP.dn;obtain⟨kq,hb,hc⟩:=A.q (.inl rfl);obtain⟨kp,-,ha⟩:=hP.p;have kp:g.h.get p=Z4 3 [[Zt y1,Zt y2,wv]]:=kp;unfold Gs;have rns:=A.ns.rows;have U:=ib A.ns (by simp;omega);have u3:v<((List.range n).map (iQ D V)).length:=by simpa using hv
 have u4:=i_ (iQ D V) hv;have Y:((List.range n).map (iQ D V))[v]?=some [Z_ (D.c v),V (v+1,0),V (v+1,1)]:=u4;have h5:=A.bn.rs v hv;have h9:=A.hp.nx;obtain⟨C,hC,h7⟩:∃C:Nat,D.c v=(C:Int)/\(C=2\/C=3):=by
  rcases hP.db.c v hv with h|h
  ·exact⟨2,h,.inl rfl⟩
  ·exact⟨3,h,.inr rfl⟩
 have h8:j*(C+1)<=64*4:=Wn (by omega) (by omega);have w1:IntKind.wrap .i64 ((C:Int)+1)=((C+1:Nat):Int):=by rw[aq];rfl
 have w2:IntKind.wrap .i64 ((j:Int)*((C+1:Nat):Int))=((j*(C+1):Nat):Int):=by rw[<-QR,aq]
 rw[hC]at Y;simp only[sz,simprocAttr,sf,h4,h11,h12,h15,kq,kp,rns,u3,Y,U,w1,w2,FD];refine aM (bm5 (C:=C) (F:=j*(C+1)) (gr:=gr) (l:=W) hd (by omega) (by omega) hgr hwv) ?_;rintro r ⟨l,⟨hl,M⟩,_,e1,hr⟩;injection e1 with e1;subst e1;have O:=hr.cell;simp only[sz,simprocAttr,sf,O.1,O.2];refine (A.hp.step (g':=_) ?_ ?_).app2 (k:=(v+1,1)) (.inl (LN.r hv)) h5.1 (new:=[[r]]) (by simp[sx,sy]) (by unfold aQ;simp;rw[hP.mv];omega) λv1 g1 H n1 fb1 fo1 lg1 vc vt=>?_
 ·simp;omega
 ·intro i _ hi;simp[Za];omega
 simp only[sx,sy]at n1 fb1 fo1 lg1;have h3:¬Qc X2 n D (v+1,2+j):=by
  rintro (h|h)
  ·rcases h with h|⟨i',q',h,-,hq⟩
   ·simp at h
   ·rw[hP.db.o]at hq;simp only[afl]at h;omega
  ·rcases h with h|h<;>simp at h
 have H:=H.off (x:=r) h3;have K:ups (ups V (v+1,1) v1) (v+1,2+j) r (0,0)=V (0,0):=by rw[ac,ac]
 have I:ups E (v+1,1) (.sl 1 ((List.range (D.m v)).map (Ny V v)++[[r]])) (0,0)=.sl 3 ((List.range n).map (iQ D V)):=by rw[ac];exact A.bn.ns
 have rns1:ak g1.h 3 (V (0,0))=some ((List.range n).map (iQ D V)):=by rw[<-K];exact (H.own (k:=(0,0)) (.inl LN.z) I).rows
 simp only[sz,simprocAttr,sf,rns1,u3,U];refine (H.same (g':=_) ?_ ?_).putv (k:=(0,0)) (.inl LN.z) K (row':=[Z_ (C:Int),V (v+1,0),v1]) I u4 (by rw[vc];rfl) vt (by rw[vc,iQ,hC];rfl) λg2 hH2 n2 fb2 fo2=>?_
 ·simp
 ·simp;omega
 simp only[sy];refine⟨?_,?_⟩
 ·simp only[I9,Nq,DI,ML];refine aK (false::(JO (Zb (Zb (Zb (true::(true::(Vk (true::[]))))))))) [(0,29),(1,29),(2,29),(3,29),(4,29),(5,29),(6,29),(7,29),(8,29),(0,30),(1,30),(2,30)] (by simp[ZL,am,aA]) (by decide) ?_;have L:∀i∈g1.lg,i≠q:=λi hi e=>by
   rcases lg1 i hi with h|h|h
   ·simp at h
   ·exact Jw A.hp (.inl (LN.r hv)) (.inr (.inl rfl)) (by simp) h (by rw[A.vb,e];rfl)
   ·omega
  obtain⟨id0,ep0,h6,X⟩:∃id ep,id<g.nx/\V (0,0)=.ZG id ep 0 ((List.range n).map (iQ D V)).length none:=by
   rcases A.ns with⟨h,e⟩|⟨id,ep,lo,-,h1,h2,-⟩
   ·have:=congrArg List.length e;simp at this;omega
   ·exact⟨id,ep,h1,h2⟩
  have J:∀i∈g1.lg,i≠id0:=λi hi e=>by
   rcases lg1 i hi with h|h|h
   ·simp at h
   ·exact Jw A.hp (.inl (LN.r hv)) (.inl LN.z) (by simp) h (by rw[X,e];rfl)
   ·omega
  rintro p N x y hx hy;simp only[Y0,QA,TP]at N;rcases N with rfl|rfl|rfl|rfl|rfl|rfl|rfl|rfl|rfl|rfl|rfl|rfl<;>(simp at hx hy;subst hx;subst hy;refine dP rfl rfl rfl rfl ?_ ?_ ?_<;>simp[am,aA,an,X,mA]<;>first|omega|exact L|exact J|exact λi hi e=>L i hi e.symm|exact λi hi e=>J i hi e.symm)
 have Z:=hP.mv;refine fin _ _ (ups (ups V (v+1,1) v1) (v+1,2+j) r) _ { D with m:=ups D.m v (j+1),R:=ups D.R v (ups (D.R v) j l) } (λs hs=>?_) ⟨⟨(hH2.same (g':=_) (by simp) (by simp)).sub λk hk=>hk,⟨?_,λu hu=>?_,λu hu=>?_,λu r' hu b=>?_⟩,?_,?_,?_,?_⟩,⟨?_,?_⟩,⟨hP.db.c,hP.db.p,λu hu=>?_,hP.db.o,λk hk hkn=>?_⟩,au _ _ _,hP.pv,hP.cv,?_⟩
 ·simp only[gn]
  repeat rw[bJ]
 ·rw[au,sE _ _ hv];congr 1;refine Ga ?_ λj hj hne=>by simp[iQ,ac,hne]
  show _=[Z_ (D.c v),ups (ups V (v+1,1) v1) (v+1,2+j) r (v+1,0),ups (ups V (v+1,1) v1) (v+1,2+j) r (v+1,1)];rw[hC,ac (by first| (simp;done)| (simp;omega)),ac (by first| (simp;done)| (simp;omega)),ac (by first| (simp;done)| (simp;omega)),au]
 ·rw[ac,ac];exact A.bn.ps u hu
 ·by_cases e:u=v
  ·subst e;rw[ac,au];show En.sl 1 _=En.sl 1 ((List.range (ups D.m u (j+1) u)).map _)/\ups D.m u (j+1) u<=1000;rw[au];refine⟨?_,by omega⟩;rw[Z,Ri,K0];congr 2
   ·exact Sc λr' b=>by have:=Q9.1 b;simp[Ny,ac,show ¬r'=j by omega,show ¬2+r'=1 by omega]
   ·simp[Ny,au]
  ·rw[ac,ac (by simp[e])];show E (u+1,1)=En.sl 1 ((List.range (ups D.m v (j+1) u)).map _)/\ups D.m v (j+1) u<=1000;rw[ac e];have:=A.bn.rs u hu;refine⟨?_,this.2⟩;rw[this.1];congr 1;exact Sc λr' _=>by simp[Ny,ac,e]
 ·by_cases e:u=v
  ·subst e;have b:r'<ups D.m u (j+1) u:=b;rw[au]at b;show (ups D.R u (ups (D.R u) j l) u r').length<=1000/\((r'<D.o u/\_=En.sl 1 ((ups D.R u (ups (D.R u) j l) u r').map ci))\/ZT ZX 0 .nil (ups D.R u (ups (D.R u) j l) u r') _);rw[au]
   by_cases e2:r'=j
   ·subst e2;rw[au,au];exact⟨by omega,.inr hr⟩
   ·rw[ac e2,ac (by first| (simp;done)| (simp;omega)),ac (by first| (simp;done)| (simp;omega)),ac (by simp[e2]),ac (by first| (simp;done)| (simp;omega))];exact A.bn.rr u r' hu (by omega)
  ·have b:r'<ups D.m v (j+1) u:=b;rw[ac e]at b;show (ups D.R v (ups (D.R v) j l) u r').length<=1000/\((r'<D.o u/\_=En.sl 1 ((ups D.R v (ups (D.R v) j l) u r').map ci))\/ZT ZX 0 .nil (ups D.R v (ups (D.R v) j l) u r') _);rw[ac e,ac (by first| (simp;done)| (simp;omega)),ac (by first| (simp;done)| (simp;omega)),ac (by simp[e]),ac (by simp[e])];exact A.bn.rr u r' hu b
 ·rw[ac,ac];exact A.vb
 ·rw[ac,ac,ac,ac];exact A.bx
 ·simp only[Zx];rw[fb2 0 (by omega)];simp;rw[fb1 0 (by omega),bJ,A.h0]
 ·simp only[Zx];rw[fb2 1 (by omega)];simp;rw[fb1 1 (by omega),bJ,A.h1]
 ·rw[ac,ac];exact hP.pb.1
 ·rw[ac,ac];exact hP.pb.2
 ·show ups D.m v (j+1) u<=64
  by_cases e:u=v
  ·rw[e,au];omega
  ·rw[ac e];exact hP.db.m u hu
 ·show D.P (num k)=[]/\ups D.m v (j+1) (num k)=0;rw[ac (hvi k hk hkn)];exact hP.db.f k hk hkn
 ·have B:=hP.ok;refine⟨B.s,B.a,λk hk=>?_,λu r' hu b=>?_⟩
  ·show ((ups D.m v (j+1) (num k):Nat):Int)=_;rw[ac (hvl k hk)];exact B.w k hk
  ·show UO gr (D.c u) (ups D.R v (ups (D.R v) j l) u r');have b:r'<ups D.m v (j+1) u:=b
   by_cases e:u=v
   ·rw[e,au]at b ⊢
    by_cases e2:r'=j
    ·rw[e2,au,hC];exact M
    ·rw[ac e2];exact B.r v r' hv (by omega)
   ·rw[ac e]at b ⊢;exact B.r u r' hu b
theorem OW{n v:Nat}{D:ND}(hv:v<n)(hp:∀y∈D.P v,0<=y/\y<n):G3 (IO ⟨gr,(List.range n).map D.node⟩) (D.P v)=(D.P v).map λy=>D.c y.toNat:=by
 unfold G3 IO;refine Sc λy hy=>?_;have:=hp y hy;rw[Rr];have h:y.toNat<n:=by omega
 simp[h,ND.node]
theorem F_{n v:Nat}{D:ND}(hv:v<n)(hc:∀u,u<n->D.c u=2\/D.c u=3)(hp:(D.P v).length<=3/\∀y∈D.P v,0<=y/\y<n):(∀c∈(D.P v).map λy=>D.c y.toNat,1<=c/\c<=4)/\1<=vv (D.P v) D.c/\vv (D.P v) D.c<=64:=by
 have h1:∀c∈(D.P v).map λy=>D.c y.toNat,1<=c/\c<=4:=λc h=>by obtain⟨y,k,rfl⟩:=YY.1 h;have:=hp.2 y k;have:=hc y.toNat (by omega);omega
 have h2:=cD h1;have d:=fH (a:=((D.P v).map λy=>D.c y.toNat).length) (b:=3) (by simpa using hp.1);have h4:(4:Int) ^ 3=64:=by decide
 refine⟨h1,h2.1,?_⟩;unfold vv;omega
structure DRw (r0 Xy:List AV) (n q i p v j:Nat) (gr:Int) (r5:AV) (num:Nat->Nat) (P0:List Int) (c0:Nat->Int) (t:T) (g:G):Prop where
 st:St t (Uv n q i p v r5)
 hd:∃V E D,DQ r0 Xy n q i p v j gr r5 num P0 c0 g V E D
theorem bl7[Z0]{n q p v:Nat}{y1 y2:UInt8}{W:List UInt8}{num:Nat->Nat}{P0:List Int}{c0:Nat->Int}(hd:0<d)(hn:1<=n/\n<=5)(hv:v<n)(hvi:∀k,i<k->k<n->num k≠v)(hvl:∀k,k<i->num k≠v)(hgr:0<=gr/\gr<=60)(hwv:ZT ZX kk .nil W wv)
  (h0:DRw r0 [Zt y1,Zt y2,wv] n q i p v 0 gr r5 num P0 c0 t g) (h15:ZY t 15=Z_ 0)
  (fin:∀(t:T) (g:G) (j:Nat),(j:Int)=vv P0 c0->DRw r0 [Zt y1,Zt y2,wv] n q i p v j gr r5 num P0 c0 t g->Q (.exit 8) t [] g):Uk (wp C0 d none h_) Q t [] g:=by
 have Z:1<=vv P0 c0/\vv P0 c0<=64:=by obtain⟨-,V,E,D,a⟩:=h0;have:=(F_ hv a.db.c (a.db.p v hv)).2;rw[a.pv,a.cv]at this;exact this
 obtain⟨M,u⟩:=Wu (show 0<=vv P0 c0 by omega);obtain⟨FR,o⟩:∃FR,FR=Gs:=⟨_,rfl⟩;simp only[h_,ZQ];rw[show (SC.Q8 [0,1,0,0,8,0,56,120,248,0,512,0,2048,0,14336,30720,63488,0,131072,0,0,1048576,0,7340032,15728640,32505856,66060288,133693440,268434944,536870400,1073741816,2147483647,4294967295,8589934591] [oF 153 1 4,oL 154 153,oM 155 12,oF 156 1 4,oL 157 156,oM 158 12,YI 159 3 157 158,oF 160 2 159,oL 161 160,oF 162 0 4,oL 163 162,oF 164 1 4,oL 165 164,oM 166 12,YI 167 3 165 166,oF 168 0 167,oL 169 168,oF 170 2 11,oL 171 170,oM 172 15,oF 173 1 4,oL 174 173,oM 175 12,YI 176 3 174 175,oF 177 0 176,oL 178 177,oA 179 178,afB 180 .mul 172 179,afY 181 32 163 169 171 180,af7 182 181,Wm 183 1 24 161 182,YI 184 3 154 155,oF 185 2 184,Xr 1 185 183])=FR from o.symm];refine bh M (by omega) (λj t df g=>df=[]/\DRw r0 [Zt y1,Zt y2,wv] n q i p v j gr r5 num P0 c0 t g) ⟨rfl,h0⟩ h15 (by decide) ?_ ?_ ?_ ?_
 ·rintro j t df g w s (rfl|rfl|rfl) ⟨a1,⟨b1,b2,J,K,L,N,O,R,-⟩,c⟩<;>exact⟨a1,by simp[St,Uv,sx,b1,b2,J,K,L,N,O,R],c⟩
 ·rintro j t df g U ⟨rfl,⟨h1,h2,C,h4,h5,l,e,b,-⟩,V,E,D,a⟩ h15;obtain⟨kq,X,Y⟩:=a.dn.q (.inl rfl);have f:=a.dn.bn.Z7 a.dn.hp (λk h=>.inl h) (by omega) (by omega);have z:Zl (⟨gr,(List.range n).map D.node⟩:Zv) (λj=>2<=j) 0 g.h (.agg [Z_ gr,V (0,0)]):=⟨_,rfl,fY.2 ⟨_,rfl,f⟩⟩;have m:=a.db.p v hv;obtain⟨r,er,hr⟩:=CC (d:=d) (g:=g) (i:=v) (x:=D.node v) hd z (by simp;omega) (by simp[hv]) (by show (D.P v).length<_;omega) (λy hy=>by have:=m.2 y hy;simp;omega);have A:=OW (gr:=gr) hv m.2;have hb:=F_ hv a.db.c m;have B:=Gu (d:=d) (g:=g) hd (hr.sl g.h);have H:wK (G3 (IO ⟨gr,(List.range n).map D.node⟩) (D.node v).Z9)=(M:Int):=by show wK (G3 (IO ⟨gr,(List.range n).map D.node⟩) (D.P v))=(M:Int);rw[A,CG hb.1 (by simp;omega),<-u,vv,<-a.pv,<-a.cv]
  rw[H]at B;simp only[sz,simprocAttr,h15,h4,kq,b,er,B];exact⟨by simp[St,Uv,sx,h1,h2,C,h4,h5,l,e,b],V,E,D,a⟩
 ·rintro j t df g U ⟨rfl,⟨h1,h2,C,h4,h5,l,e,b,-⟩,V,E,D,a⟩ h15;rw[o];refine bl8 (n:=n) (q:=q) (i:=i) (p:=p) (v:=v) (j:=j) (r5:=r5) (num:=num) hd hn hv hvi hvl (by omega) hgr hwv h4 e b h15 a ?_;intro t' g' V' E' D' I F;have hs:∀s,s<153->ZY t' s=ZY t s:=λs h=>I s (.inl h);rw[Jy];exact⟨⟨rfl,by simp[St,Uv,hs,h1,h2,C,h4,h5,l,e,b],V',E',D',F⟩,by rw[hs 15 (by omega),h15]⟩
 ·rintro t df g ⟨rfl,h⟩;exact fin t g M u.symm h
structure DBl (D:ND) (n i:Nat) (num:Nat->Nat):Prop where
 c:∀u,u<n->D.c u=2\/D.c u=3
 p:∀u,u<n->(D.P u).length<=3/\∀y∈D.P u,0<=y/\y<n
 m:∀u,u<n->D.m u<=64
 o:∀u,D.o u=0
 f:∀k,i<=k->k<n->D.P (num k)=[]/\D.m (num k)=0
structure DL (r0:List AV) (n q:Nat) (gr:Int) (r5:AV) (num:Nat->Nat) (i:Nat) (t:T) (g:G):Prop where
 st:St t (YV n q r5)
 hd:∃V E D,DN X1 r0 n q 1000 gr V E D g/\DBl D n i num/\DOk gr D n i num
theorem bl6{n:Nat}{D:ND}:∀k,Qc X1 n D k->Qc X2 n D k:=λk h=>by
 rcases h with h|h
 ·exact .inl h
 ·exact .inr (.inl h)
theorem bl5[Z0]{n q:Nat}{x:BJ}{a b:AV}{num:Nat->Nat}(hd:0<d)(hgr:0<=gr/\gr<=60)(hn:1<=n/\n<=5)(ha:ZT ZX kk .nil x.2.1 a)(h5:IT 0 pl r5)(hN:U6 n pl num)
  (h0:DL [Zt x.1,a,b] n q gr r5 num 0 t g) (h10:ZY t 10=Z_ 0)
  (fin:∀t g,DL [Zt x.1,a,b] n q gr r5 num n t g->Q (.exit 2) t [] g):Uk (wp C0 d none gy) Q t [] g:=by
 obtain⟨pr,r1,r2,r3,r4⟩:=ha.all;have r1:∀h',ak h' 3 a=some pr:=r1;have la:=ha.len;have hf:=ha.1;have he:∀h,ak h 1 r5=some (pl.map ci):=λh=>(h5.sl h).ints;simp only[gy,lK];refine bh n (by omega) (λj t df g=>df=[]/\DL [Zt x.1,a,b] n q gr r5 num j t g) ⟨rfl,h0⟩ h10 (by decide) ?_ ?_ ?_ ?_
 ·rintro j t df g v s (rfl|rfl|rfl) ⟨a1,⟨b1,b2,b3,b4,b5,-⟩,c3⟩<;>exact⟨a1,by simp[St,YV,sx,b1,b2,b3,b4,b5],c3⟩
 ·rintro j t df g J ⟨rfl,⟨h1,h2,B,h4,h5,-⟩,C⟩ h10;simp only[sz,simprocAttr,h10,B];exact⟨by simp[St,YV,sx,h1,h2,B,h4,h5],C⟩
 ·rintro j t df g J ⟨rfl,⟨h1,h2,B,h4,l,-⟩,V,E,D,C,hb,h7⟩ h10;obtain⟨p,hp⟩:∃p,p=g.nx:=⟨_,rfl⟩;have hg:=C.hp.nx;refine gv (P:=λt' df g'=>df=[]/\g'=g.new (Z4 3 [[.int .u8 0,.int .u8 0,.Z6]])/\St t' ((10,Z_ (j:Int))::(11,ZZ p)::YV n q r5)) ?_ ?_
  ·simp only[sz,simprocAttr];simp[St,YV,sx,h1,h2,B,h4,l,h10,hp]
  clear h1 h2 B h4 l h10;rintro t df g1 ⟨rfl,I,⟨h10,A,h1,h2,B,h4,l,-⟩⟩;have f1:Fr g g1:=by rw[I];exact Fr.new _ _
  have U:g1.h.get p=Z4 3 [[.int .u8 0,.int .u8 0,.Z6]]:=by rw[I,hp];simp[Za]
  have n1:p<g1.nx:=by rw[I,hp];simp
  clear I;have N:=C.same f1;have e0:=N.h0;refine gv (P:=λt' df g'=>df=[]/\Fr g g'/\St t' ((10,Z_ (j:Int))::(11,ZZ p)::YV n q r5)/\p<g'.nx/\∃(X Y:UInt8) (W:List UInt8) (wv:AV),ZT ZX kk .nil W wv/\g'.h.get p=Z4 3 [[Zt X,Zt Y,wv]]) ?_ ?_
  ·simp only[sz,simprocAttr,h10,h1,e0,la];refine ba (λhb=>?_) (λhb=>?_)
   ·have hb:j<x.2.1.length:=by simpa using hb
    obtain⟨y,Z,-,-⟩:=ah hb;obtain⟨row,q1,q2⟩:=r3 j y Z;obtain⟨wv,rfl,L⟩:=Iy.1 q2;have hlt:j<pr.length:=by omega
    have hh:=r4 (by omega);simp only[sz,simprocAttr,h10,h1,e0,r1,hlt,q1,A,U];refine⟨?_,by simp[St,YV,sx,h1,h2,B,h4,l,h10,A],by simpa using n1,y.1,y.2.1,y.2.2,wv,L,by simp[Za]⟩;exact⟨Y1 f1.1 (by simp),λi hi=>by simp[Za,show ¬i=p by omega];exact f1.2 i hi⟩
   ·simp only[sx,sy];exact⟨f1,by simp[St,YV,sx,h1,h2,B,h4,l,h10,A],n1,0,0,[],.Z6,⟨by show 0<2^63;decide,rfl⟩,U⟩
  clear h1 h2 B h4 l h10 A e0 N U n1 f1;rintro t df g2 ⟨rfl,f2,⟨h10,A,h1,h2,B,h4,l,-⟩,n2,X,Y,W,wv,L,U⟩;have hH:=C.hp.add (g':=g2) (k:=(0,2)) (L':=Qc X2 n D) (v':=ZZ p) (e':=.bx [Zt X,Zt Y,wv]) (by
   rintro (h|h)
   ·rcases h with h|⟨i',q',h,-,-⟩<;>simp at h
   ·simp[X1]at h) ⟨p,by omega,n2,rfl,U⟩ f2.1 (λi _ hi=>f2.2 i hi) (λi hi=>by injection hi with hi;omega) (λk hk=>by
   rcases hk with h|h|h
   ·exact .inl (.inl h)
   ·exact .inl (.inr h)
   ·exact .inr h)
  have R:=hb.f j (ZV _) J;have hc:=hN.lt j J;have h8:∀k,j<k->k<n->num k≠num j:=λk h1 h2 e=>by have:=hN.inj k j h2 J e;omega
  have h9:∀k,k<j->num k≠num j:=λk h1 e=>by have:=hN.inj k j (by omega) J e;omega
  have O:DP [Zt x.1,a,b] [Zt X,Zt Y,wv] n q j p (num j) gr r5 num g2 (ups V (0,2) (ZZ p)) (ups E (0,2) (.bx [Zt X,Zt Y,wv])) D:=by
   refine⟨⟨hH,⟨?_,λu hu=>?_,λu hu=>?_,λu r hu hr=>?_⟩,?_,?_,by rw[f2.2 0 (by omega),C.h0],by rw[f2.2 1 (by omega),C.h1]⟩,⟨au _ _ _,au _ _ _⟩,⟨hb.c,hb.p,hb.m,hb.o,λk h1 h2=>hb.f k (by omega) h2⟩,R.2,h7⟩
   ·rw[ac,C.bn.ns];exact congrArg (En.sl 3) (Sc λu _=>by simp[iQ,ac])
   ·rw[ac];exact C.bn.ps u hu
   ·rw[ac];have:=C.bn.rs u hu;refine⟨?_,this.2⟩;rw[this.1];exact congrArg (En.sl 1) (Sc λr _=>by simp[Ny,ac])
   ·rw[ac,ac];exact C.bn.rr u r hu hr
   ·rw[ac];exact C.vb
   ·rw[ac,ac];exact C.bx
  have u1:j<(pl.map ci).length:=by rw[Ju,hN.len];exact J
  have u2:(pl.map ci)[j]?=some (ci (num j:Int)):=by rw[Zy,hN.at_ j J];rfl
  simp only[sz,simprocAttr,lJ,l,h10,he,u1,u2,ci];refine bl9 (n:=n) (q:=q) (i:=j) (p:=p) (v:=num j) (r5:=r5) (num:=num) hn h5 hN J rfl ⟨by simp[St,Uv,sx,h1,h2,B,h4,l,h10,A],_,_,_,O,λy Z=>by rw[R.1]at Z;simp at Z⟩ (by simp[sx]) ?_;clear h1 h2 B h4 l h10 A O hH;rintro t g3 ⟨⟨h1,h2,B,h4,l,h10,A,K,-⟩,V3,E3,D3,F,-⟩;simp only[sz,simprocAttr,m8];refine bl7 (n:=n) (q:=q) (i:=j) (p:=p) (v:=num j) (r5:=r5) (num:=num) (P0:=D3.P (num j)) (c0:=D3.c) hd hn hc h8 h9 hgr L ⟨by simp[St,Uv,sx,h1,h2,B,h4,l,h10,A,K],V3,E3,D3,F.dn,F.pb,F.db,F.mv,rfl,rfl,F.ok⟩ (by simp[sx]) ?_;clear h1 h2 B h4 l h10 A K F;rintro t g4 M h6 ⟨⟨h1,h2,B,h4,l,h10,A,K,-⟩,V4,E4,D4,z⟩;simp only[sx,sy,↓reduceIte];have H:=z.dn;refine⟨⟨by simp[St,YV,h1,h2,B,h4,l],V4,E4,D4,⟨H.hp.sub bl6,H.bn,H.vb,H.bx,H.h0,H.h1⟩,⟨z.db.c,z.db.p,z.db.m,z.db.o,λk hk hkn=>z.db.f k hk hkn⟩,⟨z.ok.s,z.ok.a,λk hk=>?_,z.ok.r⟩⟩,h10⟩
  by_cases e:k=j
  ·rw[e,z.mv,z.pv,z.cv,h6]
  ·exact z.ok.w k (by omega)
 ·rintro t df g ⟨rfl,h⟩;exact fin t g h
structure NC (m:Zv):Prop where
 l:1<=m.Z7.length/\m.Z7.length<=5
 c:∀x∈m.Z7,x.Z5=2\/x.Z5=3
 b:∀x∈m.Z7,x.Z9.length<=1000/\x.rows.length<=1000/\∀r∈x.rows,r.length<=1000
 nr:NR m
theorem bl4{n:Int}(hs:l.Pairwise (·<·))(hb:∀y∈l,0<=y/\y<n):AW l n=true:=by
 simp only[AW,zH,Xw,Q9,Zk,T6,RY,beq_iff_eq];intro i hi;obtain⟨x,hx⟩:∃x,l[i]?=some x:=⟨_,Zq hi⟩;have:=hb x (YH hx);rw[hx,Ns];refine⟨this,?_⟩
 by_cases e:i=0
 ·exact .inl e
 ·right;obtain⟨y,h⟩:∃y,l[i - 1]?=some y:=⟨_,Zq (by omega)⟩;rw[h,Ns];have h1:=(tI.1 hx).2;have h2:=(tI.1 h).2;rw[<-h1,<-h2];exact acZ.1 hs (i - 1) i (by omega) hi (by omega)
def To(num:Nat->Nat):Nat->Nat
 |0=>0
 |k+1=>To num k ||| B7 (num k)
theorem JG{n:Nat}{pl:List Int}{num:Nat->Nat}(hN:U6 n pl num)(hn:n<=64)(v:Nat):∀k,k<=n->((To num k).testBit v=true↔∃k',k'<k/\num k'=v)
 |0,_=>by simp[To]
 | k+1,hk=>by
  have hlt:=hN.lt k (by omega);rw[To,x_,EG (by omega),T6,RY,JG hN hn v k (by omega)];constructor
  ·rintro (⟨k',h1,h2⟩|h)
   ·exact⟨k',by omega,h2⟩
   ·exact⟨k,by omega,h⟩
  ·rintro⟨k',h1,h2⟩
   by_cases e:k'=k
   ·subst e;exact .inr h2
   ·exact .inl ⟨k',by omega,h2⟩
theorem bl3{D:ND}{n:Nat}{num:Nat->Nat}(hN:U6 n pl num)(hn:1<=n/\n<=5)(hgr:1<=gr/\gr<=60)(hb:DBl D n n num)(hok:DOk gr D n n num):NR ⟨gr,(List.range n).map D.node⟩:=by
 have hcl:(IO ⟨gr,(List.range n).map D.node⟩)=(List.range n).map D.c:=by unfold IO;rw[Rr];rfl
 refine⟨hgr.1,hgr.2,by simpa using hn.1,by simp;omega,λx hx=>?_,λx hx=>?_,?_,?_,λx hx=>?_,λx hx r hr=>?_⟩
 ·obtain⟨u,hu,rfl⟩:=YY.1 hx;have:=hb.c u (Q9.1 hu);show 1<=D.c u/\D.c u<=4;omega
 ·obtain⟨u,hu,rfl⟩:=YY.1 hx;have hu:=Q9.1 hu;refine bl4 (hok.s u hu) λy hy=>?_;have:=(hb.p u hu).2 y hy;simpa using this
 ·rw[hcl];have h1:∀c∈(List.range n).map D.c,1<=c/\c<=4:=λc hc=>by obtain⟨u,hu,rfl⟩:=YY.1 hc;have:=hb.c u (Q9.1 hu);omega
  have h2:=cD h1;have i:=fH (a:=((List.range n).map D.c).length) (b:=5) (by simpa using hn.2);have h4:(4:Int) ^ 5=1024:=by decide
  omega
 ·have e:(ET ⟨gr,(List.range n).map D.node⟩).length=n:=by simp[ET]
  have d:∀v,v<n->XQ (ET ⟨gr,(List.range n).map D.node⟩) v=Dn (D.P v):=λv hv=>by simp[XQ,ET,hv,ND.node]
  have h:∀k,k<=n->PA (ET ⟨gr,(List.range n).map D.node⟩) (To num k):=λk=>by
   induction k with
   |zero=>exact λ_=>Ig
   | succ k ih =>intro hk;have hlt:=hN.lt k (by omega);refine K7 (ih (by omega)) (by omega) λu hu=>?_;rw[d _ hlt]at hu;have hu:=(Ed λx hx=>by have:=(hb.p _ hlt).2 x hx;omega).1 hu;obtain⟨k',h1,h2⟩:=hok.a k (by omega) _ hu;exact (JG hN (by omega) u k (by omega)).2 ⟨k',h1,by omega⟩
  refine AE (h n (ZV _)) λv hv=>?_;rw[e]at hv;exact (JG hN (by omega) v n (ZV _)).2 (hN.sur v hv)
 ·obtain⟨u,hu,rfl⟩:=YY.1 hx;have hu:=Q9.1 hu;obtain⟨k,hk,rfl⟩:=hN.sur u hu;show (((List.range (D.m (num k))).map (D.R (num k))).length:Int)=G5 (G3 _ (D.P (num k)));rw[OW hu (hb.p _ hu).2];have:=hok.w k hk;unfold vv at this;rw[<-this];simp
 ·obtain⟨u,hu,rfl⟩:=YY.1 hx;have hu:=Q9.1 hu;obtain⟨r',f,rfl⟩:=YY.1 hr;exact hok.r u r' hu (Q9.1 f)
def bl2:VS:=λP k h v=>∃m:Zv,NC m/\Zl m P k h v
def V0(W:AV)(q:Nat):Ky->AV:=λk=>match k with
 | (0,0)=>W
 | (0,1)=>ZZ q
 |_=>.Z6
def E0(W:AV)(n:Nat)(gr:Int):Ky->En:=λk=>match k with
 | (0,0)=>.sl 3 (List.replicate n [Z_ 0,.Z6,.Z6])
 | (0,1)=>.bx [Z_ gr,W]
 |_=>.sl 1 []
def D0:ND:=⟨λ_=>0,λ_=>[],λ_=>0,λ_ _=>[],λ_=>0⟩
theorem Vh{W:AV}{n q:Nat}(hW:Own g 2 W 3 (List.replicate n [Z_ 0,.Z6,.Z6]))(hq:g.h.get q=Z4 2 [[Z_ gr,W]])(h2:2<=q/\q<g.nx)(hne:Zi W≠some q):Hp g 2 (Qc X1 n D0) (V0 W q) (E0 W n gr):=by
 have hk:∀k,Qc X1 n D0 k->k=(0,0)\/k=(0,1)\/∃i s,k=(i+1,s):=λk h=>by
  rcases h with h|h
  ·rcases h with h|⟨i,s,h,-⟩
   ·exact .inl h
   ·exact .inr (.inr ⟨i,s,h⟩)
  ·exact .inr (.inl h)
 refine⟨λk h=>?_,λk l h h' hkl id h1 a=>?_,by omega⟩
 ·rcases hk k h with rfl|rfl|⟨i,s,rfl⟩
  ·exact hW
  ·exact⟨q,h2.1,h2.2,rfl,hq⟩
  ·exact .inl ⟨rfl,rfl⟩
 ·rcases hk k h with rfl|rfl|⟨i,s,rfl⟩<;>rcases hk l h' with rfl|rfl|⟨i',s',rfl⟩
  ·exact hkl rfl
  ·have h1:Vc W=some id:=h1;have a:some q=some id:=a;rw[cU hW]at h1;injection a with a;subst a;exact hne h1
  ·cases a
  ·have a:Vc W=some id:=a;have h1:some q=some id:=h1;rw[cU hW]at a;injection h1 with h1;subst h1;exact hne a
  ·exact hkl rfl
  ·cases a
  ·cases h1
  ·cases h1
  ·cases h1
theorem bl1{x:Int}(h:w.cells=[w])(h2:w.isTup=false):dX [Z_ 0,.Z6] [((0,1),Z_ x),((1,1),w)]=some [Z_ x,w]:=by
 have k:(Z_ x).cells=[Z_ x]:=rfl;have k2:(Z_ x).isTup=false:=rfl;simp[dX,h,h2,eJ,k,k2]
 rfl
theorem bl0{a b:AV}(ha:a.cells=[a]/\a.isTup=false)(hb:b.cells=[b]/\b.isTup=false):dX [.Z6,.int .u16 0,.Z6] [((0,1),a),((2,1),b)]=some [a,.int .u16 0,b]:=by
 simp[dX,ha,hb,eJ]
 rfl
theorem bk_[Z0]{P:Nat->Prop}{v:AV}{x:BJ}(hd:0<d)(hm:Zl x P k g.h v):∃r,ae C0 d 7 [v] g=.val r/\bl2 ZX 0 .nil r:=by
 obtain⟨v',e,cs,rfl,hc⟩:=nC (cH x) (by decide) d hm;obtain⟨a,b,rfl,ha,hb⟩:=Ix.1 hc;have ha:=ha.tree (h':=.nil) (ZV _);have hb:=hb.tree (h':=.nil) (ZV _);rw[Zn];refine aI zX (xs:=[.agg [Zt x.1,a,b]]) (by simp only[aD,e]) (by simp[lf]) (o7 λm=>cH _) (by decide) hd ?_;simp only[sz,simprocAttr,lf];obtain⟨g0,hg0⟩:∃g0,g0=(G.empty.new (Z4 3 [[Zt x.1,a,b]])).new (Z4 2 [[Z_ 0,.Z6]]):=⟨_,rfl⟩;rw[<-hg0];have f0:g0.h.get 0=Z4 3 [[Zt x.1,a,b]]:=by rw[hg0];simp[sx,Za]
 have f1:g0.h.get 1=Z4 2 [[Z_ 0,.Z6]]:=by rw[hg0];simp[sx]
 have f2:g0.nx=2:=by rw[hg0];simp[sx]
 clear hg0;have la:=ha.len;have Y:=ha.1;unfold oB;obtain⟨n,hn,z⟩:∃n:Nat,n=min (max x.2.1.length 1) 5/\1<=n/\n<=5:=⟨_,rfl,by omega⟩;refine gv (P:=λt' df g'=>df=[]/\g'=g0/\St t' [(1,ZZ 0),(2,ZZ 1),(3,Z_ (n:Int))]) ?_ ?_
 ·simp only[sz,simprocAttr,f0,la];simp[St,sx];omega
 rintro t df g1 ⟨rfl,rfl,h1,h2,l,-⟩;obtain⟨gr,O,N⟩:∃gr:Int,gr=1+(x.1.toNat:Int) % 60/\0<=gr/\gr<=60:=⟨_,rfl,by omega,by omega⟩;have q1:=gC .u8 (a:=(x.1.toNat:Int)) (b:=60) (by omega) (by omega);have w1:IntKind.wrap .i64 ((x.1.toNat:Int) % 60)=(x.1.toNat:Int) % 60:=aq;have w2:IntKind.wrap .i64 (1+(x.1.toNat:Int) % 60)=gr:=by rw[O,aq]
 refine gv (P:=λt' df g'=>df=[]/\∃q V E D,St t' [(1,ZZ 0),(2,ZZ 1),(3,Z_ (n:Int)),(4,ZZ q)]/\DN X1 [Zt x.1,a,b] n q 1000 gr V E D g'/\(∀u,D.P u=[]/\D.m u=0/\D.o u=0)) ?_ ?_
 ·simp only[sz,simprocAttr,sf,h1,l,f0,Zt,q1,w1,w2];refine qp (b:=2) (n:=n) (by unfold aQ;omega) (by unfold aQ;omega) (by first| (simp;done)| (simp;omega)) λW g2 hW n2 f2' vW lg2=>?_;simp only[sy]at n2 f2' vW lg2;simp only[sz,simprocAttr,sf,bl1 hW.cell.1 hW.cell.2,lg2];have h6:g1.nx+7=g2.nx:=by omega
  have k0:g2.h.get 0=Z4 3 [[Zt x.1,a,b]]:=by rw[f2' 0 (by omega),f0]
  have Z:g2.h.get 1=Z4 2 [[Z_ 0,.Z6]]:=by rw[f2' 1 (by omega),f1]
  refine⟨?_,g2.nx+1+1,V0 W (g2.nx+1+1),E0 W n gr,D0,by simp[St,sx,h1,h2,l],⟨Vh ?_ ?_ ⟨by omega,by simp⟩ ?_,⟨?_,λu _=>⟨rfl,by show 0<=1000;omega⟩,λu _=>⟨rfl,by show 0<=1000;omega⟩,λu r _ hr=>by cases hr⟩,rfl,rfl,?_,?_⟩,λu=>⟨rfl,rfl,rfl⟩⟩
  ·simp only[I9,Nq,DI,ML,G.new_lg,G.put_lg,X7];refine aK (Vk (JO (true::(false::(true::(true::[])))))) [(0,6),(1,6),(2,6),(3,6),(4,6),(0,8),(1,8),(2,8),(3,8),(4,8),(5,8),(6,8),(7,8)] (by simp[ZL,am,aA]) (by decide) ?_;rintro p w x y hx s;simp only[Y0,QA,TP]at w;rcases w with rfl|rfl|rfl|rfl|rfl|rfl|rfl|rfl|rfl|rfl|rfl|rfl|rfl<;>(simp at hx s;subst hx;subst s;refine dP rfl rfl rfl rfl ?_ ?_ ?_<;>simp[am,aA,an]<;>omega)
  ·refine hW.fr (by simp;omega) λi hi=>?_;have:=iv vW hi;simp[Za,show ¬i=g2.nx+1+1 by omega]
  ·simp[Za]
  ·intro e;have:=iv vW e;omega
  ·show En.sl 3 (List.replicate n [Z_ 0,.Z6,.Z6])=En.sl 3 ((List.range n).map λ_=>[Z_ 0,.Z6,.Z6]);congr 1;rw[List.map_const',List.length_range]
  ·simp[Za,k0];rfl
  ·simp[Za,Z]
 clear h1 h2 l;rintro t df g2 ⟨rfl,q,V,E,D,⟨h1,h2,l,h4,-⟩,K,B⟩;obtain⟨num,hN⟩:=bm4 x.2.2 n;refine gv (P:=λt' df g'=>df=[]/\Fr g2 g'/\∃r5,IT 0 (Cc x.2.2 n) r5/\St t' (YV n q r5)) ?_ ?_
 ·simp only[sz,simprocAttr,sf,l];refine qp (b:=2) (n:=n) (by unfold aQ;omega) (by unfold aQ;omega) (by have:=K.hp.nx;first| (simp;done)| (simp;omega)) λU g3 hU n3 F vU lg3=>?_;simp only[sy]at n3 F vU lg3;have e0:g3.h.get 0=Z4 3 [[Zt x.1,a,b]]:=by rw[F 0 (by have:=K.hp.nx;omega),K.h0]
  simp only[sz,simprocAttr,sf,h1,e0,bl0 hU.cell hb.cell];have M:Own g3 2 U 1 ((List.replicate n (0:UInt8)).map λy=>[Zt y]):=by simpa [Zt] using hU
  have T:∀C:G,C.h=g3.h->∃r,ae C0 (d+1) 29 [.agg [U,.int .u16 0,b]] C=.val r/\IT 0 (Cc x.2.2 n) r:=λC h=>by
   have:=Gk (d:=d+1) (g:=C) (k:=max k d) (P:=λ_=>True) (x:=(List.replicate n (0:UInt8),(0:UInt16),x.2.2)) (v:=.agg [U,.int .u16 0,b]) (abc d) ⟨_,rfl,yO.2 ⟨U,b,rfl,?_,?_⟩⟩
   ·have e:min (List.replicate n (0:UInt8)).length 5=n:=by simp;omega
    rw[e]at this;exact this
   ·rw[h];exact Own.sl (α:=UInt8) M (by simp;omega) (Y7 (λy=>fK.2 rfl) _) λ_ _=>trivial
   ·exact (hb.tree (h':=C.h) (ZV _)).wd λ_ h=>h.elim
  refine aM (T _ (by simp)) λr hr=>?_;simp only[sz,simprocAttr,sf,nW];refine⟨?_,⟨?_,λi hi=>?_⟩,r,hr,?_⟩
  ·simp only[I9,Nq,DI,ML];refine aK (false::(true::(false::(JO [])))) [(1,2),(1,3)] (by simp[ZL,am,aA]) (by decide) ?_;rintro p w x y hx s;simp only[Y0,QA,TP]at w;rcases w with rfl|rfl<;>(simp at hx s;subst hx;subst s;refine dP rfl rfl rfl rfl ?_ ?_ ?_<;>simp[am,aA,an,lg3])
  ·simp;omega
  ·simp;exact F i (by omega)
  ·simp[St,YV,sx,h1,h2,l,h4]
 clear h1 h2 l h4;rintro t df g3 ⟨rfl,F,r5,J,⟨h1,h2,l,h4,h5,-⟩⟩;have H:=K.same F;simp only[sz,simprocAttr];refine bm1 (n:=n) (q:=q) (x:=x) (gr:=gr) (r5:=r5) (num:=num) z ha J hN ⟨by simp[St,YV,sx,h1,h2,l,h4,h5],⟨1,by simp[sx],by decide⟩,V,E,D,H,λv _=>⟨(B v).1,(B v).2.1⟩,λk hk=>by omega,λu=>(B u).2.2⟩ (by simp[sx]) ?_;clear h1 h2 l h4 h5 H;rintro t C ⟨⟨h1,h2,l,h4,h5,-⟩,-,V4,E4,D4,L,f⟩;simp only[sz,simprocAttr,lM];refine bl5 (n:=n) (q:=q) (x:=x) (gr:=gr) (r5:=r5) (num:=num) (abc d) N z ha J hN ⟨by simp[St,YV,sx,h1,h2,l,h4,h5],V4,E4,D4,L,⟨λu hu=>?_,λu hu=>?_,λu hu=>?_,?_,λk _ hk=>f.e _ (hN.lt k hk)⟩,⟨λu hu=>by rw[(f.e u hu).1];exact .nil,λk hk y s=>by rw[(f.e _ (hN.lt k hk)).1]at s;simp at s,λk hk=>by omega,λu r hu hr=>by rw[(f.e u hu).2]at hr;omega⟩⟩ (by simp[sx]) ?_
 ·obtain⟨k,hk,rfl⟩:=hN.sur u hu;exact f.c k hk
 ·rw[(f.e u hu).1];simp
 ·rw[(f.e u hu).2];omega
 ·exact f.o
 clear h1 h2 l h4 h5;rintro t g5 ⟨⟨h1,h2,l,h4,h5,-⟩,V5,E5,D5,j,I,Q⟩;obtain⟨kq,h7,h8⟩:=j.q rfl;simp only[sz,simprocAttr,lL,h4,kq,h2,j.h1];have A:=j.bn.Z7 j.hp (λk h=>.inl h) (by omega) (by omega);refine⟨λ_=>True,⟨gr,(List.range n).map D5.node⟩,⟨by simpa using z,λy s=>?_,λy s=>?_,bl3 hN z (by omega) I Q⟩,⟨_,rfl,fY.2 ⟨_,rfl,A.wd λi hi=>⟨trivial,by simp[Za,show ¬i=1 by omega]⟩⟩⟩⟩
 ·obtain⟨u,hu,rfl⟩:=YY.1 s;exact I.c u (Q9.1 hu)
 ·obtain⟨u,hu,rfl⟩:=YY.1 s;have hu:=Q9.1 hu;refine⟨(j.bn.ps u hu).2,?_,λr hr=>?_⟩
  ·show ((List.range (D5.m u)).map (D5.R u)).length<=1000;simpa using (j.bn.rs u hu).2
  ·obtain⟨r',X,rfl⟩:=YY.1 hr;exact (j.bn.rr u r' hu (Q9.1 X)).1
def EvV(n:Zv):VS:=λP k h v=>∃l:List Int,EQ n l=true/\One l P k h v
theorem bk9(n:Zv):Qx (EvV n) 0:=by
 refine⟨λ{P k h v n} d r hn=>?_,λ{k h v n} r hn=>?_⟩
 ·obtain⟨m,hm,r⟩:=r;obtain⟨v',e,r'⟩:=(aE m).ZS d r hn;exact⟨v',e,m,hm,r'⟩
 ·obtain⟨m,hm,r⟩:=r;exact (aE m).tag r hn
def evP(n:Zv)(l:List Int):Prop:=∀(i:Nat) (x:Int) (c:Node),l[i]?=some x->n.Z7[i]?=some c->-1<=x/\x<c.Z5
theorem bk8{n:Zv}(hl:l.length=n.Z7.length)(h:evP n l):EQ n l=true:=by simp only[EQ,Zk,RY,Xw,Q9];refine⟨hl,λi hi=>?_⟩;obtain⟨x,hx⟩:∃x,l[i]?=some x:=⟨_,Zq hi⟩;obtain⟨c,hc⟩:∃c,n.Z7[i]?=some c:=⟨_,Zq (by omega)⟩;have:=h i x c hx hc;simpa [IO,hx,hc] using this
theorem Lg[Z0]{P:Nat->Prop}{m:Zv}{vs:List UInt8}(hd:0<d)(hv:vs.length=9)(hm:Zl m P k g.h w)(hn:m.Z7.length<=8)(hc:∀x∈m.Z7,0<x.Z5) :
  ∃r,ae C0 d 9 [.agg (vs.map Zt),w] g=.val r/\EvV m ZX 0 .nil r:=by
 obtain⟨v',e,cs,rfl,F⟩:=nC (cH m) (by decide) d hm;obtain⟨b,rfl,hN⟩:=fY.1 F;obtain⟨rows,Q,r2,r3,r4⟩:=hN.all;have Q:∀h',ak h' 3 b=some rows:=Q;rw[Zn];refine aI A8 (xs:=[.agg (vs.map Zt),.agg [Z_ m.Z8,b]]) (by simp only[aD,e,Ub]) (by simp[me]) (bk9 m) (by decide) hd ?_;obtain⟨cu8,n⟩:∃c,c=vs.map Zt:=⟨_,rfl⟩;have hcl:cu8.length=9:=by rw[n,Ju,hv]
 simp only[sz,simprocAttr,me,<-n];generalize hg0:((G.empty.new (Z4 cu8.length [cu8])).new (Z4 2 [[AV.int IntKind.i64 m.Z8,b]]))=g0;have f0:g0.h.get 0=Z4 9 [cu8]:=by rw[<-hg0,hcl];simp[sx,Za]
 have f1:g0.h.get 1=Z4 2 [[Z_ m.Z8,b]]:=by rw[<-hg0];simp[sx]
 have f2:2<=g0.nx:=by rw[<-hg0];simp[sx]
 clear hg0;simp only[sz,simprocAttr,pW];refine bh m.Z7.length (by omega) (λj t df g=>df=[]/\St t [(2,ZZ 0),(3,ZZ 1)]/\g.h.get 0=Z4 9 [cu8]/\g.h.get 1=Z4 2 [[Z_ m.Z8,b]]/\2<=g.nx/\∃u L,ZY t 5=u/\L.length=j/\evP m L/\Own g 2 u 1 (L.map ci))
  ⟨rfl,by simp[sx,St],f0,f1,f2,_,[],rfl,rfl,λi x c hx=>by simp at hx,.inl ⟨by simp[sx],rfl⟩⟩ (by simp[sx]) (by decide) (by rintro j t df g v s (rfl|rfl|rfl)<;>simp[sx,St]) ?_ ?_ ?_
 ·rintro j t df g R ⟨rfl,⟨h2,o,-⟩,e0,e1,A,u,L,h5,hu⟩ p;simp only[sz,simprocAttr,h2,o,p,e0,e1,hN.len,St];exact⟨A,u,L,h5,hu⟩
 ·rintro j t df g R ⟨rfl,⟨h2,o,-⟩,e0,e1,A,u,L,h5,f,q,hu⟩ p;obtain⟨x,hx,W,hm⟩:=ah R;obtain⟨row,z1,z2⟩:=r3 j x hx;obtain⟨fa,fb,rfl,-⟩:=cM.1 z2;have hlt:j<rows.length:=by omega
  have N:=r4 (by omega);have K:j<8:=by omega
  obtain⟨U,O⟩:∃y,vs[0]?=some y:=⟨_,Zq (by omega)⟩;have E:cu8[0]?=some (.int .u8 (U.toNat:Int)):=by rw[n,Zy,O];rfl
  obtain⟨y,Y⟩:∃y,vs[1+j]?=some y:=⟨_,Zq (by omega)⟩;have I:cu8[1+j]?=some (.int .u8 (y.toNat:Int)):=by rw[n,Zy,Y];rfl
  have Z:y.toNat<256:=y.toNat_lt;have H:=hc x hm;obtain⟨z,hz⟩:=HR U.toNat j;obtain⟨z',B⟩:=HQ z 1;have B:bN .and (.int .u8 (z:Int)) (.int .u8 1)=.val (.int .u8 z'):=B;have w8:IntKind.wrap .i64 (y.toNat:Int)=(y.toNat:Int):=aq;have w9:IntKind.wrap .u64 (j:Int)=(j:Int):=du (by omega) (by omega);have key:∀(t:T) (X:Int),-1<=X->X<x.Z5->St t [(2,ZZ 0),(3,ZZ 1),(5,u),(6,Z_ (j:Int)),(7,Z_ X)] ->
    wp C0 (d+1) none iO (λe t df g=>e=.norm/\(df=[]/\St t [(2,ZZ 0),(3,ZZ 1)]/\g.h.get 0=Z4 9 [cu8]/\g.h.get 1=Z4 2 [[Z_ m.Z8,b]]/\2<=g.nx/\∃u L,ZY t 5=u/\L.length=j+1/\evP m L/\Own g 2 u 1 (L.map ci))/\ZY t 6=Z_ (j:Int)) t [] g:=by
   rintro t X C D ⟨h2,o,h5,p,h7,-⟩;simp only[sz,simprocAttr,iO,h5,h7];refine aP (new:=[ci X]) (hu.step (Fr.new _ _)) (by simp[sx,sy,ci]) (by simp;omega) (by simp[aQ,f];omega) λv2 g2 hv2 n2 f2 _ l2=>?_;simp only[sz,simprocAttr,h2,o,p,St];refine⟨?_,?_,?_,_,L++[X],rfl,by simp[f],?_,?_⟩
   ·rw[f2 0 (by simp) (λe=>by have:=(hu.lt e).1;omega),G.new_h,aF,e0]
   ·rw[f2 1 (by simp;omega) (λe=>by have:=(hu.lt e).1;omega),G.new_h,aF,e1]
   ·simp at n2;omega
   ·intro i a c ha l
    by_cases e:i=j
    ·subst e;rw[hx]at l;injection l with l;subst l;rw[<-f,M_]at ha;injection ha with ha;subst ha;exact⟨C,D⟩
    ·have J:i<L.length:=by have:=(tI.1 ha).1;simp at this;omega
     rw[QJ J]at ha;exact q i a c ha l
   ·simpa [ci] using hv2
  simp only[sz,simprocAttr,h2,p,e0,E,w9,hz,B];refine ba (λhb=>?_) (λhb=>?_)
  ·have V:0<=(y.toNat:Int) % x.Z5:=adN _ (by omega);have M:(y.toNat:Int) % x.Z5<x.Z5:=adK _ (by omega);simp only[sz,simprocAttr,h2,o,p,e0,e1,SV 8 1 _ _ _ _ _ K,Nat.mul_one,I,w8,Q,hlt,z1,N,gC .i64 (show 0<=(y.toNat:Int) by omega) H];refine ch _ (key _ ((y.toNat:Int) % x.Z5) (by omega) M (by simp[St,sx,h2,o,h5,p])) ?_;rintro e t df g ⟨rfl,h⟩;exact h
  ·simp only[sx];refine ch _ (key _ (-1) (by omega) (by omega) (by simp[St,sx,h2,o,h5,p])) ?_;rintro e t df g ⟨rfl,h⟩;exact h
 ·rintro t df g ⟨rfl,⟨h2,o,-⟩,e0,e1,A,u,L,h5,f,q,hu⟩;simp only[sz,simprocAttr,oE,h5];exact⟨_,L,bk8 f q,hu.ints (by omega)⟩
theorem AG{α β:Type}{R:α->β->Prop}:∀{l:List α} {m:List β},l.length=m.length->(∀(i:Nat) (a:α) (b:β),l[i]?=some a->m[i]?=some b->R a b)->ZL R l m
 |[],[],_,_=>trivial
 |[],_::_,h,_=>by simp at h
 |_::_,[],h,_=>by simp at h
 |a::l,b::m,h,hr=>⟨hr 0 a b rfl rfl,AG (by simpa using h) λi x y hx hy=>hr (i+1) x y (by simpa using hx) (by simpa using hy)⟩
def oa(V:Ky->AV)(i:Nat)(c:Int):List AV:=[Z_ c,V (i+1,0),V (i+1,1)]
structure Ql (K:Nat) (V:Ky->AV) (E:Ky->En) (i:Nat) (x:Node):Prop where
 ps:E (i+1,0)=.sl 1 (x.Z9.map ci)
 rs:∃Zw,E (i+1,1)=.sl 1 Zw/\Zw.length=x.rows.length/\∀(r:Nat) (y:List Int),x.rows[r]?=some y->Zw[r]?=some [V (i+1,2+r)]
 rr:∀(r:Nat) (y:List Int),x.rows[r]?=some y->E (i+1,2+r)=.sl 1 (y.map ci)
 len:x.Z9.length<=K/\x.rows.length<=K/\∀y∈x.rows,y.length<=K
theorem Ql.congr{V':Ky->AV}{E E':Ky->En}(h:Ql K V E i x)(hv:∀q,V' (i+1,q)=V (i+1,q))(he:∀q,E' (i+1,q)=E (i+1,q)):Ql K V' E' i x:=by obtain⟨Zw,h1,h2,k⟩:=h.rs;exact⟨by rw[he];exact h.ps,⟨Zw,by rw[he];exact h1,h2,λr y hy=>by rw[hv];exact k r y hy⟩,λr y hy=>by rw[he];exact h.rr r y hy,h.len⟩
theorem Ql.up{K':Nat}{E:Ky->En}(h:Ql K V E i x)(hk:K<=K'):Ql K' V E i x :=⟨h.ps,h.rs,h.rr,Y1 h.len.1 hk,Y1 h.len.2.1 hk,λy hy=>Y1 (h.len.2.2 y hy) hk⟩
theorem Ql.rows{g:G}{K i:Nat}{V:Ky->AV}{E:Ky->En}{x:Node}{L:Ky->Prop}(h:Ql K V E i x)(hH:Hp g 3 L V E)(hL:∀q,q<2+x.rows.length->L (i+1,q))(hK:K<=2000000):ZT P3 0 g.h x.rows (V (i+1,1)):=by obtain⟨Zw,h1,h2,k⟩:=h.rs;have ho:=hH.own (hL 1 (by omega)) h1;refine Own.sl (α:=List Int) ho (by have:=h.len;omega) (AG h2.symm λr y row hy hr=>?_) λj hj=>(ho.lt hj).1;rw[k r y hy]at hr;injection hr with hr;subst hr;have hr:=(tI.1 hy).1;exact dW.2 ⟨_,rfl,yQ (hH.own (hL (2+r) (by omega)) (h.rr r y hy)) (by have:=h.len.2.2 y (YH hy);omega) λ_ h=>h⟩
theorem Ql.pars{E:Ky->En}{L:Ky->Prop}(h:Ql K V E i x)(hH:Hp g 3 L V E)(hL:L (i+1,0))(hK:K<=2000000):ZT P3 0 g.h x.Z9 (V (i+1,0)) :=yQ (hH.own hL h.ps) (by have:=h.len;omega) λ_ h=>h
theorem Ql.rd{E:Ky->En}{L:Ky->Prop}(h:Ql K V E i x)(hH:Hp g 3 L V E)(hL:∀q,q<2+x.rows.length->L (i+1,q))(hK:K<=2000000):Rp.rp P3 0 g.h x (oa V i x.Z5) :=cM.2 ⟨_,_,rfl,h.pars hH (hL 0 (by omega)) hK,h.rows hH hL hK⟩
def LS(L:List Node):Ky->Prop:=λk=>k=(0,0)\/∃i q x,k=(i+1,q)/\L[i]?=some x/\q<2+x.rows.length
theorem LS.z{L:List Node}:LS L (0,0):=.inl rfl
theorem LS.s{L:List Node}{q:Nat}(h:L[i]?=some x)(hq:q<2+x.rows.length):LS L (i+1,q):=.inr ⟨i,q,x,rfl,h,hq⟩
theorem LS.nb{L:List Node}:¬LS L (0,1):=by rintro (h|⟨i,q,x,h,-⟩)<;>simp at h
theorem LS.lt{L:List Node}{q:Nat}(h:LS L (i+1,q)):i<L.length:=by
 rcases h with h|⟨i',q',x,h,hx,-⟩
 ·simp at h
 ·simp only[afl]at h;have:=(tI.1 hx).1;omega
structure QL (K:Nat) (V:Ky->AV) (E:Ky->En) (L:List Node):Prop where
 ns:∃rows,E (0,0)=.sl 3 rows/\rows.length=L.length/\∀(i:Nat) (x:Node),L[i]?=some x->rows[i]?=some (oa V i x.Z5)
 nd:∀(i:Nat) (x:Node),L[i]?=some x->Ql K V E i x
theorem QL.congr{K:Nat}{V V':Ky->AV}{E E':Ky->En}{L:List Node}(h:QL K V E L)(hv:∀i q,i<L.length->V' (i+1,q)=V (i+1,q))(he:∀i q,i<L.length->E' (i+1,q)=E (i+1,q))(h0:E' (0,0)=E (0,0)):QL K V' E' L:=by obtain⟨rows,h1,h2,k⟩:=h.ns;have lt:∀{i:Nat} {x:Node},L[i]?=some x->i<L.length:=λhx=>(tI.1 hx).1;exact⟨⟨rows,by rw[h0];exact h1,h2,λi x hx=>by rw[k i x hx,oa,oa,hv i _ (lt hx),hv i _ (lt hx)]⟩,λi x hx=>(h.nd i x hx).congr (λq=>hv i q (lt hx)) λq=>he i q (lt hx)⟩
theorem Lu{W:AV}{rows:List (List AV)}(ho:Own g 3 W 3 rows)(hl:rows.length<=2000000)(h:∀(i:Nat) (row:List AV),rows[i]?=some row->∃x:Node,Rp.rp P3 0 g.h x row):∃nds:List Node,nds.length=rows.length/\ZT P3 0 g.h nds W:=by
 have key:∀(rs:List (List AV)),(∀(i:Nat) (row:List AV),rs[i]?=some row->∃x:Node,Rp.rp P3 0 g.h x row)->∃nds:List Node,nds.length=rs.length/\ZL (Rp.rp P3 0 g.h) nds rs:=by
  intro rs
  induction rs with
  |nil=>intro _;exact⟨[],rfl,trivial⟩
  | cons r rs ih =>intro a;obtain⟨x,hx⟩:=a 0 r rfl;obtain⟨nds,k,ha⟩:=ih λi row hr=>a (i+1) row (by simpa using hr);exact⟨x::nds,by simp[k],hx,ha⟩
 obtain⟨nds,k,ha⟩:=key rows h;exact⟨nds,k,Own.sl (α:=Node) ho (by omega) ha λi hi=>(ho.lt hi).1⟩
def TG(g:G)(DH:List AV)(gr:Int)(b:AV):Prop:=g.h.get 0=Z4 4 [DH]/\g.h.get 1=Z4 2 [[Z_ gr,b]]/\g.h.get 2=Z4 2 [[Z_ 0,.Z6]]
theorem TG.fr{g':G}{b:AV}(h:TG g DH gr b)(hf:∀i,i<3->g'.h.get i=g.h.get i):TG g' DH gr b :=⟨by rw[hf 0 (by omega),h.1],by rw[hf 1 (by omega),h.2.1],by rw[hf 2 (by omega),h.2.2]⟩
def LX(L:List Node)(x:Node):Ky->Prop:=λk=>LS L k\/k=(0,1)\/∃q,k=(L.length+1,q)/\q<2+x.rows.length
theorem LX.b{L:List Node}:LX L x (0,1):=.inr (.inl rfl)
theorem LX.n{L:List Node}{q:Nat}(h:q<2+x.rows.length):LX L x (L.length+1,q):=.inr (.inr ⟨q,rfl,h⟩)
structure NB (K p:Nat) (L:List Node) (x:Node) (g:G) (DH:List AV) (gr:Int) (b W:AV) (V:Ky->AV) (E:Ky->En):Prop where
 hp:Hp g 3 (LX L x) V E
 bb:TG g DH gr b
 vb:V (0,1)=ZZ p
 bx:E (0,1)=.bx (oa V L.length x.Z5)
 nd:Ql K V E L.length x
 bl:QL K V E L
 vw:V (0,0)=W
theorem NB.box{K p:Nat}{L:List Node}{x:Node}{g:G}{DH:List AV}{gr:Int}{b W:AV}{V:Ky->AV}{E:Ky->En}(h:NB K p L x g DH gr b W V E):g.h.get p=Z4 3 [[Z_ x.Z5,V (L.length+1,0),V (L.length+1,1)]]/\3<=p/\p<g.nx:=by obtain⟨id,h1,h2,k,h4⟩:=h.hp.box LX.b h.bx;rw[h.vb]at k;injection k with k;subst k;exact⟨h4,h1,h2⟩
def TW(j p:Nat)(W:AV):List (Nat×AV):=[(2,ZZ 0),(3,ZZ 1),(4,ZZ 2),(5,W),(6,Z_ (j:Int)),(7,ZZ p)]
theorem bk4[Z0]{p:Nat}{L:List Node}{c:Int}{ps:List Int}{b W fa fb:AV}{rows:List (List AV)}{E:Ky->En}(hK:K<=1000000)
  (r1:∀h',ak h' 3 b=some rows) (z1:rows[L.length]?=some [Z_ c,fa,fb]) (hry:nq b=true) (hfa:ZT ZX k .nil ps fa) (hl:ps.length<=K)
  (ht:St t (TW L.length p W)) (hN:NB K p L ⟨c,[],[]⟩ g DH gr b W V E)
  (kk:∀t g V E,St t (TW L.length p W)->NB K p L ⟨c,ps,[]⟩ g DH gr b W V E->Q .norm t [] g) :
  wp C0 d none (.Q8 [0,1,0,4,0,28,60,124,255,511,1023] [oF 29 1 7,oL 30 29,oF 31 1 3,oL 32 31,oM 33 6,YI 34 3 32 33,oF 35 1 34,oL 36 35,Wm 37 1 8 30 36,oF 38 1 7,Xr 1 38 37]) Q t [] g:=by
 obtain⟨h2,o,h4,h5,s,h7,-⟩:=ht;have hlt:L.length<rows.length:=(tI.1 z1).1;obtain⟨m,x,z⟩:=hN.box;have w:=hN.hp.nx;have l:E (L.length+1,0)=.sl 1 []:=hN.nd.ps;simp only[sz,simprocAttr,sf,o,s,h7,hN.bb.2.1,r1,hlt,z1,hry,m];refine (hN.hp.same (g':=_) (by simp) (by simp<;>omega)).app (k:=(L.length+1,0)) (LX.n (by omega)) l (new:=ps.map ci) (by simpa using (hfa.tree (h':=g.h) (ZV _)).ints) (by simp[aQ];omega) λv1 ga hHa na fra fsa lga vca vta=>?_;simp only[sy]at na fra fsa lga;have kb:(0,1)≠(L.length+1,0):=by simp
 obtain⟨p',u,v,a,e⟩:=hHa.box (k:=(0,1)) LX.b (by rw[ac];exact hN.bx);rw[ac,hN.vb]at a;injection a with a;subst a;have e:ga.h.get p=Z4 3 [[Z_ c,V (L.length+1,0),V (L.length+1,1)]]:=e;simp only[sz,simprocAttr,sf,h7,e,vca,vta];refine⟨?_,?_⟩
 ·simp only[I9,Nq,DI,ML];exact aK (Zb (true::(false::(true::[])))) [] (by simp[ZL,am,aA]) (by decide) (by simp)
 have f:=(hHa.same (g':=aS (lC (aS (lC ga []) []) []) []) (by simp) (by simp<;>omega)).putb (k:=(0,1)) LX.b (row:=oa V L.length c) (row':=[Z_ c,v1,V (L.length+1,1)]) (by rw[ac];exact hN.bx) (by rw[ac];exact hN.vb) rfl;refine kk _ _ (ups V (L.length+1,0) v1) (ups (ups E (L.length+1,0) (En.sl 1 ([]++ps.map ci))) (0,1) (En.bx [Z_ c,v1,V (L.length+1,1)])) (by simp[St,TW,sx,h2,o,h4,h5,s,h7]) ?_;refine⟨f.same (by simp[oa]) (by simp),hN.bb.fr (λi hi=>by simp[Za];rw[bJ,fra i hi]),by rw[ac];exact hN.vb,?_,⟨?_,?_,λr y hr=>by simp at hr,hl,by show 0<=K;omega,λy hy=>by simp at hy⟩,?_,by rw[ac];exact hN.vw⟩
 ·rw[au,oa,au,ac (k:=(L.length+1,0)) (j:=(L.length+1,1)) (by simp)]
 ·rw[ac,au];rfl
 ·obtain⟨Zw,q1,q2,q3⟩:=hN.nd.rs;exact⟨Zw,by rw[ac,ac];exact q1,q2,λr y hr=>by simp at hr⟩
 ·refine hN.bl.congr (λi q hi=>?_) (λi q hi=>?_) ?_
  ·rw[ac]
  ·rw[ac,ac]
  ·rw[ac,ac]
theorem bk3[Z0]{p:Nat}{L:List Node}{c:Int}{ps y:List Int}{R:List (List Int)}{b W fa fb fy:AV}{rows Zw:List (List AV)}{E:Ky->En}(hK:K<=1000000)
  (r1:∀h',ak h' 3 b=some rows) (z1:rows[L.length]?=some [Z_ c,fa,fb]) (hry:nq b=true) (w1:∀h',ak h' 1 fb=some Zw) (hryb:nq fb=true) (w2:Zw[i]?=some [fy]) (hfy:ZT ZX k .nil y fy) (hl:y.length<=K) (hRl:R.length=i) (hi:i<K)
  (ht:St t (TW L.length p W)) (h8:ZY t 8=Z_ (i:Int)) (h9:ZY t 9=.Z6) (hN:NB K p L ⟨c,ps,R⟩ g DH gr b W V E)
  (kk:∀t g V E,St t (TW L.length p W)->ZY t 8=Z_ (i:Int)->NB K p L ⟨c,ps,R++[y]⟩ g DH gr b W V E->Q .norm t [] g) :
  wp C0 d none (.Q8 [0,1,0,0,8,0,56,120,248,0,1016,2040,4092,8188,16383,32767,65535] [oF 50 2 7,oL 51 50,oM 52 9,oF 53 1 3,oL 54 53,oM 55 6,YI 56 3 54 55,oF 57 2 56,oL 58 57,oM 59 8,oX 60 58 59,oL 61 60,Wm 62 1 8 52 61,af7 63 62,Wm 64 1 24 51 63,oF 65 2 7,Xr 1 65 64]) Q t [] g:=by
 obtain⟨h2,F,h4,h5,H,h7,-⟩:=ht;have hlt:L.length<rows.length:=(tI.1 z1).1;have o:i<Zw.length:=(tI.1 w2).1;obtain⟨A,U,X⟩:=hN.box;have P:=hN.hp.nx;obtain⟨rw0,e1,u,N⟩:=hN.nd.rs;have u:rw0.length=i:=by rw[u];exact hRl
 simp only[sz,simprocAttr,sf,F,H,h7,h8,h9,hN.bb.2.1,r1,hlt,z1,hry,w1,o,w2,A];refine CO (b:=3) (rows:=[]) (new:=y.map ci) (.inl ⟨rfl,rfl⟩) (by simpa using (hfy.tree (h':=g.h) (ZV _)).ints) (by simp<;>omega) (by simp[aQ];omega) λv2 g2 hv2 n2 fr2 vid2 lg2=>?_;simp only[sy]at n2 fr2 vid2 lg2;have B:¬LX L ⟨c,ps,R⟩ (L.length+1,2+i):=by
  rintro (h|h|⟨q,h,hq⟩)
  ·have:=h.lt;omega
  ·simp at h
  ·simp only[afl]at h;simp at hq;omega
 have v:=hN.hp.add (k:=(L.length+1,2+i)) (L':=LX L ⟨c,ps,R++[y]⟩) (v':=v2) (e':=.sl 1 (y.map ci)) B hv2 (by omega) (λj _ f=>fr2 j (by omega) (by simp[Zi])) (λj f=>by
   rw[cU hv2]at f;rcases vid2 with h|⟨i',h,O⟩
   ·rw[h]at f;cases f
   ·rw[h]at f;injection f with f;omega) (λk hk=>by
   rcases hk with h|h|⟨q,h,hq⟩
   ·exact .inl (.inl h)
   ·exact .inl (.inr (.inl h))
   ·simp at hq
    by_cases e:q=2+i
    ·rw[e]at h;exact .inr h
    ·exact .inl (.inr (.inr ⟨q,h,by simp;omega⟩)))
 simp only[sz,simprocAttr,sf,hv2.cell.1,hv2.cell.2];have D:ups V (L.length+1,2+i) v2 (L.length+1,1)=V (L.length+1,1):=ac;rw[<-D];refine (v.step (g':=_) ?_ ?_).app2 (k:=(L.length+1,1)) (LX.n (by omega)) (by rw[ac];exact e1) (new:=[[v2]]) (by simp[sx,sy]) (by simp[aQ];omega) λv3 g3 hH3 n3 fb3 fo3 lg3 vc3 vt3=>?_
 ·simp;omega
 ·intro j _ f;simp[Za];omega
 simp only[sx,sy]at n3 fb3 fo3 lg3;obtain⟨p',I,J,a,l⟩:=hH3.box (k:=(0,1)) LX.b (by rw[ac,ac];exact hN.bx);rw[ac,ac,hN.vb]at a;injection a with a;subst a;have l:g3.h.get p=Z4 3 [[Z_ c,V (L.length+1,0),V (L.length+1,1)]]:=l;simp only[sz,simprocAttr,sf,h7,l,vc3,vt3];refine⟨?_,?_⟩
 ·simp only[I9,Nq,DI,ML];refine aK (JO (Zb (true::(true::(true::(false::(true::[]))))))) [(0,12),(1,12),(0,13),(1,13)] (by simp[ZL,am,aA]) (by decide) ?_;have m:∀i∈g2.lg,i≠p:=λi hi e=>by
   rcases lg2 i hi with h|h|h
   ·simp at h
   ·simp[Zi]at h
   ·omega
  rintro q s x y hx M;simp only[Y0,QA,TP]at s;rcases s with rfl|rfl|rfl|rfl<;>(simp at hx M;subst hx;subst M;refine dP rfl rfl rfl rfl ?_ ?_ ?_<;>simp[am,aA,an]<;>first|omega|exact m|exact λi hi e=>m i hi e.symm)
 have w:=(hH3.same (g':=aS (lC (aS (lC g3 []) []) []) []) (by simp) (by simp<;>omega)).putb (k:=(0,1)) LX.b (row:=oa V L.length c) (row':=[Z_ c,V (L.length+1,0),v3]) (by rw[ac,ac];exact hN.bx) (by rw[ac,ac];exact hN.vb) rfl;refine kk _ _ _ _ (by simp[St,TW,sx,h2,F,h4,h5,H,h7]) (by simp[sx,h8]) ⟨w.same (by simp[oa]) (by simp),hN.bb.fr (λj f=>?_),?_,?_,⟨?_,?_,λr z hr=>?_,hN.nd.len.1,by simp;omega,λz hz=>?_⟩,?_,?_⟩
 ·simp[Za];rw[bJ,fb3 j f]
  try simp[Za]
  rw[bJ,fr2 j (by omega) (by simp[Zi])]
 ·rw[ac,ac];exact hN.vb
 ·rw[au,oa,au,ac,ac]
 ·rw[ac,ac,ac];exact hN.nd.ps
 ·refine⟨rw0++[[v2]],by rw[ac,au],by simp[u,hRl],λr z hr=>?_⟩
  by_cases e:r=i
  ·subst e;rw[ac,au,<-u,M_]
  ·have C:r<i:=by have:=(tI.1 hr).1;simp at this;omega
   rw[ac,ac,QJ (by omega)];have hr:(R++[y])[r]?=some z:=hr;rw[QJ (by omega)]at hr;exact N r z hr
 ·rw[ac,ac];have hr:(R++[y])[r]?=some z:=hr
  by_cases e:r=i
  ·subst e;rw[<-hRl,M_]at hr;injection hr with hr;subst hr;rw[<-hRl,au]
  ·have C:r<i:=by have:=(tI.1 hr).1;simp at this;omega
   rw[QJ (by omega)]at hr;rw[ac];exact hN.nd.rr r z hr
 ·rcases Tn.1 hz with h|h
  ·exact hN.nd.len.2.2 z h
  ·rw[Wa.1 h];exact hl
 ·refine hN.bl.congr (λj q f=>?_) (λj q f=>?_) ?_
  ·rw[ac,ac]
  ·rw[ac,ac,ac]
  ·rw[ac,ac,ac]
 ·rw[ac,ac];exact hN.vw
theorem bk2[Z0]{p:Nat}{L:List Node}{b W fa fb:AV}{rows:List (List AV)}{E:Ky->En}(hK:K<=1000000)
  (r1:∀h',ak h' 3 b=some rows) (z1:rows[L.length]?=some [Z_ x.Z5,fa,fb]) (hry:nq b=true) (hfb:ZT ZX k .nil x.rows fb) (hl:x.rows.length<=K) (hll:∀y∈x.rows,y.length<=K)
  (ht:St t (TW L.length p W)) (h8:ZY t 8=Z_ 0) (hN:NB K p L ⟨x.Z5,x.Z9,[]⟩ g DH gr b W V E)
  (fin:∀t g V E,St t (TW L.length p W)->NB K p L x g DH gr b W V E->Q (.exit 2) t [] g):Uk (wp C0 d none jl) Q t [] g:=by
 obtain⟨Zw,w1,q,n,o⟩:=hfb.all;have w1:∀h',ak h' 1 fb=some Zw:=w1;have lfb:=hfb.len;have hlt:L.length<rows.length:=(tI.1 z1).1;obtain⟨FR,c⟩:∃FR,FR=SC.Q8 [0,1,0,0,8,0,56,120,248,0,1016,2040,4092,8188,16383,32767,65535] [oF 50 2 7,oL 51 50,oM 52 9,oF 53 1 3,oL 54 53,oM 55 6,YI 56 3 54 55,oF 57 2 56,oL 58 57,oM 59 8,oX 60 58 59,oL 61 60,Wm 62 1 8 52 61,af7 63 62,Wm 64 1 24 51 63,oF 65 2 7,Xr 1 65 64]:=⟨_,rfl⟩;simp only[jl,ZQ];rw[<-c];refine bh x.rows.length (by omega) (λj t df g=>df=[]/\St t (TW L.length p W)/\∃V E,NB K p L ⟨x.Z5,x.Z9,x.rows.take j⟩ g DH gr b W V E)
  ⟨rfl,ht,V,E,by simpa using hN⟩ h8 (by decide) (by rintro j t df g v s (rfl|rfl|rfl)<;>simp[St,TW,sx]) ?_ ?_ ?_
 ·rintro j t df g l ⟨rfl,⟨h2,h,h4,h5,a,h7,-⟩,V,E,hN⟩ h8;simp only[sz,simprocAttr,h,a,h8,hN.bb.2.1,r1,hlt,z1,hry,lfb];exact⟨by simp[St,TW,sx,h2,h,h4,h5,a,h7],V,E,hN⟩
 ·clear ht h8 hN;rintro j t df g l ⟨rfl,⟨h2,h,h4,h5,a,h7,-⟩,V,E,hN⟩ h8;obtain⟨y,m,f,hm⟩:=ah l;obtain⟨row,q1,q2⟩:=n j y m;obtain⟨fy,rfl,e⟩:=dW.1 q2;simp only[sz,simprocAttr];rw[c];refine bk3 (i:=j) (y:=y) (R:=x.rows.take j) hK r1 z1 hry w1 (o (by omega)) q1 e (hll y hm) (by simp<;>omega) (by omega) (by simp[St,TW,sx,h2,h,h4,h5,a,h7]) (by simp[sx,h8]) (by simp[sx]) hN ?_;clear h2 h h4 h5 a h7 h8 hN;intro t g V E ht h8 hN;rw[<-f]at hN;exact⟨⟨rfl,ht,V,E,hN⟩,h8⟩
 ·rintro t df g ⟨rfl,ht,V,E,hN⟩;rw[Xo]at hN;exact fin t g V E ht hN
theorem bk1{L:List Node}{k:Ky}(h:LS (L++[x]) k):LX L x k:=by
 rcases h with h|⟨i,q,y,h,hi,hq⟩
 ·exact .inl (.inl h)
 ·by_cases e:i<L.length
  ·rw[QJ e]at hi;exact .inl (.inr ⟨i,q,y,h,hi,hq⟩)
  ·have a:=(tI.1 hi).1;simp at a;have e:i=L.length:=by omega
   subst e;rw[M_]at hi;injection hi with hi;subst hi;exact .inr (.inr ⟨q,h,hq⟩)
theorem bk0[Z0]{m:Zv}{b:AV}{E:Ky->En}(hK:K<=1000000)(hS:ZT ZX k .nil m.Z7 b)(hl:m.Z7.length<=K)
  (hb:∀x∈m.Z7,x.Z9.length<=K/\x.rows.length<=K/\∀r∈x.rows,r.length<=K)
  (ht:St t [(2,ZZ 0),(3,ZZ 1),(4,ZZ 2)]) (h5:ZY t 5=V (0,0)) (h6:ZY t 6=Z_ 0) (hH:Hp g 3 (LS []) V E) (hB:TG g DH m.Z8 b) (hD:QL K V E [])
  (fin:∀t g V E,St t [(2,ZZ 0),(3,ZZ 1),(4,ZZ 2)]->ZY t 5=V (0,0)->Hp g 3 (LS m.Z7) V E->TG g DH m.Z8 b->QL K V E m.Z7->Q (.exit 0) t [] g):Uk (wp C0 d none jn) Q t [] g:=by
 obtain⟨rows,F,r2,r3,r4⟩:=hS.all;have F:∀h',ak h' 3 b=some rows:=F;have lS:=hS.len;obtain⟨FR,A⟩:∃FR,FR=SC.Q8 [0,1,0,4,0,28,60,124,255,511,1023] [oF 29 1 7,oL 30 29,oF 31 1 3,oL 32 31,oM 33 6,YI 34 3 32 33,oF 35 1 34,oL 36 35,Wm 37 1 8 30 36,oF 38 1 7,Xr 1 38 37]:=⟨_,rfl⟩;simp only[jn,pV,ZQ,Qy];rw[<-A];refine bh m.Z7.length (by omega) (λj t df g=>df=[]/\St t [(2,ZZ 0),(3,ZZ 1),(4,ZZ 2)]/\∃V E,ZY t 5=V (0,0)/\Hp g 3 (LS (m.Z7.take j)) V E/\TG g DH m.Z8 b/\QL K V E (m.Z7.take j))
  ⟨rfl,ht,V,E,h5,by simpa using hH,hB,by simpa using hD⟩ h6 (by decide) (by rintro j t df g v s (rfl|rfl|rfl)<;>simp[St,sx]) ?_ ?_ ?_
 ·rintro j t df g U ⟨rfl,⟨h2,f,h4,-⟩,V,E,h5,hH,hB,hD⟩ h6;simp only[sz,simprocAttr,h2,f,h4,h5,h6,hB.2.1,lS,St];exact⟨V,E,rfl,hH,hB,hD⟩
 ·clear ht h5 h6 hH hB hD;rintro j t df g U ⟨rfl,⟨h2,f,h4,-⟩,V,E,h5,hH,hB,hD⟩ h6;obtain⟨x,hx,w,hm⟩:=ah U;obtain⟨row,q1,q2⟩:=r3 j x hx;obtain⟨fa,fb,rfl,J,M⟩:=cM.1 q2;have hlt:j<rows.length:=by omega
  have u:=r4 (by omega);obtain⟨l1,l2,l3⟩:=hb x hm;have Z:=hH.nx;obtain⟨p,hp⟩:∃p,p=g.nx:=⟨_,rfl⟩;obtain⟨L,R⟩:∃L,L=m.Z7.take j:=⟨_,rfl⟩;have n:L.length=j:=by rw[R];simp;omega
  rw[<-R]at hH hD w;obtain⟨g1,l⟩:∃g1,g1=(g.new (Z4 3 [[Z_ 0,.Z6,.Z6]])).put g.nx (Z4 3 [[Z_ x.Z5,.Z6,.Z6]]):=⟨_,rfl⟩;have n1:g.nx+1=g1.nx:=by rw[l];simp
  have f1:∀i,i<g.nx->g1.h.get i=g.h.get i:=λi hi=>by rw[l,G.put_h,aF,G.new_h,aF]
  have B:=hH.add (k:=(0,1)) (L':=λk=>LS L k\/k=(0,1)) (g':=g1) (v':=ZZ g.nx) (e':=.bx [Z_ x.Z5,.Z6,.Z6]) LS.nb ⟨g.nx,by omega,by omega,rfl,by rw[l];simp[aY]⟩ (by omega) (λi _ hi=>f1 i hi) (λi hi=>by injection hi with hi;omega) (λk hk=>hk);have C:=B.add (k:=(L.length+1,0)) (L':=λk=>(LS L k\/k=(0,1))\/k=(L.length+1,0)) (v':=.Z6) (e':=.sl 1 []) (by rintro (h|h);exact absurd h.lt (by omega);simp at h) (.inl ⟨rfl,rfl⟩) (ZV _) (λ_ _ _=>rfl) (λi hi=>by cases hi) (λk hk=>hk);have D:=C.add (k:=(L.length+1,1)) (L':=LX L ⟨x.Z5,[],[]⟩) (v':=.Z6) (e':=.sl 1 []) (by rintro ((h|h)|h);exact absurd h.lt (by omega);simp at h;simp at h) (.inl ⟨rfl,rfl⟩) (ZV _) (λ_ _ _=>rfl) (λi hi=>by cases hi) (λk hk=>by
   rcases hk with h|h|⟨q,h,hq⟩
   ·exact .inl (.inl (.inl h))
   ·exact .inl (.inl (.inr h))
   ·have hq:q<2:=hq;have:q=0\/q=1:=by omega
    rcases this with e|e<;>subst e
    ·exact .inl (.inr h)
    ·exact .inr h)
  have a:NB K p L ⟨x.Z5,[],[]⟩ g1 DH m.Z8 b (V (0,0)) (ups (ups (ups V (0,1) (ZZ g.nx)) (L.length+1,0) .Z6) (L.length+1,1) .Z6) (ups (ups (ups E (0,1) (.bx [Z_ x.Z5,.Z6,.Z6])) (L.length+1,0) (.sl 1 [])) (L.length+1,1) (.sl 1 [])):=by
   refine⟨D,hB.fr λi hi=>f1 i (by omega),by simp[ac,au,hp],by simp[ac,au,oa],⟨by simp[ac,au],⟨[],by simp[au],rfl,λr y hr=>by simp at hr⟩,λr y hr=>by simp at hr,by show 0<=K;omega,by show 0<=K;omega,λy c=>by simp at c⟩,hD.congr (λi q hi=>?_) (λi q hi=>?_) (by simp[ac]),by simp[ac]⟩
   ·rw[ac,ac,ac]
   ·rw[ac,ac,ac]
  clear B C D;have X:rows[L.length]?=some [Z_ x.Z5,fa,fb]:=by rw[n];exact q1
  refine eK (P:=λt df g'=>df=[]/\g'=g1/\St t (TW L.length p (V (0,0)))) ?_ ?_
  ·simp only[sz,simprocAttr,f,h6,hB.2.1,F,hlt,q1,u];refine⟨by rw[l],?_⟩;simp[St,TW,sx,h2,f,h4,h5,h6,hp,n]
  rintro t df g2 ⟨rfl,rfl,ht⟩;rw[eO,A];refine bk4 hK F X u J l1 ht a ?_;clear a ht;rintro t g V1 E1 ⟨h2,f,h4,h5,h6,h7,-⟩ a;rw[Bn];simp only[sz,simprocAttr];refine bk2 (x:=x) hK F X u M l2 l3 (by simp[St,TW,sx,h2,f,h4,h5,h6,h7]) (by simp[sx]) a ?_;clear a h2 f h4 h5 h6 h7;rintro t g V1 E1 ⟨h2,f,h4,h5,h6,h7,-⟩ a;obtain⟨N,h1,h8⟩:=a.box;obtain⟨rw0,e1,H,Y⟩:=a.bl.ns;simp only[sz,simprocAttr,pU,h5,h7,N];rw[<-a.vw];have W:=a.hp.nx;refine (a.hp.step (g':=g.new (Z4 3 [[Z_ x.Z5,V1 (L.length+1,0),V1 (L.length+1,1)]])) (by simp) (λi _ hi=>by rw[G.new_h,aF])).app (k:=(0,0)) (.inl LS.z) e1
   (new:=[[Z_ x.Z5,V1 (L.length+1,0),V1 (L.length+1,1)]]) (by simp[sx,sy]) (by simp[aQ];omega) λv3 g3 hH4 n3 fr3 _ lg3 vc3 vt3=>?_
  simp only[sx,sy]at n3 fr3;simp only[sz,simprocAttr,h2,f,h4,h6,St];rw[n];refine⟨⟨ups V1 (0,0) v3,ups E1 (0,0) (.sl 3 (rw0++[[Z_ x.Z5,V1 (L.length+1,0),V1 (L.length+1,1)]])),(au _ _ _).symm,?_,a.bb.fr (λi hi=>by rw[fr3 i hi,bJ]),?_⟩,rfl⟩
  ·rw[w];exact hH4.sub λk hk=>bk1 hk
  ·rw[w];have I:=a.bl.congr (V':=ups V1 (0,0) v3) (E':=ups E1 (0,0) (.sl 3 rw0)) (λi q hi=>ac) (λi q hi=>ac) (by rw[au,e1]);have O:=a.nd.congr (V':=ups V1 (0,0) v3) (E':=ups E1 (0,0) (.sl 3 (rw0++[[Z_ x.Z5,V1 (L.length+1,0),V1 (L.length+1,1)]]))) (λq=>ac) (λq=>ac);refine⟨⟨_,au _ _ _,by simp[H],λi y c=>?_⟩,λi y c=>?_⟩
   ·by_cases e:i<L.length
    ·rw[QJ e]at c;rw[QJ (by omega),Y i y c,oa,oa,ac,ac]
    ·have o:=(tI.1 c).1;simp at o;have e:i=L.length:=by omega
     subst e;rw[M_]at c;injection c with c;subst c;rw[<-H,M_,H,oa,ac,ac]
   ·by_cases e:i<L.length
    ·rw[QJ e]at c;exact (I.nd i y c).congr (λq=>rfl) (λq=>by rw[ac,ac])
    ·have o:=(tI.1 c).1;simp at o;have e:i=L.length:=by omega
     subst e;rw[M_]at c;injection c with c;subst c;exact O
 ·rintro t df g ⟨rfl,ht,V,E,h5,hH,hB,hD⟩;rw[Xo]at hH hD;exact fin t g V E ht h5 hH hB hD
theorem bY{sz:Nat}{v:AV}{off:Nat}(h:nq v=true):OV (mA sz v i off)=.val (mA sz v i off):=by cases v<;>first|rfl|cases h
theorem ZT.far{α:Type} [Rp α]{P:Nat->Prop}{h h':H}{l:List α}{v:AV}(r:ZT P k h l v)(hf:∀i,P i->h'.get i=h.get i):ZT P k h' l v:=by obtain⟨w,hw,q⟩:=Rp.mono (P':=P) (h':=h') (show Rp.rp P k h l [v] from ⟨v,rfl,r⟩) (λi hi=>⟨hi,hf i hi⟩) (ZV _);injection hw with hw;subst hw;exact q
theorem ZT.heap{α:Type} [Rp α]{P:Nat->Prop}{h h':H}{l:List α}{v:AV}(r:ZT P k h l v)(hf:h'=h):ZT P k h' l v:=by subst hf;exact r
theorem Own.refs_lt{g:G}{b sz:Nat}{v:AV}{rows:List (List AV)}(h:Own g b v sz rows):∀i∈an v,b<=i/\i<g.nx:=by
 rcases h with⟨rfl,-⟩|⟨id,ep,lo,h1,h2,rfl,-⟩
 ·intro i hi;simp[an]at hi
 ·intro i hi;simp[an]at hi;omega
theorem Po{α:Type} [Rp α]{g:G}{b:Nat}{rows:List (List AV)}(hu:Own g b u (Rp.sz α) rows)(hne:rows≠[]){n:Nat}(hn:n<=rows.length) :
  ∃y,Au (Rp.sz α) u none (some (Z_ (n:Int))) g=.val y/\(y.cells=[y]/\y.isTup=false)/\∀(P:Nat->Prop) (k:Nat) (l:List α) (h':H),(∀i,Zi u=some i->h'.get i=g.h.get i)->ZT P k h' l u->ZT P k h' (l.take n) y:=by
 rcases hu with⟨rfl,rfl⟩|⟨id,ep,lo,h1,h2,rfl,d⟩
 ·exact absurd rfl hne
 ·simp only[Au,qz,d,X_,U2,ax,Ku,aa,R1,ZV,if_true,bc,XH,Fa];simp only[dU];rw[show ap (n.ble rows.length) (some n) none=some n from by rw[aa,ZN (by simpa using hn)]];dsimp only;have hb:rows.length.beq 0=false:=by cases rows with|nil=>exact absurd rfl hne|cons a l=>rfl
  rw[hb];refine⟨_,rfl,⟨rfl,rfl⟩,λP k l h' hh h=>?_⟩;have c:=hh id rfl;rw[d]at c;obtain⟨hl,hp,rr,q1,q2⟩:=h;rw[fX,c,CV]at q1;injection q1 with q1;subst q1;refine⟨by rw[Rk];omega,hp,rows.take n,?_,q2.take n⟩;rw[fX,c,dJ,i6,XI]
structure UK (K:Nat) (L:List Node) (J:Nat) (V:Ky->AV) (E:Ky->En) (rows:List (List AV)):Prop where
 len:rows.length=L.length
 ns:∀(i:Nat) (y:Node),i≠J->L[i]?=some y->rows[i]?=some (oa V i y.Z5)
 nd:∀(i:Nat) (y:Node),i≠J->L[i]?=some y->Ql K V E i y
theorem bj_{K J:Nat}{L:List Node}{V:Ky->AV}{E:Ky->En}{rows:List (List AV)}(h1:rows.length=L.length)(h2:∀(i:Nat) (x:Node),L[i]?=some x->rows[i]?=some (oa V i x.Z5))(h:QL K V E L):UK K L J V E rows :=⟨h1,λi y _ hy=>h2 i y hy,λi y _ hy=>h.nd i y hy⟩
theorem UK.v{K J q:Nat}{L:List Node}{V:Ky->AV}{E:Ky->En}{rows:List (List AV)}{v:AV}(h:UK K L J V E rows):UK K L J (ups V (J+1,q) v) E rows :=⟨h.len,λi y hi hy=>by rw[h.ns i y hi hy,oa,oa,ac,ac],λi y hi hy=>(h.nd i y hi hy).congr (λs=>ac) λ_=>rfl⟩
theorem UK.e{K J q:Nat}{L:List Node}{V:Ky->AV}{E:Ky->En}{rows:List (List AV)}{v:En}(h:UK K L J V E rows):UK K L J V (ups E (J+1,q) v) rows :=⟨h.len,h.ns,λi y hi hy=>(h.nd i y hi hy).congr (λ_=>rfl) λs=>ac⟩
theorem UK.z{K J:Nat}{L:List Node}{V:Ky->AV}{E:Ky->En}{rows:List (List AV)}{v:En}(h:UK K L J V E rows):UK K L J V (ups E (0,0) v) rows :=⟨h.len,h.ns,λi y hi hy=>(h.nd i y hi hy).congr (λ_=>rfl) λs=>ac⟩
theorem Ai{K J:Nat}{L:List Node}{V:Ky->AV}{E:Ky->En}{rows:List (List AV)}{row':List AV}{x':Node}{g:G}{M:Ky->Prop}{W:AV}(hH:Hp g 3 M V E)(hM:∀k,LS L k->M k)(hO:UK K L J V E rows)(e0:E (0,0)=.sl 3 (rows.set J row'))
  (hw:V (0,0)=W) (hr:Rp.rp P3 0 g.h x' row') (hK:K<=1000001) (hl:L.length<=1000001):∃nds:List Node,ZT P3 0 g.h nds W:=by
 have ho:=hH.own (hM _ LS.z) e0;rw[hw]at ho;obtain⟨nds,-,h⟩:=Lu ho (by simp[hO.len];omega) λi row hi=>by
  rw[VY]at hi
  by_cases e:J=i
  ·rw[ZN e]at hi
   split at hi
   ·injection hi with hi;subst hi;exact⟨x',hr⟩
   ·cases hi
  ·rw[ZF e]at hi;have a:=(tI.1 hi).1;obtain⟨y,b⟩:∃y,L[i]?=some y:=⟨_,Zq (by rw[<-hO.len];exact a)⟩;rw[hO.ns i y (Vw e) b]at hi;injection hi with hi;subst hi;exact⟨y,(hO.nd i y (Vw e) b).rd hH (λq hq=>hM _ (LS.s b hq)) (by omega)⟩
 exact⟨nds,h⟩
theorem QL.sl{K:Nat}{L:List Node}{V:Ky->AV}{E:Ky->En}{g:G}(h:QL K V E L)(hH:Hp g 3 (LS L) V E)(hK:K<=1000001)(hl:L.length<=1000001):ZT P3 0 g.h L (V (0,0)):=by obtain⟨rows,h1,h2,k⟩:=h.ns;have ho:=hH.own LS.z h1;refine Own.sl (α:=Node) ho (by omega) (AG h2.symm λi y row hy hr=>?_) λi hi=>(ho.lt hi).1;rw[k i y hy]at hr;injection hr with hr;subst hr;exact (h.nd i y hy).rd hH (λq hq=>LS.s hy hq) (by omega)
structure BS (K J:Nat) (L:List Node) (x:Node) (bx:po) (gr Rw:Int) (t:T) (g:G) (V:Ky->AV) (E:Ky->En):Prop where
 st:St t [(2,ZZ 0),(3,ZZ 1),(4,ZZ 2),(10,mA 3 (V (0,0)) J 0),(11,Z_ Rw)]
 hp:Hp g 3 (LS L) V E
 f0:g.h.get 0=Z4 4 [[Zt bx.1,Zt bx.2.1,Zt bx.2.2.1,Z_ bx.2.2.2]]
 f1:g.h.get 1=Z4 2 [[Z_ gr,V (0,0)]]
 f2:g.h.get 2=Z4 2 [[Z_ 0,.Z6]]
 bl:QL K V E L
 hx:L[J]?=some x
 hR:(Rw = -1/\x.rows.length=0)\/∃r:Nat,Rw=(r:Int)/\r<x.rows.length
 hK:K<=1000000
 hl:L.length<=K
def AC(Q:QT):Prop:=∀t g gr nv nds,ZY t 3=ZZ 1->ZY t 4=ZZ 2->g.h.get 1=Z4 2 [[Z_ gr,nv]]->g.h.get 2=Z4 2 [[Z_ 0,.Z6]]->ZT (α:=Node) P3 0 g.h nds nv->Q .norm t [] g
structure BT (K J:Nat) (L:List Node) (x:Node) (g:G) (V:Ky->AV) (E:Ky->En) (rows:List (List AV)):Prop where
 own:Own g 3 (V (0,0)) 3 rows
 e0:E (0,0)=.sl 3 rows
 ry:nq (V (0,0))=true
 hlt:J<rows.length
 row:rows[J]?=some [Z_ x.Z5,V (J+1,0),V (J+1,1)]
 Xt:UK K L J V E rows
 nd:Ql K V E J x
theorem BS.bt{K J:Nat}{L:List Node}{x:Node}{bx:po}{gr Rw:Int}{t:T}{g:G}{V:Ky->AV}{E:Ky->En}(h:BS K J L x bx gr Rw t g V E):∃rows,BT K J L x g V E rows:=by obtain⟨rows,h1,h2,k⟩:=h.bl.ns;have a:=(tI.1 h.hx).1;have ho:=h.hp.own LS.z h1;exact⟨rows,ho,h1,ib ho (by omega),by omega,k J x h.hx,bj_ h2 k h.bl,h.bl.nd J x h.hx⟩
theorem BS.sl{K J:Nat}{L:List Node}{x:Node}{bx:po}{gr Rw:Int}{t:T}{g:G}{V:Ky->AV}{E:Ky->En}(h:BS K J L x bx gr Rw t g V E):ZT P3 0 g.h L (V (0,0)):=h.bl.sl h.hp (by have:=h.hK;omega) (by have:=h.hK;have:=h.hl;omega)
theorem XX(h:P3 i):¬i=1/\¬i=2:=by have:3<=i:=h;omega
section
variable {d K J:Nat}{L:List Node}{x:Node}{bx:po}{gr Rw:Int}{t:T}{g:G}{V:Ky->AV}{E:Ky->En}{Q:QT}
theorem bc0[Z0](hS:BS K J L x bx gr Rw t g V E)(fin:AC Q) :
  wp C0 d none (.ops [oF 112 3 2,oL 113 112,oF 114 0 3,Xr 1 114 113]) Q t [] g:=by
 obtain⟨h2,h,h4,k,a,-⟩:=hS.st;simp only[sz,simprocAttr,h2,h,hS.f0,hS.f1];exact fin _ _ bx.2.2.2 _ _ (by simp[sx,h]) (by simp[sx,h4]) (by simp[Za]) (by simp[Za,hS.f2]) (hS.sl.far λi hi=>by simp[Za,XX hi])
theorem bc1[Z0](hS:BS K J L x bx gr Rw t g V E)(fin:AC Q) :
  wp C0 d none (.ops [oM 117 10,oF 118 3 2,oL 119 118,U3 120 117,oF 121 0 120,Xr 1 121 119]) Q t [] g:=by
 obtain⟨h2,e,h4,a,c,-⟩:=hS.st;obtain⟨rows,h⟩:=hS.bt;have hK:=hS.hK;have hl:=hS.hl;simp only[sz,simprocAttr,h2,a,hS.f0,bY h.ry,co h.ry];refine hS.hp.put LS.z (row':=[Z_ bx.2.2.2,V (J+1,0),V (J+1,1)]) h.e0 h.row rfl rfl rfl λgb hHb nb frb _=>?_;simp only[sx];have b:Ql K V (ups E (0,0) (.sl 3 (rows.set J [Z_ bx.2.2.2,V (J+1,0),V (J+1,1)]))) J ⟨bx.2.2.2,x.Z9,x.rows⟩:=by have:=h.nd.congr (V':=V) (E':=ups E (0,0) (.sl 3 (rows.set J [Z_ bx.2.2.2,V (J+1,0),V (J+1,1)]))) (λ_=>rfl) (λq=>ac);exact⟨this.ps,this.rs,this.rr,this.len⟩
 obtain⟨nds,f⟩:=Ai hHb (λk hk=>hk) h.Xt.z (au _ _ _) rfl (b.rd hHb (λq hq=>LS.s hS.hx hq) (by omega)) (by omega) (by omega);exact fin _ _ gr _ nds (by simp[sx,e]) (by simp[sx,h4]) (by rw[frb 1 (by omega),hS.f1]) (by rw[frb 2 (by omega),hS.f2]) f
theorem bc2[Z0](hS:BS K J L x bx gr Rw t g V E)(fin:AC Q) :
  wp C0 d none (.Q8 [0,0,2,6,14,0,32,96,254,511,1023,2047] [oM 124 10,oM 125 10,U3 126 125,oF 127 1 126,oL 128 127,oF 129 3 2,oL 130 129,QE 131 130,Wm 132 1 8 128 131,U3 133 124,oF 134 1 133,Xr 1 134 132]) Q t [] g:=by
 obtain⟨h2,B,h4,o,A,-⟩:=hS.st;obtain⟨rows,a⟩:=hS.bt;have hK:=hS.hK;have hl:=hS.hl;have D:=hS.hp.nx;have w:=a.nd.ps;have j:=a.nd.len;simp only[sz,simprocAttr,sf,h2,o,hS.f0,bY a.ry,co a.ry,a.own.rows,a.hlt,a.row];refine (hS.hp.step (g':=_) (by simp<;>omega) (λi hi hi2=>?_)).app2 (k:=(J+1,0)) (LS.s hS.hx (by omega)) w (new:=[[Z_ bx.2.2.2]]) (by simp[sx,sy]) (by simp[aQ];omega) λv1 ga hHa na fra foa lga vca vta=>?_
 ·simp[Za];omega
 simp only[sx,sy]at na fra foa lga;have f:ups V (J+1,0) v1 (0,0)=V (0,0):=ac;simp only[sz,simprocAttr,sf,bY a.ry,co a.ry];refine (hHa.same (g':=_) (by simp) (by simp<;>omega)).putv (k:=(0,0)) LS.z f (row':=[Z_ x.Z5,v1,V (J+1,1)]) (by rw[ac];exact a.e0) a.row (by rw[vca];rfl) vta (by rw[vca];rfl) λgb hHb nb frb _=>?_;simp only[sy]at nb frb ⊢;refine⟨?_,?_⟩
 ·simp only[I9,Nq,DI,ML];refine aK (false::(Vk (JO (true::(true::(Vk (true::[]))))))) [(0,7),(1,7),(2,7),(3,7),(4,7),(0,8)] (by simp[ZL,am,aA]) (by decide) ?_;rintro p hp x y hx b;simp only[Y0,QA,TP]at hp;have ro1:=a.own.refs_lt;rcases hp with rfl|rfl|rfl|rfl|rfl|rfl<;>(simp at hx b;subst hx;subst b;refine dP rfl rfl rfl rfl ?_ ?_ ?_<;>simp[am,aA,nk a.ry]<;>first|omega| (intro i' c;have:=ro1 i' c;omega)| (intro i' c;rcases lga i' c with h|h<;>first|omega|simp at h)|skip)
 have u:Ql (K+1) (ups V (J+1,0) v1) (ups (ups E (J+1,0) (.sl 1 (x.Z9.map ci++[[Z_ bx.2.2.2]]))) (0,0) (.sl 3 (rows.set J [Z_ x.Z5,v1,V (J+1,1)]))) J ⟨x.Z5,x.Z9++[bx.2.2.2],x.rows⟩:=by
  obtain⟨Zw,q1,q2,q3⟩:=a.nd.rs;exact⟨by rw[ac,au];simp[ci],⟨Zw,by rw[ac,ac];exact q1,q2,λr y b=>by rw[ac];exact q3 r y b⟩,
   λr y b=>by rw[ac,ac];exact a.nd.rr r y b,by simp;omega,by show x.rows.length<=K+1;omega,λy b=>by have:=j.2.2 y b;omega⟩
 have l:=u.rd hHb (λq hq=>LS.s hS.hx hq) (by omega);rw[oa,au,ac]at l;obtain⟨nds,C⟩:=Ai hHb (λk hk=>hk) a.Xt.v.e.z (au _ _ _) f l (by omega) (by omega);have m:gb.h.get 1=Z4 2 [[Z_ gr,V (0,0)]]:=by rw[frb 1 (by omega)];(try simp);rw[fra 1 (by omega),bJ,hS.f1]
 have n:gb.h.get 2=Z4 2 [[Z_ 0,.Z6]]:=by rw[frb 2 (by omega)];(try simp);rw[fra 2 (by omega),bJ,hS.f2]
 exact fin _ _ gr _ nds (by simp[sx,B]) (by simp[sx,h4]) (by simpa using m) (by simpa using n) (C.heap (by simp))
theorem bc3[Z0](hS:BS K J L x bx gr Rw t g V E)(fin:AC Q) :
  wp C0 d none (.ops [oM 137 10,U3 138 137,oF 139 1 138,oz (.store 1 (.t 139) (.k (.Z6)))]) Q t [] g:=by
 obtain⟨h2,i,h4,b,f,-⟩:=hS.st;obtain⟨rows,a⟩:=hS.bt;have hK:=hS.hK;have hl:=hS.hl;simp only[sz,simprocAttr,b,bY a.ry,co a.ry];refine hS.hp.put LS.z (row':=[Z_ x.Z5,.Z6,V (J+1,1)]) a.e0 a.row rfl rfl rfl λgb hHb nb frb _=>?_;simp only[sx];have c:=a.nd.congr (V':=V) (E':=ups E (0,0) (.sl 3 (rows.set J [Z_ x.Z5,.Z6,V (J+1,1)]))) (λ_=>rfl) (λq=>ac);have e:Rp.rp P3 0 gb.h (⟨x.Z5,[],x.rows⟩:Node) [Z_ x.Z5,.Z6,V (J+1,1)]:=cM.2 ⟨_,_,rfl,⟨by show 0<2^63;decide,rfl⟩,c.rows hHb (λq hq=>LS.s hS.hx hq) (by omega)⟩;obtain⟨nds,j⟩:=Ai hHb (λk hk=>hk) a.Xt.z (au _ _ _) rfl e (by omega) (by omega);exact fin _ _ gr _ nds (by simp[sx,i]) (by simp[sx,h4]) (by rw[frb 1 (by omega),hS.f1]) (by rw[frb 2 (by omega),hS.f2]) j
end
theorem BC{α:Type}{l:List α}{a:α}(h:l[i]?=some a):l.set i a=l:=by
 refine aeN λj=>?_;rw[VY]
 by_cases e:i=j
 ·subst e;rw[ZN rfl,ZN (tI.1 h).1,h]
 ·rw[ZF e]
theorem BS.fin0{K J:Nat}{L:List Node}{x:Node}{bx:po}{gr Rw:Int}{t t':T}{g:G}{V:Ky->AV}{E:Ky->En}{Q:QT}(hS:BS K J L x bx gr Rw t g V E)(fin:AC Q)(h3:ZY t' 3=ZZ 1)(h4:ZY t' 4=ZZ 2):Q .norm t' [] g :=fin _ _ gr _ L h3 h4 hS.f1 hS.f2 hS.sl
theorem Lf{g:G}{v:AV}{rows:List (List AV)}(h:ak g.h 1 v=some rows)(hl:0<rows.length):∀g':G,g'.h=g.h->Jv 1 v (Z_ 0) g'=.val (mA 1 v 0 0):=λg' e =>Le (by rw[e,h];rfl) (by decide) (by rw[e,h];simpa using hl)
structure BW (x:Node) (J:Nat) (g:G) (V:Ky->AV) (E:Ky->En) (Zw:List (List AV)):Prop where
 own:Own g 3 (V (J+1,1)) 1 Zw
 e1:E (J+1,1)=.sl 1 Zw
 len:Zw.length=x.rows.length
 at_:∀(r:Nat) (y:List Int),x.rows[r]?=some y->Zw[r]?=some [V (J+1,2+r)]
theorem BS.bw{K J:Nat}{L:List Node}{x:Node}{bx:po}{gr Rw:Int}{t:T}{g:G}{V:Ky->AV}{E:Ky->En}(hS:BS K J L x bx gr Rw t g V E):∃Zw,BW x J g V E Zw:=by obtain⟨Zw,q1,q2,q3⟩:=(hS.bl.nd J x hS.hx).rs;exact⟨Zw,hS.hp.own (LS.s hS.hx (by omega)) q1,q1,q2,q3⟩
theorem JE{K r:Nat}{J:Nat}{x:Node}{V V':Ky->AV}{E E':Ky->En}{Zw:List (List AV)}{y':List Int}(h:Ql K V E J x)(hq:∀r y,x.rows[r]?=some y->Zw[r]?=some [V (J+1,2+r)])(hl:Zw.length=x.rows.length)(hr:r<x.rows.length)
  (hp:E' (J+1,0)=E (J+1,0)) (h1:E' (J+1,1)=.sl 1 (Zw.set r [V' (J+1,2+r)])) (h2:E' (J+1,2+r)=.sl 1 (y'.map ci)) (hv:∀q,q≠r->V' (J+1,2+q)=V (J+1,2+q)) (he:∀q,q≠r->E' (J+1,2+q)=E (J+1,2+q)) (hy:y'.length<=K):Ql K V' E' J ⟨x.Z5,x.Z9,x.rows.set r y'⟩:=by
 refine⟨by rw[hp];exact h.ps,⟨_,h1,by simp[hl],λq z hz=>?_⟩,λq z hz=>?_,h.len.1,by simpa using h.len.2.1,λz hz=>?_⟩
 ·have hz:(x.rows.set r y')[q]?=some z:=hz
  by_cases e:r=q
  ·subst e;rw[J5 (by omega)]
  ·rw[TS e]at hz ⊢;rw[hv q (Vw e)];exact hq q z hz
 ·have hz:(x.rows.set r y')[q]?=some z:=hz
  by_cases e:r=q
  ·subst e;rw[J5 (by omega)]at hz;injection hz with hz;subst hz;exact h2
  ·rw[TS e]at hz;rw[he q (Vw e)];exact h.rr q z hz
 ·rcases adv hz with h'|rfl
  ·exact h.len.2.2 z h'
  ·exact hy
section
variable {d K J:Nat}{L:List Node}{x:Node}{bx:po}{gr Rw:Int}{t:T}{g:G}{V:Ky->AV}{E:Ky->En}{Q:QT}
theorem bc4[Z0](hS:BS K J L x bx gr Rw t g V E)(fin:AC Q) :
  wp C0 d none (.Q8 [0,0,2,6,14,0,32,96,224,510,1023,2047,4095] [oM 142 10,oM 143 10,U3 144 143,oF 145 2 144,oL 146 145,oF 147 3 2,oL 148 147,QE 149 148,af7 150 149,Wm 151 1 24 146 150,U3 152 142,oF 153 2 152,Xr 1 153 151]) Q t [] g:=by
 obtain⟨h2,w,h4,o,u,-⟩:=hS.st;obtain⟨rows,a⟩:=hS.bt;obtain⟨Zw,hW⟩:=hS.bw;have hK:=hS.hK;have hl:=hS.hl;have B:=hS.hp.nx;have f:=a.nd.len;simp only[sz,simprocAttr,sf,h2,o,hS.f0,bY a.ry,co a.ry,a.own.rows,a.hlt,a.row];refine (hS.hp.step (g':=_) (by simp<;>omega) (λi hi hi2=>?_)).app2 (k:=(J+1,1)) (LS.s hS.hx (by omega)) hW.e1 (new:=[[.ZG (g.nx+1+1+1+1+1+1+1) 0 0 1 none]]) (by simp[sx,sy]) (by have:=hW.len;simp[aQ];omega) λv1 ga hHa na fra foa lga vca vta=>?_
 ·simp[Za];rw[bJ,bJ]
 simp only[sx,sy]at na fra foa lga;have b:ups V (J+1,1) v1 (0,0)=V (0,0):=ac;have kn:ga.h.get (g.nx+1+1+1+1+1+1+1)=Z4 1 [[Z_ bx.2.2.2]]:=by rw[foa (g.nx+1+1+1+1+1+1+1) (by omega) (λe=>by rw[cU hW.own]at e;have:=(hW.own.lt e).2;omega)];simp[Za]
 simp only[sz,simprocAttr,sf,bY a.ry,co a.ry];refine (hHa.same (g':=_) (by simp) (by simp<;>omega)).putv (k:=(0,0)) LS.z b (row':=[Z_ x.Z5,V (J+1,0),v1]) (by rw[ac];exact a.e0) a.row (by rw[vca];rfl) vta (by rw[vca];rfl) λgb hHb nb frb fob=>?_;simp only[sy]at nb frb fob ⊢;refine⟨?_,?_⟩
 ·simp only[I9,Nq,DI,ML];refine aK (false::(Vk (JO (true::(true::(true::(Vk (true::[])))))))) [(0,7),(1,7),(2,7),(3,7),(4,7),(0,8),(1,8),(2,8),(3,8),(4,8),(0,9)] (by simp[ZL,am,aA]) (by decide) ?_;rintro p hp x y hx c;simp only[Y0,QA,TP]at hp;have ro1:=a.own.refs_lt;rcases hp with rfl|rfl|rfl|rfl|rfl|rfl|rfl|rfl|rfl|rfl|rfl<;>(simp at hx c;subst hx;subst c;refine dP rfl rfl rfl rfl ?_ ?_ ?_<;>simp[am,aA,nk a.ry]<;>first|omega| (intro i' q;have:=ro1 i' q;omega)|skip)
 have knb:gb.h.get (g.nx+1+1+1+1+1+1+1)=Z4 1 [[Z_ bx.2.2.2]]:=by rw[fob (g.nx+1+1+1+1+1+1+1) (λe=>by rw[b,cU a.own]at e;have:=(a.own.lt e).2;omega)];simpa using kn
 have j:ZT P3 0 gb.h x.Z9 (V (J+1,0)):=by have:=hHb.own (k:=(J+1,0)) (LS.s hS.hx (by omega)) (by rw[ac,ac];exact a.nd.ps);rw[ac]at this;exact yQ this (by omega) λ_ h=>h
 have l:ZT P3 0 gb.h (x.rows++[[bx.2.2.2]]) v1:=by
  have ho:=hHb.own (k:=(J+1,1)) (LS.s hS.hx (by omega)) (by rw[ac,au]);rw[au]at ho;refine Own.sl (α:=List Int) ho (by simp<;>omega) (ZL.append (AG hW.len.symm λr y row c hr=>?_) ⟨?_,trivial⟩) λi hi=>(ho.lt hi).1
  ·rw[hW.at_ r y c]at hr;injection hr with hr;subst hr;have C:=(tI.1 c).1;have:=hHb.own (k:=(J+1,2+r)) (LS.s hS.hx (by omega)) (by rw[ac,ac];exact a.nd.rr r y c);rw[ac]at this;exact dW.2 ⟨_,rfl,yQ this (by have:=f.2.2 y (YH c);omega) λ_ h=>h⟩
  ·refine dW.2 ⟨_,rfl,by show 1<2^63;decide,(by show 3<=(g.nx+1+1+1+1+1+1+1);omega),[[Z_ bx.2.2.2]],?_,ay.2 rfl,trivial⟩;show ak gb.h 1 _=_;simp only[ak,knb];rfl
 obtain⟨nds,A⟩:=Ai (x':=⟨x.Z5,x.Z9,x.rows++[[bx.2.2.2]]⟩) hHb (λk hk=>hk) a.Xt.v.e.z (au _ _ _) b (cM.2 ⟨_,_,rfl,j,l⟩) (by omega) (by omega);have m:gb.h.get 1=Z4 2 [[Z_ gr,V (0,0)]]:=by rw[frb 1 (by omega)];(try simp);rw[fra 1 (by omega),bJ,bJ,hS.f1]
 have n:gb.h.get 2=Z4 2 [[Z_ 0,.Z6]]:=by rw[frb 2 (by omega)];(try simp);rw[fra 2 (by omega),bJ,bJ,hS.f2]
 exact fin _ _ gr _ nds (by simp[sx,w]) (by simp[sx,h4]) (by simpa using m) (by simpa using n) (A.heap (by simp))
theorem bc5[Z0](hS:BS K J L x bx gr Rw t g V E)(fin:AC Q) :
  wp C0 d none (sQ [oM 156 11,RW 157 .geq 156 0] (agb 157 (.ops [oM 158 10,oM 159 10,U3 160 159,oF 161 2 160,oL 162 161,oM 163 11,o 164 (.Vg 1 (.t 162) [] [.t 163]),U3 165 158,oF 166 2 165,Xr 1 166 164]) (.skip))) Q t [] g:=by
 obtain⟨h2,l,h4,f,b,-⟩:=hS.st;obtain⟨rows,a⟩:=hS.bt;obtain⟨Zw,hW⟩:=hS.bw;have hK:=hS.hK;have hl:=hS.hl;rcases hS.hR with⟨rfl,h0⟩|⟨r,rfl,hr⟩
 ·simp only[sx,SO.run,↓reduceIte,b];exact⟨λh=>by simp at h,λ_=>hS.fin0 fin (by simp[sx,l]) (by simp[sx,h4])⟩
 ·simp only[sx,SO.run,↓reduceIte,b];refine⟨λ_=>?_,λh=>by simp at h⟩;obtain⟨y,q1,q2,q3⟩:=Po (α:=List Int) hW.own (n:=r) (by intro h;have:=hW.len;rw[h]at this;simp at this;omega) (by have:=hW.len;omega);have q1:Au 1 (V (J+1,1)) none (some (Z_ (r:Int))) g=.val y:=q1;simp only[sx,sy,SO.run,↓reduceIte,Nat.reduceEqDiff,f,b,bY a.ry,co a.ry,a.own.rows,a.hlt,a.row,q1,Ym,Ur,adq,Ns];refine hS.hp.put LS.z (off:=2) (n:=1) (row':=[Z_ x.Z5,V (J+1,0),y]) a.e0 a.row (by simp[q2.1]) q2.2 (by rw[q2.1];rfl) λgb hHb nb frb fob=>?_;simp only[sx];have c:=a.nd.congr (V':=V) (E':=ups E (0,0) (.sl 3 (rows.set J [Z_ x.Z5,V (J+1,0),y]))) (λ_=>rfl) (λq=>ac);have j:Rp.rp P3 0 gb.h (⟨x.Z5,x.Z9,x.rows.take r⟩:Node) [Z_ x.Z5,V (J+1,0),y]:=by refine cM.2 ⟨_,_,rfl,c.pars hHb (LS.s hS.hx (by omega)) (by omega),q3 P3 0 _ gb.h (λi hi=>fob i λe=>?_) (c.rows hHb (λq hq=>LS.s hS.hx hq) (by omega))⟩;exact hS.hp.sep (0,0) (J+1,1) LS.z (LS.s hS.hx (by omega)) (by simp) i e (by rw[cU hW.own];exact hi)
  obtain⟨nds,m⟩:=Ai hHb (λk hk=>hk) a.Xt.z (au _ _ _) rfl j (by omega) (by omega);exact fin _ _ gr _ nds (by simp[sx,l]) (by simp[sx,h4]) (by rw[frb 1 (by omega),hS.f1]) (by rw[frb 2 (by omega),hS.f2]) m
theorem bc6[Z0](hS:BS K J L x bx gr Rw t g V E)(fin:AC Q) :
  wp C0 d none (sQ [oM 169 11,RW 170 .geq 169 0,oM 171 170,afK 172 171 true 10,og 173 171 true (.SX (.t 172)),afM 174 171 true 2 173,afL 175 171 true 174,afK 176 171 true 11,af5 177 171 true 1 175 176,afL 178 171 true 177,afP 179 171 true 178,afO 180 171 true .gtr 179 0,afI 181 171 180] (agb 181 (.Q8 [0,1,3,7,0,31,63,0,128,511,1023] [oM 182 10,U3 183 182,oF 184 2 183,oL 185 184,oM 186 11,oX 187 185 186,oL 188 187,oF 189 3 2,oL 190 189,o 191 (.SG 1 (.t 188) (qI 0)),Xr 1 191 190]) (.skip))) Q t [] g:=by
 obtain⟨h2,u,h4,j,b,-⟩:=hS.st;obtain⟨rows,h⟩:=hS.bt;obtain⟨Zw,hW⟩:=hS.bw;have hK:=hS.hK;have hl:=hS.hl;rcases hS.hR with⟨rfl,h0⟩|⟨r,rfl,hr⟩
 ·simp only[sz,simprocAttr,b];exact hS.fin0 fin (by simp[sx,u]) (by simp[sx,h4])
 ·obtain⟨y,p⟩:∃y,x.rows[r]?=some y:=⟨_,Zq hr⟩;have c:=hW.at_ r y p;have l:LS L (J+1,2+r):=LS.s hS.hx (by omega);have f:=hS.hp.own l (h.nd.rr r y p);have A:=h.nd.len.2.2 y (YH p);have ly:=dq f.rows;rw[Ju]at ly;have m:r<Zw.length:=by have:=hW.len;omega
  have B:nq (V (J+1,1))=true:=ib hW.own (by omega);simp only[sz,simprocAttr,j,b,show decide ((r:Int) >= 0)=true from by simp,bY h.ry,co h.ry,h.own.rows,h.hlt,h.row,hW.own.rows,m,c,ly];refine ba (λhb=>?_) (λhb=>?_)
  ·have a:0<y.length:=by simpa using hb
   obtain⟨z,hz⟩:∃z,y[0]?=some z:=⟨_,Zq a⟩;have D:0<(y.map ci).length:=by simpa using a
   have G:(y.map ci)[0]?=some (ci z):=by rw[Zy,hz];rfl
   have u3:=f.rows;have C:nq (V (J+1,2+r))=true:=ib f D;simp only[sz,simprocAttr,sf,h2,j,b,hS.f0,bY h.ry,co h.ry,h.own.rows,h.hlt,h.row,hW.own.rows,m,c,Lf u3 D];refine (hS.hp.same (g':=_) (by simp) (by simp<;>omega)).put (k:=(J+1,2+r)) (i:=0) (off:=0) (n:=1) (row:=ci z) (row':=ci bx.2.2.2) l (h.nd.rr r y p) G rfl rfl rfl λgb hHb nb frb fob=>?_;simp only[sy]at nb frb fob ⊢;refine⟨?_,?_⟩
   ·simp only[I9,Nq,DI,ML];exact aK (Vk (Zb (true::[]))) [] (by simp[ZL,am,aA]) (by decide) (by simp)
   have v:=JE (r:=r) (V':=V) (E':=ups E (J+1,2+r) (.sl 1 ((y.map ci).set 0 (ci bx.2.2.2)))) (y':=y.set 0 bx.2.2.2) h.nd hW.at_ hW.len hr (ac) (by rw[ac,hW.e1,BC c]) (by rw[au,MO]) (λ_ _=>rfl) (λq hq=>ac) (by simpa using A);have w:=v.rd hHb (λq hq=>LS.s hS.hx (by simpa using hq)) (by omega);obtain⟨nds,F⟩:=Ai (rows:=rows) (J:=J) hHb (λk hk=>hk) h.Xt.e (by rw[ac,h.e0];exact congrArg _ (BC h.row).symm) rfl w (by omega) (by omega);exact fin _ _ gr _ nds (by simp[sx,u]) (by simp[sx,h4]) (by simp only[Zx];rw[frb 1 (by omega)];simpa using hS.f1) (by simp only[Zx];rw[frb 2 (by omega)];simpa using hS.f2) (F.heap (by simp))
  ·simp only[sx];exact hS.fin0 fin (by simp[sx,u]) (by simp[sx,h4])
end
section
variable {d K J:Nat}{L:List Node}{x:Node}{bx:po}{gr Rw:Int}{t:T}{g:G}{V:Ky->AV}{E:Ky->En}{Q:QT}
theorem bc7[Z0](hS:BS K J L x bx gr Rw t g V E)(fin:AC Q) :
  wp C0 d none (sQ [oM 194 11,RW 195 .geq 194 0] (agb 195 (.Q8 [0,1,3,7,0,0,32,96,224,0,992,2016,0,8160,16383,32767] [oM 196 10,U3 197 196,oF 198 2 197,oL 199 198,oM 200 11,oM 201 10,U3 202 201,oF 203 2 202,oL 204 203,oM 205 11,oX 206 204 205,oL 207 206,o 208 (.XD 1 1 [Z_ 0] [0] [.k (Z_ 0)]),Wm 209 1 8 207 208,oX 210 199 200,Xr 1 210 209]) (.skip))) Q t [] g:=by
 obtain⟨h2,N,h4,H,c,-⟩:=hS.st;obtain⟨rows,a⟩:=hS.bt;obtain⟨Zw,hW⟩:=hS.bw;have hK:=hS.hK;have hl:=hS.hl;have P:=hS.hp.nx;rcases hS.hR with⟨rfl,h0⟩|⟨r,rfl,hr⟩
 ·simp only[sx,SO.run,↓reduceIte,c];exact⟨λh=>by simp at h,λ_=>hS.fin0 fin (by simp[sx,N]) (by simp[sx,h4])⟩
 ·simp only[sx,SO.run,↓reduceIte,c];refine⟨λ_=>?_,λh=>by simp at h⟩;obtain⟨y,m⟩:∃y,x.rows[r]?=some y:=⟨_,Zq hr⟩;have C:=hW.at_ r y m;have f:LS L (J+1,2+r):=LS.s hS.hx (by omega);have A:=a.nd.rr r y m;have T:=hS.hp.own f A;have R:=a.nd.len.2.2 y (YH m);have B:r<Zw.length:=by have:=hW.len;omega
  have D:nq (V (J+1,1))=true:=ib hW.own (by omega);simp only[sx,sy,sf,SO.run,↓reduceIte,Nat.reduceEqDiff,H,c,bY a.ry,co a.ry,a.own.rows,a.hlt,a.row,hW.own.rows,B,C,adq,Ns];refine (hS.hp.step (g':=_) (by simp<;>omega) (λi hi hi2=>?_)).app2 (k:=(J+1,2+r)) f A (new:=[[Z_ 0]]) (by simp[sx,sy]) (by simp[aQ];omega) λv1 ga hHa na fra foa lga vca vta=>?_
  ·simp[Za];omega
  simp only[sx,sy]at na fra foa lga;have u:ups V (J+1,2+r) v1 (J+1,1)=V (J+1,1):=ac;have w:ups E (J+1,2+r) (.sl 1 (y.map ci++[[Z_ 0]])) (J+1,1)=.sl 1 Zw:=by rw[ac];exact hW.e1
  have rwa:ak ga.h 1 (V (J+1,1))=some Zw:=by rw[<-u];exact (hHa.own (LS.s hS.hx (by omega)) w).rows
  simp only[sx,sy,sf,SO.run,↓reduceIte,Nat.reduceEqDiff,rwa,B,adq,Ns];refine (hHa.same (g':=_) (by simp) (by simp<;>omega)).putv (k:=(J+1,1)) (i:=r) (off:=0) (n:=1) (LS.s hS.hx (by omega)) u (row':=[v1]) w C (by rw[vca];rfl) vta (by rw[vca];rfl) λgb hHb nb frb fob=>?_;simp only[sy]at nb frb fob ⊢;refine⟨?_,?_⟩
  ·simp only[I9,Nq,DI,ML];refine aK (JO (Zb (true::(true::(false::(true::[])))))) [(0,12),(1,12),(2,12),(3,12),(4,12),(5,12),(6,12),(7,12),(8,12),(9,12),(10,12),(11,12),(0,13),(1,13),(2,13),(3,13),(4,13)] (by simp[ZL,am,aA]) (by decide) ?_;have ro1:=a.own.refs_lt;have ro2:=hW.own.refs_lt;have lg0:∀i∈ga.lg,i ∉ an (V (0,0)):=λi hi hm=>by
    obtain⟨id0,l⟩:∃id,Vc (V (0,0))=some id/\an (V (0,0))=[id]:=by
     rcases a.own with⟨h,-⟩|⟨id,ep,lo,-,-,h,-⟩
     ·rw[h]at hm;simp[an]at hm
     ·rw[h];exact⟨id,rfl,rfl⟩
    rw[l.2]at hm;have hm:=Wa.1 hm;subst hm;rcases lga i hi with h|h|h
    ·simp at h
    ·exact hS.hp.sep (J+1,2+r) (0,0) f LS.z (by simp) i h l.1
    ·have:=ro1 i (by rw[l.2];simp);omega
   rintro p hp x y hx m;simp only[Y0,QA,TP]at hp;rcases hp with rfl|rfl|rfl|rfl|rfl|rfl|rfl|rfl|rfl|rfl|rfl|rfl|rfl|rfl|rfl|rfl|rfl<;>(simp at hx m;subst hx;subst m;refine dP rfl rfl rfl rfl ?_ ?_ ?_<;>simp[am,aA,nk a.ry,nk D]<;>first|omega| (intro i' b;have:=ro1 i' b;omega)| (intro i' b;have:=ro2 i' b;omega)|exact lg0|exact (λi hi h=>lg0 h hi)|exact (λi hi h=>lg0 i h hi)| (intro i' b hm;exact lg0 _ b hm)|exact (λi hi j hj e=>lg0 i hi (e ▸ hj))|skip)
  have I:=JE (r:=r) (V':=ups V (J+1,2+r) v1) (E':=ups (ups E (J+1,2+r) (.sl 1 (y.map ci++[[Z_ 0]]))) (J+1,1) (.sl 1 (Zw.set r [v1]))) (y':=y++[0]) (a.nd.up (show K<=K+1 by omega)) hW.at_ hW.len hr (by rw[ac,ac]) (by rw[au,au]) (by rw[ac,au];simp[ci]) (λq hq=>ac) (λq hq=>by rw[ac,ac]) (by simp<;>omega);have M:=I.rd hHb (λq hq=>LS.s hS.hx (by simpa using hq)) (by omega);obtain⟨nds,O⟩:=Ai (rows:=rows) (J:=J) hHb (λk hk=>hk) a.Xt.v.e.e (by rw[ac,ac,a.e0];rw[oa,ac,ac];exact congrArg _ (BC a.row).symm) (ac) M (by omega) (by omega);have F:gb.h.get 1=Z4 2 [[Z_ gr,V (0,0)]]:=by rw[frb 1 (by omega)];(try simp);rw[fra 1 (by omega),bJ,hS.f1]
  have G:gb.h.get 2=Z4 2 [[Z_ 0,.Z6]]:=by rw[frb 2 (by omega)];(try simp);rw[fra 2 (by omega),bJ,hS.f2]
  exact fin _ _ gr _ nds (by simp[sx,N]) (by simp[sx,h4]) (by simpa using F) (by simpa using G) (O.heap (by simp))
theorem bj9[Z0](hS:BS K J L x bx gr Rw t g V E)(fin:AC Q) :
  wp C0 d none (.ops [oF 312 1 3,oL 313 312,oF 314 0 3,oL 315 314,QE 316 315,af7 317 316,o 318 (.build [Z_ 0,.Z6,.Z6] [(0,1),(2,1)] [.k (Z_ 1),.t 317]),o 319 (.XD 3 1 [Z_ 0,.Z6,.Z6] [0] [.t 318]),Wm 320 3 56 313 319,oF 321 1 3,Xr 1 321 320]) Q t [] g:=by
 obtain⟨h2,m,h4,u,v,-⟩:=hS.st;obtain⟨rows,a⟩:=hS.bt;have hK:=hS.hK;have hl:=hS.hl;have r:=hS.hp.nx;have y:=a.Xt.len;simp only[sz,simprocAttr,m,hS.f1];refine (hS.hp.step (g':=_) (by simp<;>omega) (λi hi hi2=>?_)).app2 (k:=(0,0)) LS.z a.e0 (new:=[[Z_ 1,.Z6,.ZG (g.nx+1) 0 0 1 none]]) (by simp[sx,sy]) (by simp[aQ];omega) λv1 gb hHb nb frb fob _ vca vta=>?_
 ·simp[Za];rw[bJ,bJ,bJ]
 simp only[sx,sy]at nb frb fob;have ne:∀i,g.nx<=i->Vc (V (0,0))≠some i:=λi hi e=>by rw[cU a.own]at e;have:=(a.own.lt e).2;omega
 have A:gb.h.get g.nx=Z4 1 [[Z_ gr]]:=by rw[fob g.nx (by omega) (ne _ (ZV _))];simp[Za]<;>omega
 have k2:gb.h.get (g.nx+1)=Z4 1 [[.ZG g.nx 0 0 1 none]]:=by rw[fob (g.nx+1) (by omega) (ne _ (by omega))];simp[Za]<;>omega
 have b:Rp.rp P3 0 gb.h (⟨1,[],[[gr]]⟩:Node) [Z_ 1,.Z6,.ZG (g.nx+1) 0 0 1 none]:=by
  refine cM.2 ⟨_,_,rfl,⟨by show 0<2^63;decide,rfl⟩,⟨by show 1<2^63;decide,by show 3<=g.nx+1;omega,[[.ZG g.nx 0 0 1 none]],?_,dW.2 ⟨_,rfl,by show 1<2^63;decide,r,[[Z_ gr]],?_,ay.2 rfl,trivial⟩,trivial⟩⟩
  ·show ak gb.h 1 _=_;simp only[ak,k2];rfl
  ·show ak gb.h 1 _=_;simp only[ak,A];rfl
 have ho:=hHb.own LS.z (au _ _ _);rw[au]at ho;obtain⟨nds,-,w⟩:=Lu ho (by simp<;>omega) λi row hi=>by
  by_cases e:i<rows.length
  ·rw[QJ e]at hi;obtain⟨z,hz⟩:∃z,L[i]?=some z:=⟨_,Zq (by omega)⟩;have p:=(hS.bl.nd i z hz).congr (V':=ups V (0,0) v1) (E':=ups E (0,0) (.sl 3 (rows++[[Z_ 1,.Z6,.ZG (g.nx+1) 0 0 1 none]]))) (λq=>ac) (λq=>ac);have c:=p.rd hHb (λq hq=>LS.s hz hq) (by omega);have f:rows[i]?=some (oa V i z.Z5):=by
    by_cases e2:i=J
    ·subst e2;rw[hS.hx]at hz;injection hz with hz;subst hz;exact a.row
    ·exact a.Xt.ns i z e2 hz
   rw[f]at hi;injection hi with hi;subst hi;rw[oa,ac,ac]at c;exact⟨z,c⟩
  ·have n:=(tI.1 hi).1;simp at n;have e:i=rows.length:=by omega
   subst e;rw[M_]at hi;injection hi with hi;subst hi;exact⟨_,b⟩
 have j:gb.h.get 1=Z4 2 [[Z_ gr,V (0,0)]]:=by rw[frb 1 (by omega),bJ,bJ,bJ,hS.f1]
 have l:gb.h.get 2=Z4 2 [[Z_ 0,.Z6]]:=by rw[frb 2 (by omega),bJ,bJ,bJ,hS.f2]
 simp only[sz,simprocAttr,m,j,vca,vta];exact fin _ _ gr _ nds (by simp[sx,m]) (by simp[sx,h4]) (by simp[Za]) (by simp[Za,l]) (w.far λi hi=>by simp[Za,XX hi])
theorem bj8[Z0](hS:BS K J L x bx gr Rw t g V E)(fin:AC Q) :
  wp C0 d none (.ops [oF 102 1 3,oL 103 102,oF 104 1 3,oL 105 104,oN 106 105,RW 107 .sub 106 1,o 108 (.Vg 3 (.t 103) [] [.t 107]),oF 109 1 3,Xr 1 109 108]) Q t [] g:=by
 obtain⟨h2,a,h4,b,c,-⟩:=hS.st;obtain⟨rows,k⟩:=hS.bt;have hK:=hS.hK;have hl:=hS.hl;have f:=k.Xt.len;have hlt:=k.hlt;have len1:=dq k.own.rows;have e1:((rows.length:Int) - 1)=((rows.length - 1:Nat):Int):=by omega
 obtain⟨y,q1,q2,q3⟩:=Po (α:=Node) k.own (n:=rows.length - 1) (by intro h;rw[h]at hlt;simp at hlt) (by omega);have w9:IntKind.wrap .i64 ((rows.length - 1:Nat):Int)=((rows.length - 1:Nat):Int):=aq;have q1:Au 3 (V (0,0)) none (some (Z_ ((rows.length - 1:Nat):Int))) g=.val y:=q1;simp only[sz,simprocAttr,a,hS.f1,len1,Ym,Ur,e1,w9,q1,q2.1,q2.2];have e:=q3 P3 0 _ g.h (λ_ _=>rfl) hS.sl;exact fin _ _ gr _ _ (by simp[sx,a]) (by simp[sx,h4]) (by simp[Za]) (by simp[Za,hS.f2]) (e.far λi hi=>by simp[Za,XX hi])
end
end
end Hx
