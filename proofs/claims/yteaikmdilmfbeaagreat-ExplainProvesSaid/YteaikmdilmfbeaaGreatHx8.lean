/- A part of the proof. -/
import Derived.Test.YteaikmdilmfbeaaGreatHx7
set_option linter.all false
set_option maxRecDepth 20000
set_option maxHeartbeats 8000000
namespace Hx
open Go
noncomputable section
variable {g:G}{d i k b k2 q nt j:Nat}{v w u:AV}{t:T}{n:Xb}{Q:QT}{P P2:Nat->Prop}{l cs e vs tl X:List Int}{K:AV->G->Prop}{D:Xo->Prop}{x:Node}{gr c:Int}{h:H}{V:Ky->AV}
theorem cg(d:Nat)(hm:WG n Xt 0 g.h v):∃b rows,v=.agg [XE n.Xz,b]/\Hx.Xm g.h d aF v=some v/\(∀h,WG n Xt 0 h v)/\Xu Xt 0 .nil n.XD b/\(∀h,ak h 3 b=some rows)/\rows.length=n.XD.length /\
  (∀(i:Nat) (x:Node),n.XD[i]?=some x->∃pa ra,rows[i]?=some [XE x.Xx,pa,ra]/\i<rows.length/\Xu Xt 0 .nil x.XA pa/\Xu Xt 0 .nil x.rows ra)/\(0<n.XD.length->px b=true):=by
 have e:=jM d hm;obtain⟨cs,rfl,hc⟩:=hm;have c:=hc;obtain⟨b,rfl,hN⟩:=dh.1 hc;have hN:=hN.tree (h':=.nil) (XH _);obtain⟨rows,l,f,m,o⟩:=hN.all;refine⟨b,rows,rfl,e,λh=>⟨_,rfl,Rp.tree c (XH _)⟩,hN,l,f,λi x hx=>?_,o⟩;obtain⟨row,j,q2⟩:=m i x hx;obtain⟨a',b',rfl,k,a⟩:=cE.1 q2;exact⟨a',b',j,by rw[f];exact (XI.1 hx).1,k,a⟩
def gC{l:List (List Int)}{b:AV}(hb:Xu Xt k .nil l b):∃rows:List (List AV),(∀h,ak h 1 b=some rows)/\rows.length=l.length/\(∀(i:Nat) (r:List Int),l[i]?=some r->∃z,rows[i]?=some [z]/\i<rows.length/\Xu Xt k .nil r z)/\(0<l.length->px b=true):=by let⟨rows,d,a,e,f⟩:=hb.all;refine⟨rows,d,a,λi r hr=>?_,f⟩;obtain⟨row,c,q2⟩:=e i r hr;obtain⟨z,rfl,hz⟩:=bo.1 q2;exact⟨z,c,by rw[a];exact (XI.1 hr).1,hz⟩
def SZ[Xr]{r:List Int}{XB:List Int}(hd:0<d)(hm:WG n Xt 0 g.h v)(hr:NR n)(hx:n.XD[i]?=some x)(hw:Xu P2 k2 g.h XB w)(hv:Wr (IO n) XB)
  (hj:EL (EP (IO n) x.XA) (EP XB x.XA)=(j:Int)) (hrr:x.rows[j]?=some r):∃z,ah C0 d 105 [v,XE (i:Int),w] g=.val z/\IT 0 r z:=by
 obtain⟨w',e2,u⟩:=aB hw d;obtain⟨b,rows,rfl,e,q,hN,B,K,E,F⟩:=cg d hm;have o:=XL hx;let⟨pa,ra,A,hlt,s,t⟩:=E i x hx;let⟨rr,H,L,I,J⟩:=gC t;let⟨z,q2,f,hz⟩:=I j r hrr;have hl2:=hr.l2;have D:=bc (hr.places x o) (by omega);have a:=hr.pin o;have C:=(XI.1 hx).1;have m:=F (by omega);have y:=J (by omega);rw[WL];refine aP GJ (xs:=[.agg [XE n.Xz,b],XE (i:Int),w']) (by simp only[aD,e,e2,cP 0]) (by simp[wg]) (aI _) (by decide) hd ?_;simp only[sz,simprocAttr,wg,xW,B,hlt,A,m];refine aG (A9 (XR d) (q _) (by omega) hx (by omega) (λp hp=>by have:=a p hp;rw[ap]at this;exact this)) λrc hrc=>?_;simp only[sz,simprocAttr,B,hlt,A,m];refine aG (Hg (P:=Xt) (XR d) (u _) (s.tree (XH _)) (by omega) (λp hp=>by have:=a p hp;rw[<-hv.len]at this;exact this)) λrv hrv=>?_;have c:=λg=>Ix (d:=d+1) (g:=g) (P:=Xt) (P2:=Xt) (k:=0) (k2:=0) (Xv:=EP (IO n) x.XA) (XB:=EP XB x.XA) (XR d) (hrc.sl g.h) (hrv.sl g.h) (by simp[EP];omega) (aZ hr.cs a) (dB hv a);rw[hj]at c;simp only[sz,simprocAttr,c,H,q2,f];exact⟨_,z,rfl,hz.tree (XH _)⟩
theorem yW[Xr]{w:Nat}(hd:0<d)(hm:WG n Xt 0 g.h v)(hr:NR n)(hw:w<2^63):ah C0 d 69 [v,XE (w:Int)] g=.val (XE (i8 n (EN (IO n) (w:Int)))):=by
 obtain⟨b,rows,rfl,e,a,hN,E,F,H,I⟩:=cg d hm;have hv:=bm (λc hc=>(hr.cs c hc).1) (w:Int);have l:=bO (IO n) (w:Int);rw[ap]at l;have hl2:=hr.l2;rw[WL];refine cq B2 (xs:=[.agg [XE n.Xz,b],XE (w:Int)]) (by simp only[aD,e,cP 0]) (by simp[oH]) hd ?_;simp only[sz,simprocAttr,oH,sE];refine aG (ui (d:=d+1) (P:=Xt) (k:=0) (w:=w) (XR d) (a _) hr hw) λrv hrv=>?_;simp only[sz,simprocAttr,pX];generalize EN (IO n) (w:Int)=XB at *;refine aU n.XD.length (by omega) (λj t df g=>df=[]/\St t [(2,Xq 0),(5,rv),(6,XE (EO ((List.range j).map (zi n XB))))]/\g.h.get 0=Xy 2 [[XE n.Xz,b]])
  ⟨rfl,by simp[St,sx,EO],by simp[sx]⟩ (by simp[sx]) (by decide) (by rintro j t df g v s (rfl|rfl|rfl)<;>simp[St,sx]) ?_ ?_ ?_
 ·rintro j t df g o ⟨rfl,⟨h2,h5,h6,-⟩,hg⟩ h7;simp only[sz,simprocAttr,h2,h5,h6,h7,hg,hN.len,St]
 ·rintro j t df g o ⟨rfl,⟨h2,h5,h6,-⟩,hg⟩ h7;obtain⟨x,hx,-,-⟩:=af o;obtain⟨i,r,c,y,f1,f2,p,q,u,D,f,m,-,-⟩:=Ds hr hv hx;obtain⟨c,rfl⟩:=XU u;rw[ZX]at f;have ri:=λh=>hrv.rows h;have A:j<(XB.map ci).length:=by rw[XN];omega
  have B:(XB.map ci)[j]?=some (ci (c:Int)):=by rw[XK,q];rfl
  have wb:=rB hr hv (j:=j+1) (by omega);rw[y8,m]at wb;have w1:IntKind.wrap .i64 (EO ((List.range j).map (zi n XB))*y)=EO ((List.range (j+1)).map (zi n XB)):=by rw[y8,m,an]
  simp only[sz,simprocAttr,h2,h5,h6,h7,hg];refine aG (SZ (d:=d+1) (P2:=Xt) (k2:=0) (i:=j) (XR d) (a _) hr hx (hrv.sl _) hv f1 p) λz hz=>?_;have rz:=λh=>hz.rows h;have u3:c<(r.map ci).length:=by rw[XN];exact (XI.1 f).1
  have C:(r.map ci)[c]?=some (ci y):=by rw[XK,f];rfl
  simp only[sz,simprocAttr,h2,h5,h7,hg,ri,rz,A,B,u3,C,ci,St,w1]
 ·rintro t df g ⟨rfl,⟨h2,h5,h6,-⟩,hg⟩;simp only[sz,simprocAttr,pY,h6]
  rfl
def QR[Xr](hd:0<d)(hm:WG n Xt 0 g.h v)(hr:NR n)(he:Xu P2 k2 g.h e w)(hel:e.length=n.XD.length):ah C0 d 54 [v,w] g=.val (XE (rK n e)):=by
 obtain⟨w',e2,f⟩:=aB he d;obtain⟨b,rows,rfl,e1,c,hN,m,o,p,q⟩:=cg d hm;have hl2:=hr.l2;obtain⟨wl1,wl2,wl3⟩:=hr.wl;rw[WL];refine cq EZ (xs:=[.agg [XE n.Xz,b],w']) (by simp only[aD,e1,e2]) (by simp[tX]) hd ?_;simp only[sz,simprocAttr,tX,we,uL,uM];refine aU (C2 n) (by omega) (λj t df g=>df=[]/\St t [(1,w'),(2,Xq 0),(5,XE (CW n (λw=>yn (EN (IO n) (w:Int)) e) j))]/\g.h.get 0=Xy 2 [[XE n.Xz,b]])
  ⟨rfl,by simp[St,sx,CW],by simp[sx]⟩ (by simp[sx]) (by decide) (by rintro j t df g v s (rfl|rfl|rfl)<;>simp[St,sx]) ?_ ?_ ?_
 ·rintro j t df g l ⟨rfl,⟨h1,h2,h5,-⟩,hg⟩ h6;have hw:=λg=>yX (d:=d+1) (g:=g) (P:=Xt) (k:=0) (XR d) (c g.h) hr;simp only[sz,simprocAttr,h1,h2,h5,h6,hg,hw,St]
 ·rintro j t df g l ⟨rfl,⟨h1,h2,h5,-⟩,hg⟩ h6;simp only[sz,simprocAttr,h2,h6,hg];refine aG (ui (d:=d+1) (P:=Xt) (k:=0) (w:=j) (XR d) (c _) hr (by omega)) λrv hrv=>?_;have a:=λg=>wV (d:=d+1) (g:=g) (P:=Xt) (P2:=Xt) (k:=0) (k2:=max k2 d) (XB:=EN (IO n) (j:Int)) (e:=e) (XR d) (hrv.sl g.h) (f g.h) (by rw[bO,ap,hel]);have sb:=ut hr (λw=>yn (EN (IO n) (w:Int)) e) (j+1);cases hmt:yn (EN (IO n) (j:Int)) e with
  | true =>
   have i:=λg=>yW (d:=d+1) (g:=g) (w:=j) (XR d) (c g.h) hr (by omega);rw[hmt]at a;have w1:IntKind.wrap .i64 (CW n (λw=>yn (EN (IO n) (w:Int)) e) j+i8 n (EN (IO n) (j:Int)))=CW n (λw=>yn (EN (IO n) (w:Int)) e) (j+1):=by
    have e1:CW n (λw=>yn (EN (IO n) (w:Int)) e) (j+1)=CW n (λw=>yn (EN (IO n) (w:Int)) e) j+i8 n (EN (IO n) (j:Int)):=by rw[CW,hmt];rfl
    rw[<-e1,an]
   simp only[sz,simprocAttr,h1,h2,h5,h6,hg,a,i,St,w1]
  | false =>
   rw[hmt]at a;have e1:CW n (λw=>yn (EN (IO n) (w:Int)) e) (j+1)=CW n (λw=>yn (EN (IO n) (w:Int)) e) j:=by rw[CW,hmt];simp
   simp only[sz,simprocAttr,h1,h2,h5,h6,hg,a,St,e1]
 ·rintro t df g ⟨rfl,⟨h1,h2,h5,-⟩,hg⟩;simp only[sz,simprocAttr,uN,h5]
  rfl
def QL[Xr](hd:0<d)(hm:WG n P k g.h v)(he:Xu P2 k2 g.h e w):ah C0 d 103 [v,w] g=.val (.bool (zq n e)):=by
 obtain⟨w',e2,f⟩:=aB he d;obtain⟨v',e1,cs,rfl,hc⟩:=mK (di n) (by decide) d hm;obtain⟨b,rfl,hN⟩:=dh.1 hc;obtain⟨rows,m,D,B,C⟩:=hN.all;have m:∀h',ak h' 3 b=some rows:=m;have n2:=λg=>(f .nil).len g;have rb:=λh=>(f h).ints;rw[WL];refine cM zD (xs:=[.agg [XE n.Xz,b],w']) (by simp only[aD,e1,e2]) (by simp[gu]) hd ?_;have p:=he.1
 by_cases hl:e.length=n.XD.length
 ·simp only[sz,simprocAttr,gu,jk,nq,n2,hN.len,hl];refine aU e.length p (λj t df g=>df=[]/\St t [(1,w'),(2,Xq 0)]/\g.h.get 0=Xy 2 [[XE n.Xz,b]]/\((List.range j).all λv=>decide (-1<=e[v]?.getD 0)&&decide (e[v]?.getD 0<(IO n)[v]?.getD 0))=true)
   ⟨rfl,by simp[St,sx],by simp[sx],by simp⟩ (by simp[sx]) (by decide) (by rintro j t df g v s (rfl|rfl|rfl)<;>simp[St,sx]) ?_ ?_ ?_
  ·rintro j t df g i ⟨rfl,⟨h1,h2,-⟩,hg,ha⟩ h5;simp only[sz,simprocAttr,h1,h2,h5,hg,n2,St,ha]
  ·rintro j t df g i ⟨rfl,⟨h1,h2,-⟩,hg,ha⟩ h5;obtain⟨y,r,-,-⟩:=af i;obtain⟨x,hx,-,-⟩:=af (l:=n.XD) (j:=j) (by omega);obtain⟨row,A,q2⟩:=B j x hx;obtain⟨a',b',rfl,-,-⟩:=cE.1 q2;have hlt:j<rows.length:=by omega
   have c:=C (by omega);have u:j<(e.map ci).length:=by simpa using i
   have z:(e.map ci)[j]?=some (ci y):=by rw[XK,r];rfl
   have a:(IO n)[j]?.getD 0=x.Xx:=by simp[IO,hx]
   have q:((List.range (j+1)).all λv=>decide (-1<=e[v]?.getD 0)&&decide (e[v]?.getD 0<(IO n)[v]?.getD 0))=(decide (-1<=y)&&decide (y<x.Xx)):=by rw[YF,abw,ha,a.symm];simp[r]
   have bad:(decide (-1<=y)&&decide (y<x.Xx))=false->zq n e=false:=λh=>by
    rw[zq];have:((List.range e.length).all λv=>decide (-1<=e[v]?.getD 0)&&decide (e[v]?.getD 0<(IO n)[v]?.getD 0))=false:=by rw[<-Za,XQ];intro h2;have:=h2 j (X0.2 i);rw[r,XP,a,h]at this;cases this
    rw[this,aaP]
   by_cases c1:y < -1
   ·have:=bad (by simp;omega);simp only[sz,simprocAttr,h1,h5,rb,u,z,ci,c1,this]
   ·by_cases c2:x.Xx<=y
    ·have:=bad (by simp;omega);simp only[sz,simprocAttr,h1,h2,h5,hg,rb,m,hlt,A,c,u,z,ci,c1,c2,this]
    ·simp only[sz,simprocAttr,h1,h2,h5,hg,rb,m,hlt,A,c,u,z,ci,c1,c2,St,q];simp;omega
  ·rintro t df g ⟨rfl,⟨h1,h2,-⟩,hg,ha⟩;simp only[sz,simprocAttr,nu];rw[zq,ha,hl];simp
 ·have o:¬((e.length:Int)=(n.XD.length:Int)):=by omega
  simp only[sz,simprocAttr,gu,jk,n2,hN.len,o];rw[zq];simp[hl]
section
variable {d:Nat}{b pa ra z:AV}{gr Xx:Int}{r:List Int}
def QD(v:Nat)(q:Nat):List (Nat×AV):=[(1,Xq 0),(6,XE (v:Int)),(7,Xq q)]
structure RJ1 (gr:Int) (r:List Int) (v q i j:Nat) (t:T):Prop where
 st:St t ((8,XE (i:Int))::QD v q)
 s9:Xs t 9=XE (r.take j).sum
 all:∀y∈r.take j,0<=y/\y<=gr
structure RJ4 (gr Xx:Int) (WN:List (List Int)) (v q j:Nat) (t:T):Prop where
 st:St t (QD v q)
 all:∀r∈WN.take j,AD gr Xx r=true
structure RJ0 (n:Xb) (b:AV) (j:Nat) (t:T) (g:G):Prop where
 st:St t [(1,Xq 0),(3,XE (EO ((IO n).take j)))]
 hg:g.h.get 0=Xy 2 [[XE n.Xz,b]]
 nx:1<=g.nx
 all:∀x∈n.XD.take j,tE n.XD.length x=true
structure RJ6 (n:Xb) (b:AV) (j:Nat) (t:T) (g:G):Prop where
 st:St t [(1,Xq 0)]
 hg:g.h.get 0=Xy 2 [[XE n.Xz,b]]
 nx:1<=g.nx
 all:∀x∈n.XD.take j,nS n x=true
theorem QN[Xr]{rr:List (List AV)}{v:Nat}(s1:∀h,ak h 1 ra=some rr)(s2:rr[i]?=some [z])(s3:i<rr.length)(s4:px ra=true)(hz:Xu Xt 0 .nil r z)(hl:r.length<=4)(hg1:1<=gr/\gr<=60)
  (ht:St t ((8,XE (i:Int))::QD v q)) (h9:Xs t 9=XE 0) (Xp:Xs t 10=XE 0) (e0:g.h.get 0=Xy 2 [[XE gr,b]]) (eq:g.h.get q=Xy 3 [[XE Xx,pa,ra]])
  (bad:∀t,(∃y∈r,¬(0<=y/\y<=gr))->Xs t 2=.bool false->Q .ret t [] g) (fin:∀t,(∀y∈r,0<=y/\y<=gr)->St t ((8,XE (i:Int))::QD v q)->Xs t 9=XE r.sum->Q (.exit 6) t [] g) :
  VY (wp C0 d none lJ) Q t [] g:=by
 have n1:=λg=>hz.len g;have rz:=λh=>(hz.tree (h':=h) (XH 0)).ints;simp only[lJ];refine aU r.length (by omega) (λj t df g'=>df=[]/\g'=g/\RJ1 gr r v q i j t)
  ⟨rfl,rfl,ht,by simp[h9],by simp⟩ Xp (by decide) (by rintro j t df g v s (rfl|rfl|rfl) ⟨a1,a2,⟨b1,b2,m,n,-⟩,o,p⟩<;>exact⟨a1,a2,by simp[St,QD,sx,b1,b2,m,n],by simp[sx,o],p⟩) ?_ ?_ ?_
 ·rintro j t df g' c ⟨rfl,rfl,⟨⟨h8,h1,h6,h7,-⟩,h9,ha⟩⟩ Xp;simp only[sz,simprocAttr,h7,h8,Xp,eq,s1,s2,s3,n1];exact⟨by simp[St,QD,sx,h1,h6,h7,h8],by simp[sx,h9],ha⟩
 ·rintro j t df g' c ⟨rfl,rfl,⟨⟨h8,h1,h6,h7,-⟩,h9,ha⟩⟩ Xp;obtain⟨y,A,a,hm⟩:=af c;have e:j<(r.map ci).length:=by simpa using c
  have f:(r.map ci)[j]?=some (ci y):=by rw[XK,A];rfl
  by_cases c1:y<0
  ·simp only[sz,simprocAttr,h7,h8,Xp,eq,s1,s2,s3,rz,e,f,ci,c1];exact bad _ ⟨y,hm,by omega⟩ (by simp[sx])
  ·by_cases c2:gr<y
   ·simp only[sz,simprocAttr,h1,h7,h8,Xp,e0,eq,s1,s2,s3,rz,e,f,ci,c1,c2];exact bad _ ⟨y,hm,by omega⟩ (by simp[sx])
   ·have k:∀x∈r.take (j+1),0<=x/\x<=gr:=λx hx=>by
     rw[a]at hx;rcases Yf.1 hx with h|h
     ·exact ha x h
     ·rw[Yy.1 h];omega
    have w:=Gj (b:=60) (by decide) (l:=r.take (j+1)) λx hx=>by have:=k x hx;omega
    have u:(r.take (j+1)).length<=4:=by rw[X5];omega
    have w1:IntKind.wrap .i64 ((r.take j).sum+y)=(r.take (j+1)).sum:=by
     have e1:(r.take (j+1)).sum=(r.take j).sum+y:=by rw[a,Aj]
     rw[<-e1,an]
    simp only[sz,simprocAttr,h1,h7,h8,h9,Xp,e0,eq,s1,s2,s3,rz,e,f,ci,c1,c2,w1];exact⟨by simp[St,QD,sx,h1,h6,h7,h8],by simp[sx],k⟩
 ·rintro t df g' ⟨rfl,rfl,⟨ht,h9,ha⟩⟩;rw[XV]at h9 ha;exact fin t ha ht h9
theorem QO[Xr]{WN:List (List Int)}{v:Nat}(hra:Xu Xt 0 .nil WN ra)(hc:1<=Xx/\Xx<=4)(hg1:1<=gr/\gr<=60)
  (ht:St t (QD v q)) (h8:Xs t 8=XE 0) (e0:g.h.get 0=Xy 2 [[XE gr,b]]) (eq:g.h.get q=Xy 3 [[XE Xx,pa,ra]])
  (bad:∀t,(∃r∈WN,AD gr Xx r=false)->Xs t 2=.bool false->Q .ret t [] g) (fin:∀t,(∀r∈WN,AD gr Xx r=true)->St t (QD v q)->Q (.exit 4) t [] g) :
  VY (wp C0 d none lK) Q t [] g:=by
 obtain⟨rr,f,u,o,p⟩:=gC hra;have n1:=λg=>hra.len g;simp only[lK,su];refine aU WN.length hra.1 (λj t df g'=>df=[]/\g'=g/\RJ4 gr Xx WN v q j t)
  ⟨rfl,rfl,ht,by simp⟩ h8 (by decide) (by rintro j t df g v s (rfl|rfl|rfl) ⟨a1,a2,⟨b1,b2,l,-⟩,m⟩<;>exact⟨a1,a2,by simp[St,QD,sx,b1,b2,l],m⟩) ?_ ?_ ?_
 ·rintro j t df g' i ⟨rfl,rfl,⟨⟨h1,h6,h7,-⟩,ha⟩⟩ h8;simp only[sz,simprocAttr,h7,h8,eq,n1];exact⟨by simp[St,QD,sx,h1,h6,h7],ha⟩
 ·rintro j t df g' i ⟨rfl,rfl,⟨⟨h1,h6,h7,-⟩,ha⟩⟩ h8;obtain⟨r,hr,c,hm⟩:=af i;obtain⟨z,q2,q3,hz⟩:=o j r hr;have a:=p (by omega);have n2:=λg=>hz.len g
  by_cases c1:(r.length:Int)=Xx
  ·simp only[sz,simprocAttr,h7,h8,eq,f,q2,q3,n2,c1];refine QN (v:=v) (q:=q) (b:=b) (pa:=pa) (Xx:=Xx) (gr:=gr) f q2 q3 a hz (by omega) hg1 (by simp[St,QD,sx,h1,h6,h7,h8]) (by simp[sx]) (by simp[sx]) e0 eq ?_ ?_
   ·rintro t ⟨y,n,e⟩ h2;refine bad t ⟨r,hm,?_⟩ h2;rw[<-Za,AD];simp only[XM,X9,XQ];rintro⟨⟨-,h⟩,-⟩;exact e (h y n)
   ·rintro t k ⟨h8,h1,h6,h7,-⟩ h9
    by_cases c2:r.sum=gr
    ·simp only[sz,simprocAttr,lL,h1,h8,h9,e0,c2];refine⟨?_,λx hx=>?_⟩
     ·simp[St,QD,sx,h1,h6,h7]
     ·rw[c]at hx;rcases Yf.1 hx with h|h
      ·exact ha x h
      ·rw[Yy.1 h,AD];simp only[XM,X9,XQ];exact⟨⟨c1,k⟩,c2⟩
    ·simp only[sz,simprocAttr,lL,h1,h9,e0,c2];refine bad _ ⟨r,hm,?_⟩ (by simp[sx]);rw[AD];simp[c2]
  ·simp only[sz,simprocAttr,h7,h8,eq,f,q2,q3,n2,c1];refine bad _ ⟨r,hm,?_⟩ (by simp[sx]);rw[AD];simp[c1]
 ·rintro t df g' ⟨rfl,rfl,⟨ht,ha⟩⟩;rw[XV]at ha;exact fin t ha ht
end
theorem NX[Xr]{d:Nat}(hd:0<d)(hm:WG n Xt 0 g.h v):ah C0 d 102 [v] g=.val (.bool (zo n)):=by
 obtain⟨b,rows,rfl,e,M,hN,T,r2,Y,r4⟩:=cg d hm;have bad:¬NR n->AV.bool false=AV.bool (zo n):=λh=>by
  cases hn:zo n with
  |true=>exact absurd (lT.1 hn) h
  |false=>rfl
 rw[WL];refine cM Dj (xs:=[.agg [XE n.Xz,b]]) (by simp only[aD,e]) (by simp[qT]) hd ?_;have nl:=λg=>hN.len g;simp only[sz,simprocAttr,qT];obtain⟨g0,hg0⟩:∃g0,g0=G.empty.new (.cells [XE n.Xz,b].length [[XE n.Xz,b]] 0 false false):=⟨_,rfl⟩;have f0:g0.h.get 0=Xy 2 [[XE n.Xz,b]]:=by rw[hg0];simp[sx]
 have f1:1<=g0.nx:=by rw[hg0];simp[sx]
 rw[show (G.empty.new (Xy 2 [[XE n.Xz,b]]))=g0 from by rw[hg0];rfl];clear hg0;simp only[uO]
 by_cases c1:n.Xz<1
 ·simp only[sz,simprocAttr,f0,c1];exact bad λh=>by have:=h.g1;omega
 by_cases c2:60<n.Xz
 ·simp only[sz,simprocAttr,f0,c1,c2];exact bad λh=>by have:=h.g2;omega
 by_cases c3:(n.XD.length:Int)<1
 ·simp only[sz,simprocAttr,f0,c1,c2,c3,nl];exact bad λh=>by have:=h.l1;omega
 by_cases c4:8<(n.XD.length:Int)
 ·simp only[sz,simprocAttr,f0,c1,c2,c3,c4,nl];exact bad λh=>by have:=h.l2;omega
 refine jR (P:=λt' df g'=>df=[]/\g'=g0/\St t' [(1,Xq 0)]) ?_ ?_
 ·simp only[sz,simprocAttr,f0,c1,c2,c3,c4,nl];simp[St,sx]
 rintro t df g1 ⟨rfl,rfl,h1,-⟩;simp only[sz,simprocAttr,sn];have h8:=r4 (by omega);refine aU n.XD.length (by omega) (λj t df g=>df=[]/\RJ0 n b j t g)
  ⟨rfl,by simp[St,sx,h1,EO],f0,f1,by simp⟩ (by simp[sx]) (by decide) (by rintro j t df g v s (rfl|rfl|rfl) ⟨a1,⟨b1,b2,-⟩,U,V,W⟩<;>exact⟨a1,by simp[St,sx,b1,b2],U,V,W⟩) ?_ ?_ ?_
 ·rintro j t df g L ⟨rfl,⟨⟨h1,h3,-⟩,hg,f,ha⟩⟩ h4;simp only[sz,simprocAttr,h1,h4,hg,nl];exact⟨by simp[St,sx,h1,h3],hg,f,ha⟩
 ·rintro j t df g L ⟨rfl,⟨⟨h1,h3,-⟩,hg,f,ha⟩⟩ h4;obtain⟨x,hx,I,i⟩:=af L;obtain⟨pa,ra,J,hlt,N,F⟩:=Y j x hx;have z:=λg=>Ep (d:=d+1) (g:=g) (P:=Xt) (k:=0) (l:=x.XA) (n:=(n.XD.length:Int)) (XR d) (N.tree (h':=g.h) (XH 0));have m:¬(0=g.nx):=by omega
  have badn:tE n.XD.length x=false->AV.bool false=AV.bool (zo n):=λh=>bad λhr=>by have h1:=hr.Xx x i;have h2:=hr.places x i;rw[tE,h2]at h;simp at h;omega
  by_cases d1:x.Xx<1
  ·simp only[sz,simprocAttr,h1,h4,hg,T,hlt,J,d1];exact badn (by rw[tE];simp;omega)
  by_cases d2:4<x.Xx
  ·simp only[sz,simprocAttr,h1,h4,hg,T,hlt,J,d1,d2];exact badn (by rw[tE];simp;omega)
  cases d3:CY x.XA n.XD.length with
  | false =>rw[d3]at z;simp only[sz,simprocAttr,h1,h4,hg,T,hlt,J,m,nl,z,d1,d2];exact badn (by rw[tE,d3];simp)
  | true =>
   rw[d3]at z;have X:tE n.XD.length x=true:=by rw[tE,d3];simp;omega
   have o:∀y∈n.XD.take (j+1),tE n.XD.length y=true:=λy B=>by
    rw[I]at B;rcases Yf.1 B with h|h
    ·exact ha y h
    ·rw[Yy.1 h];exact X
   have E:∀c∈(IO n).take (j+1),1<=c/\c<=4:=λc hc=>by rw[IO,<-aaC]at hc;obtain⟨y,B,rfl⟩:=Ys.1 hc;have:=o y B;simp[tE]at this;omega
   have O:=cH E;have h5:=lV (a:=((IO n).take (j+1)).length) (b:=8) (by rw[X5];omega);have Z:(4:Int) ^ 8=65536:=by decide
   have e1:EO ((IO n).take (j+1))=EO ((IO n).take j)*x.Xx:=by
    rw[aaq];have:(IO n)[j]?=some x.Xx:=by simp[IO,hx]
    rw[this];exact xC _ _
   have w1:IntKind.wrap .i64 (EO ((IO n).take j)*x.Xx)=EO ((IO n).take (j+1)):=by rw[<-e1,an]
   simp only[sz,simprocAttr,h1,h3,h4,hg,T,hlt,J,m,nl,z,d1,d2,w1];refine⟨?_,?_,?_,o⟩
   ·simp[St,sx,h1]
   ·simp[VO,m,hg]
   ·first| (simp;done)| (simp;omega)
 rintro t df g ⟨rfl,⟨⟨h1,h3,-⟩,hg,f,ha⟩⟩;rw[XV]at ha;rw[XZ (by rw[ap];exact XH _)]at h3;have w:∀x∈n.XD,1<=x.Xx/\x.Xx<=4:=λx hx=>by have:=ha x hx;simp[tE]at this;omega
 have A:∀x∈n.XD,CY x.XA n.XD.length=true:=λx hx=>by have:=ha x hx;simp[tE]at this;exact this.2
 have E:∀c∈IO n,1<=c/\c<=4:=λc hc=>by obtain⟨y,B,rfl⟩:=Ys.1 hc;exact w y B
 simp only[sC]
 by_cases d1:1024<EO (IO n)
 ·simp only[sz,simprocAttr,h3,d1];exact bad λh=>by have:=h.worlds;omega
 have Q:=λg=>QA (d:=d+1) (g:=g) (k:=0) (P:=Xt) (XR d) (M g.h) (by omega) λx hx y B=>by have:=aO (A x hx) y B;omega
 cases d2:vH (BQ n) with
 | false =>simp only[sz,simprocAttr,h1,h3,hg,d1];refine aG (Q _) λrp hrp=>?_;have u:=λg=>Bz (d:=d+1) (g:=g) (P:=Xt) (k:=0) (p:=BQ n) (XR d) (hrp.sl g.h);rw[d2]at u;simp only[sz,simprocAttr,u];exact bad λh=>by have:=h.UK;rw[d2]at this;cases this
 |true =>
 refine jR (P:=λt' df g'=>df=[]/\g'=g/\St t' [(1,Xq 0)]/\vH (BQ n)=true) ?_ ?_
 ·simp only[sz,simprocAttr,h1,h3,hg,d1];refine aG (Q _) λrp hrp=>?_;have u:=λg=>Bz (d:=d+1) (g:=g) (P:=Xt) (k:=0) (p:=BQ n) (XR d) (hrp.sl g.h);rw[d2]at u;simp only[sz,simprocAttr,u];simp[St,sx,h1,d2]
 clear h1 h3;rintro t df g ⟨rfl,rfl,⟨h1,-⟩,D⟩;simp only[sz,simprocAttr,so,sA];refine aU n.XD.length (by omega) (λj t df g=>df=[]/\RJ6 n b j t g)
  ⟨rfl,by simp[St,sx,h1],hg,f,by simp⟩ (by simp[sx]) (by decide) (by rintro j t df g v s (rfl|rfl|rfl) ⟨a1,⟨b1,-⟩,U,V,W⟩<;>exact⟨a1,by simp[St,sx,b1],U,V,W⟩) ?_ ?_ ?_
 ·rintro j t df g L ⟨rfl,⟨⟨h1,-⟩,hg,f,ha⟩⟩ h6;simp only[sz,simprocAttr,h1,h6,hg,nl];exact⟨by simp[St,sx,h1],hg,f,ha⟩
 ·rintro j t df g L ⟨rfl,⟨⟨h1,-⟩,hg,f,ha⟩⟩ h6;obtain⟨x,hx,I,i⟩:=af L;obtain⟨pa,ra,J,hlt,N,F⟩:=Y j x hx;have m:¬(0=g.nx):=by omega
  have z:=bc (A x i) (by omega);have C:∀p∈x.XA,0<=p/\p<(n.XD.length:Int):=aO (A x i);have O:∀c∈EP (IO n) x.XA,1<=c/\c<=4:=aZ E λp hp=>by rw[ap];exact C p hp
  have badn:nS n x=false->AV.bool false=AV.bool (zo n):=λh=>bad λhr=>by
   have h1:=hr.rows x i;have h2:=hr.row x i;have:nS n x=true:=by simp only[nS,AD,XM,X9,XQ];exact⟨h1,λr hr=>⟨⟨(h2 r hr).1,(h2 r hr).2.1⟩,(h2 r hr).2.2⟩⟩
   rw[h]at this;cases this
  simp only[sz,simprocAttr,h1,h6,hg,T,hlt,J,m,F.len];refine aG (A9 (d:=d+1) (k:=0) (P:=Xt) (XR d) (M _) (by omega) hx (by omega) C) λrc hrc=>?_;have H:=λg=>Af (d:=d+1) (g:=g) (P:=Xt) (k:=0) (XR d) (hrc.sl g.h);rw[gE O (by simp[EP];omega)]at H
  by_cases d1:(x.rows.length:Int)=EO (EP (IO n) x.XA)
  ·simp only[sz,simprocAttr,H,d1];refine QO (v:=j) (q:=g.nx) (b:=b) (pa:=pa) (Xx:=x.Xx) (gr:=n.Xz) (WN:=x.rows) F (w x i) (by omega) (by simp[St,QD,sx,h1,h6]) (by simp[sx]) (by simp[VO,m,hg]) (by simp[VO]) ?_ ?_
   ·rintro t ⟨r,hr,R⟩ h2;simp only[sx,sy,h2];refine badn ?_;rw[nS];have:x.rows.all (AD n.Xz x.Xx)=false:=by rw[<-Za,XQ];intro h;rw[h r hr]at R;cases R
    rw[this,aaP]
   ·rintro t o ⟨h1,h6,h7,-⟩;simp only[sx,sy,↓reduceIte,h6];refine⟨?_,?_,?_,λy B=>?_⟩
    ·simp[St,h1]
    ·simp[VO,m,hg]
    ·first| (simp;done)| (simp;omega)
    ·rw[I]at B;rcases Yf.1 B with h|h
     ·exact ha y h
     ·rw[Yy.1 h,nS,XQ.2 o];simp[d1]
  ·simp only[sz,simprocAttr,H,d1];exact badn (by rw[nS];simp[d1])
 ·rintro t df g ⟨rfl,⟨⟨h1,-⟩,hg,f,K⟩⟩;rw[XV]at K;simp only[sz,simprocAttr,sB];have:zo n=true:=by unfold zo;simp only[XM,X9,XQ];exact⟨⟨⟨⟨⟨⟨⟨by omega,by omega⟩,by omega⟩,by omega⟩,ha⟩,by omega⟩,D⟩,K⟩
  rw[this]
def Ux(g:G)(b id:Nat)(l tl:List Int):Prop:=b<=id/\id<g.nx/\g.h.get id=Xy 1 (l.map ci++tl.map ci)
def Ux.rows{id:Nat}(h:Ux g b id l tl):ak g.h 1 (.Xj id 0 0 l.length none)=some (l.map ci):=by rw[bi,h.2.2,ck,XO (by simp),Zc,List.take_left' (by simp)]
def Ux.fr{g':G}{id:Nat}(h:Ux g b id l tl)(hn:g.nx<=g'.nx)(hf:g'.h.get id=g.h.get id):Ux g' b id l tl:=⟨h.1,XX h.2.1 hn,by rw[hf,h.2.2]⟩
def Ve{n:Nat}(hn:n<=1000)(hb:b<=g.nx)(k:∀g',Ux g' b g.nx [] (List.replicate n 0)->g'.nx=g.nx+1->(∀i,i<g.nx->g'.h.get i=g.h.get i)->K (.Xj g.nx 0 0 0 none) g') :
  (DX 1 8 [XE 0] (XE 0) (XE (n:Int)) g).sat K g D:=by
 have h1:n<=aH:=by unfold aH;omega
 have h2:n*8<=aH:=by unfold aH;omega
 have key:DX 1 8 [XE 0] (XE 0) (XE (n:Int)) g=.upd (.Xj g.nx 0 0 0 none) (g.new (Xy 1 (gz n [XE 0]))):=by
  show (match cd aH (XE (.ofNat n)) with
   | some cn=>match cd cn (XE 0) with
    |some ln=>ax (Nat.ble (cn*8) aH) (OR.upd (.Xj g.nx 0 0 ln none) (g.new (Xy 1 (gz cn [XE 0])))) .fail
    |none=>.fail
   |none=>.fail)=_
  have a1:cd aH (XE (.ofNat n))=some n:=by show ax (Nat.ble n aH) (some n) none=_;rw[aa,XO (by simpa using h1)]
  have a2:cd n (XE 0)=some 0:=by show ax (Nat.ble 0 n) (some 0) none=_;rw[aa,XO (by simp)]
  rw[a1];dsimp only;rw[a2];dsimp only;rw[aa,XO (by simpa using h2)]
 rw[key];refine k _ ⟨hb,by simp,?_⟩ (by simp) (λi hi=>?_)
 ·simp[aY,gz,ci]
 ·rw[G.new_h,aq]
def Ox{id:Nat}{x y:Int}(hv:Ux g b id l (y::tl))(hx:ak g.h 1 w=some [ci x])(hr:l.length<=1000)
  (k:∀g',Ux g' b id (l++[x]) tl->g'.nx=g.nx->(∀i,i≠id->g'.h.get i=g.h.get i)->K (.Xj id 0 0 (l++[x]).length none) g'):(cZ 1 8 (.Xj id 0 0 l.length none) w g).sat K g D:=by
 unfold cZ;rw[hx];let⟨h1,h2,h3⟩:=hv;simp only[bB,G.get_eq,h3,ay,aa,Yl,YO,Yt,XM,YT,YU,Zo,Yo,XN,Yp,Z2];rw[XO ⟨by omega,by unfold aH;omega⟩,dk];have a:m_ false=true:=rfl;rw[XO ⟨by omega,a⟩];have e:mb (l.map ci++(y::tl).map ci) l.length [ci x]=(l++[x]).map ci++tl.map ci:=by simp only[mb,kK];rw[YV,YA,Z7,Y3 _ _ (by simp)];simp
 rw[e];have k:=k (g.put id (Xy 1 ((l++[x]).map ci++tl.map ci))) ⟨h1,by simpa using h2,by simp[aY]⟩ (by simp) (λi hi=>by rw[G.put_h,aq hi]);have e3:l.length+1=(l++[x]).length:=by simp
 rw[e3];exact k
def U0(p:List Nat):VS:=λP k h v=>∃o:List Int,True/\CH (One o) (One (vH p)) P k h v
theorem N8[Xr]{p:List Nat}(hd:0<d)(hv:Xu P k g.h p v)(hn:p.length<=8)(hp:∀x∈p,x<2 ^ p.length) :
  ∃z,ah C0 d 124 [v] g=.val z/\U0 p Xt 0 .nil z:=by
 obtain⟨v',e,r1⟩:=aB hv d;have hlt:=tk hv;rw[WL];refine aP EU (xs:=[v']) (by simp only[aD,e]) (by simp[tR]) (qw λo=>jb (m:=1) (aI _) (aI _) (by decide) (by decide)) (by decide) hd ?_;have vl:∀g,bC .slice v' g=.val (XE (p.length:Int)):=λg=>(r1 .nil).len g;simp only[sz,simprocAttr,tR,vl];refine Ve (b:=0) (n:=p.length) (by omega) (Yi _) λg1 hu hn1 hf1=>?_;obtain⟨id,J⟩:∃id,id=G.empty.nx:=⟨_,rfl⟩;rw[<-J]at hu ⊢;clear J hn1 hf1;simp only[sz,simprocAttr];refine gi (λn t df g=>df=[]/\∃(L:List Nat) (D:Nat) (tl:List Int),n=p.length - L.length/\L.length+tl.length=p.length/\MV p L/\TZ D L/\MT p D/\St t [(0,v'),(4,.Xj id 0 0 (L.map λi:Nat=>(i:Int)).length none),(5,R7 (D:Int))]/\Ux g 0 id (L.map λi:Nat=>(i:Int)) tl) p.length
  ⟨rfl,[],0,List.replicate p.length 0,by simp,by simp,⟨by simp,by simp⟩,⟨by decide,by simp⟩,FN,by simp[sx,St],hu⟩ ?_
 rintro n t df g ⟨rfl,L,D,tl,rfl,I,O,f,hG,⟨h0,h4,h5,-⟩,hu⟩;have h8:=Qo O;have Z:∀g',bC .slice (.Xj id 0 0 (L.map λi:Nat=>(i:Int)).length none) g'=.val (XE (L.length:Int)):=λg'=>by rw[bQ hu.rows];simp
 simp only[sz,simprocAttr,uE,h0,h4,vl,Z];refine bk (λhb=>?_) (λhb=>?_)
 ·have K:L.length<p.length:=by simpa using hb
  obtain⟨y,tl,rfl⟩:∃y tl',tl=y::tl':=by
   cases tl with
   |nil=>simp at I;omega
   |cons y tl=>exact⟨y,tl,rfl⟩
  simp only[sz,simprocAttr,h0,vl,uD];refine aT (m:=p.length) (by omega) (λj t df g'=>df=[]/\g'=g/\St t [(0,v'),(16,v'),(4,.Xj id 0 0 (L.map λi:Nat=>(i:Int)).length none),(5,R7 (D:Int))]/\∀v,v<j->D.testBit v=true\/¬UX (OH p v) D)
   ⟨rfl,rfl,by simp[sx,St,h0,h4,h5],λv hv=>by omega⟩ (by simp[sx]) (by simp[sx]) (by decide) (by rintro j t df g v s (rfl|rfl|rfl)<;>simp[sx,St]) ?_ ?_
  ·rintro j t df g' V ⟨rfl,rfl,⟨h0,u,h4,h5,-⟩,c⟩ w H;obtain⟨x,hx,-,h7⟩:=af V;have F:OH p j=x:=by simp[OH,hx]
   have h6:=hlt x h7;have C:j<(p.map cu).length:=by simpa using V
   have E:(p.map cu)[j]?=some (cu x):=by rw[XK,hx];rfl
   have b1:=Lq .i64 D j f.1;have R:D / 2 ^ j<2^64:=aaJ (Zh _ _) f.1;have b2:cL .and (R7 ((D / 2 ^ j:Nat):Int)) (R7 1)=.val (R7 ((D / 2 ^ j &&& 1:Nat):Int)):=Lh _ 1 R (by decide);have b3:=JW x D h6 f.1;have ra:=λh=>(r1 h).nats;have l:D.testBit j = !decide (((D / 2 ^ j &&& 1:Nat):Int)=0):=by
    rw[<-zP,o4];have h2:D / 2 ^ j &&& 1=(D / 2 ^ j) % 2:=abM _;rw[h2];have:=YX (D / 2 ^ j) (show 0<2 by decide)
    by_cases h3:D / 2 ^ j % 2=0
    ·rw[h3];simp
    ·have h4:D / 2 ^ j % 2=1:=by omega
     rw[h4];simp
   have next:(D.testBit j=true\/¬UX (OH p j) D)->∀v,v<j+1->D.testBit v=true\/¬UX (OH p v) D:=λh v hv=>by
    by_cases e:v=j
    ·subst e;exact h
    ·exact c v (by omega)
   by_cases c1:((D / 2 ^ j &&& 1:Nat):Int)=0
   ·by_cases c2:((x ^^^ (x &&& D):Nat):Int)=0
    ·have Q:fM x D=0:=by simpa [fM] using c2
     have r:=FE.1 Q;have W:j ∉ L:=λh=>by have:=(f.2 j).2 h;rw[l,c1]at this;simp at this
     have h9:D ||| w8 j<2^64:=Me f.1 (Ax j);simp only[sz,simprocAttr,u,h4,h5,w,b1,b2,b3,ra,C,E,cu,c1,c2];refine Ox (x:=(j:Int)) (hu.fr (by simp) (by rw[G.new_h,aq (by have:=hu.2.1;omega)])) (by simp[sx,sy,ci]) (by simp;omega) λg2 hu2 n2 f2=>?_;have M:cL .shl (R7 1) (XE (j:Int))=.val (R7 (w8 j:Int)):=vE .i64 j;have e1:(L.map λi:Nat=>(i:Int))++[(j:Int)]=(L++[j]).map λi:Nat=>(i:Int):=by simp
     rw[e1]at hu2 ⊢;simp only[sz,simprocAttr,h5,M,Gx _ _ f.1 (Ax j)];refine⟨p.length - (L++[j]).length,by simp;omega,L++[j],D ||| w8 j,tl,rfl,by simp at I ⊢;omega,NI O W V λq hq=>?_,N5 f (by omega),Iq hG (by omega) (by rw[F];exact r),by simp[sx,St,h0],hu2⟩;rw[F]at hq;exact (f.2 q).1 (r q hq)
    ·have X:¬UX (OH p j) D:=λh=>c2 (by
      have:=FE.2 h;rw[F]at this;simp[fM]at this;simp[this])
     simp only[sz,simprocAttr,h0,u,h4,h5,w,H,b1,b2,b3,ra,C,E,cu,c1,c2,St];exact next (.inr X)
   ·simp only[sz,simprocAttr,h0,u,h4,h5,w,H,b1,b2,ra,C,E,cu,c1,St];exact next (.inl (by rw[l,Yq c1];rfl))
  ·rintro t df g' ⟨rfl,rfl,-,c⟩;obtain⟨v0,h1,N⟩:=Sp O K;have A:vH p=false:=by
    cases hc:vH p with
    |false=>rfl
    | true =>
     have:=Gu hp hc (T:=D) (λv hv hb=>by
      rcases c v hv with h|h
      ·rw[h]at hb;cases hb
      ·exact h) v0 h1
     exact absurd ((f.2 v0).1 this) N
   simp only[sz,simprocAttr,uF];exact⟨λ_=>True,[],.XC,.bool false,rfl,⟨.XC,rfl,by show 0<2^63;decide,rfl⟩,gD.2 (by rw[A])⟩
 ·have U:p.length<=L.length:=by simp at hb;omega
  have Y:tl=[]:=YK (by omega);subst Y;have B:=NH O U;have A:=za hG λv hv=>(f.2 v).2 (B.1 v hv);simp only[sz,simprocAttr,uG,h4];refine⟨λ_=>True,L.map (λi:Nat=>(i:Int)),_,_,rfl,⟨_,rfl,by simp;omega,trivial,_,hu.rows,VJ (λa=>aK.2 rfl) _⟩,gD.2 (by rw[A])⟩
def NU{C:Xg}{id:Nat}{ps:List Nat}{assign body:Code}{a b:SC}{Xi:Nat}{args:List AV}{t':T}
  (hg:g.h.get id=.loop nt t ps assign body Xi .ready none) (ha:cF C nt assign=a) (hb:cF C nt body=b) (hp:dN t nt ps args=some t')
  (h:wp C d (some id) a (λe t1 df g1=>e=.norm/\df=[]/\g1=g /\
   wp C d (some id) b (λe _ df g2=>df=[]/\g2.h.get id=.loop nt t ps assign body Xi .busy none/\((e=.norm/\K (.bool true) (g2.put id (.loop nt t ps assign body Xi .ready none)))\/(e=.ret/\K (.bool false) (g2.put id (.loop nt t ps assign body Xi .done (some .ret))))))
    t1 [] (g.put id (.loop nt t ps assign body Xi .busy none))) t' [] g) :
  (da (I C) d id args g).sat K g D:=by
 subst ha;subst hb;unfold da;rw[show g.get id=_ from hg];dsimp only;rw[hp];dsimp only;have h1:=xh h;cases hc:(I C).code nt d (some id) assign t' [] g with
 |fail=>rw[hc]at h1;exact h1.elim
 | ok e t1 df g1 =>
  rw[hc]at h1;obtain⟨rfl,rfl,rfl,h2⟩:=h1;dsimp only;rw[show g1.get id=_ from hg];dsimp only;have h3:=xh h2;cases hc2:(I C).code nt d (some id) body t1 [] (g1.put id (.loop nt t ps assign body Xi .busy none)) with
  |fail=>rw[hc2]at h3;exact h3.elim
  | ok e t2 df2 g2 =>rw[hc2]at h3;obtain⟨rfl,h4,h5⟩:=h3;dsimp only;rw[show g2.get id=_ from h4];rcases h5 with⟨rfl,h5⟩|⟨rfl,h5⟩<;>exact h5
def y7{C:Xg}{f:Od}{ps:List Nat}{a b:SC}{df:List Xo}{fn:Nat}{first cap:List AV}{s:SF}(hv:f.get t=.W_ fn first cap)(he:C.ext fn=none)(hs:WY C fn=some s)
  (hl:(first++(.VZ (g.nx+1)::cap)).length<=s.nt)
  (h:∀assign body,cF C nt assign=a->cF C nt body=b ->
   wp C d none s.code (Sb C d s.res λ_ g2=>∃nt' t' ps' as' bd' dfr',(g2.h.get (g.nx+1)=.loop nt' t' ps' as' bd' dfr' .ready none/\Q .norm t (.mark g.nx::df) (g2.put (g.nx+1) (.loop nt' t' ps' as' bd' dfr' .exhausted none))) \/
     (g2.h.get (g.nx+1)=.loop nt' t' ps' as' bd' dfr' .done (some .ret)/\Q .ret t (.mark g.nx::df) (g2.put (g.nx+1) (.loop nt' t' ps' as' bd' dfr' .exhausted (some .ret)))))
    (bJ 0 (first++(.VZ (g.nx+1)::cap)) .nil) [] ((g.new (.Xi true)).new (.loop nt t ps assign body g.nx .ready none))) :
  wp C d none (.SL nt f ps a b) Q t df g:=by
 intro assign body ha hb;have h:=tC hs hl (h assign body ha hb);show (dw C (I C) nt d none (f.get t) ps assign body t (.mark g.nx::df) g.nx (g.new (.Xi true))).sat Q;rw[hv];unfold dw;dsimp only;rw[he];show (match (I C).call d fn (first++(AV.VZ (g.nx+1)::cap)) ((g.new (.Xi true)).new (.loop nt t ps assign body g.nx .ready none)) with
  |.ok _ g2=>eC (I C) nt d none (g.nx+1) t (.mark g.nx::df) g2
  |.fail=>.fail).sat Q
 cases hc:(I C).call d fn (first++(AV.VZ (g.nx+1)::cap)) ((g.new (.Xi true)).new (.loop nt t ps assign body g.nx .ready none)) with
 |fail=>rw[hc]at h;exact h.elim
 | ok v g2 =>
  rw[hc]at h;let⟨nt',t',ps',as',bd',dfr',h⟩:=h;show (eC (I C) nt d none (g.nx+1) t (.mark g.nx::df) g2).sat Q;unfold eC;rcases h with⟨h1,h2⟩|⟨h1,h2⟩
  ·rw[show g2.get (g.nx+1)=_ from h1];exact h2
  ·rw[show g2.get (g.nx+1)=_ from h1];dsimp only;rw[JP];exact h2
def RwV(x:Node):VS:=λP k h v=>∃p,v=.W_ 165 [] [p] /\
 ((∃id cs,p=Xq id/\P id/\h.get id=Xy 3 [cs]/\Rp.rp P k h x cs)\/∃t cs,p=.Xn t 3 [cs] 0 0/\t<=k/\Rp.rp Xt k .nil x cs)
def UM(x:Node):Q6 (RwV x) 2:=by
 refine⟨λ{P k h v n} d r hn=>?_,λ{k h v n} r hn=>?_⟩
 ·obtain⟨p,rfl,r⟩:=r;obtain⟨n,rfl⟩:∃q,n=q+2:=⟨n - 2,by omega⟩;rcases r with⟨id,cs,rfl,-,hg,r⟩|⟨t,cs,rfl,ht,r⟩
  ·obtain⟨cs',e,r'⟩:=Rp.Xm (n:=n) d r (by show (_:Nat)<=n;exact Ya (show Rp.dp Node<=20 by decide) (by omega)) (by decide);obtain⟨m,e2,l2⟩:=Rp.tag (n:=aF) r' (by decide);refine⟨.W_ 165 [] [.Xn (Nat.max d (Nat.max m 0)) 3 [cs'] 0 0],?_,_,rfl,.inr ⟨_,cs',rfl,?_,r'⟩⟩
   ·have:Hx.Xm h d (n+1) (Xq id)=some (.Xn (Nat.max d (Nat.max m 0)) 3 [cs'] 0 0):=by simp only[Hx.Xm,hg,show Nat.beq 0 0=true from rfl,aD,e,jf,il,e2]
    simp only[Hx.Xm,aD]at this ⊢;rw[this]
   ·show max d (max m 0)<=max k d;omega
  ·refine⟨.W_ 165 [] [.Xn t 3 [cs] 0 0],rfl,_,rfl,.inr ⟨t,cs,rfl,by omega,Rp.mono r (λi hi=>hi.elim) (by omega)⟩⟩
 ·obtain⟨p,rfl,r⟩:=r;obtain⟨n,rfl⟩:∃q,n=q+2:=⟨n - 2,by omega⟩;rcases r with⟨id,cs,rfl,a,-⟩|⟨t,cs,rfl,ht,r⟩
  ·exact a.elim
  ·exact⟨Nat.max t 0,rfl,by show max t 0<=k;omega⟩
theorem Qh[Xr](hd:0<d)(hm:WG x Xt 0 g.h v) :
  ∃pa ra,ah C0 d 150 [v] g=.val (.W_ 165 [] [.Xn 0 3 [[XE x.Xx,pa,ra]] 0 0])/\Xu Xt 0 .nil x.XA pa/\Xu Xt 0 .nil x.rows ra:=by
 have e0:=jM d hm;obtain⟨cs,rfl,hc⟩:=hm;obtain⟨a,b,rfl,hR,hN⟩:=cE.1 hc;have key:∃r,ah C0 d 150 [.agg [XE x.Xx,a,b]] g=.val r/\RwV x Xt 0 .nil r:=by rw[WL];refine aP Id (xs:=[.agg [XE x.Xx,a,b]]) (by simp only[aD,e0]) (by simp[yE]) (UM x) (by decide) hd ?_;simp only[sz,simprocAttr,yE,zG];exact⟨λ_=>True,_,rfl,.inl ⟨0,_,rfl,trivial,by simp[sx],Rp.tree hc (XH _)⟩⟩
 obtain⟨r,h1,p,rfl,h2⟩:=key;rcases h2 with⟨id,cs,rfl,e,-⟩|⟨t,cs,rfl,ht,hr⟩
 ·exact e.elim
 ·have:t=0:=by omega
  subst this;obtain⟨a',b',rfl,c,k⟩:=cE.1 hr;exact⟨a',b',h1,c,k⟩
def bZ(fo l sz i off:Nat)(rows:List (List AV)):GO fo (.Xn l sz rows i off)=.val (.Xn l sz rows i (off+fo)):=rfl
def QU[Xr]{id:Nat}{pa ra:AV}{WN:List (List Int)}{g0:G}(hra:Xu Xt 0 .nil WN ra)(J:Nat->H->Prop)(E:G->Prop)
  (step:∀(j:Nat) (r:List Int) (z:AV) (g:G) (K':AV->G->Prop) (D:Xo->Prop),WN[j]?=some r->Xu Xt 0 .nil r z->g0.nx<=g.nx->J j g.h ->
   (∀g',J (j+1) g'.h->g.nx<=g'.nx->K' (.bool true) g')->(∀g',E g'->K' (.bool false) g')->(da (I C0) d id [XE (j:Int),z] g).sat K' g D)
  (h0:J 0 g0.h) (fin:∀g',J WN.length g'.h->g0.nx<=g'.nx->K (.WM []) g') (finE:∀g',E g'->K (.WM []) g') :
  wp C0 d none gq.code (Sb C0 d gq.res K) (bJ 0 [.VZ id,.Xn 0 3 [[XE c,pa,ra]] 0 0] .nil) [] g0:=by
 let⟨rr,f,n,i,l⟩:=gC hra;simp only[sz,simprocAttr,gq,uC,bZ,bj,hra.len];refine aT hra.1 (λj t df g=>df=[]/\St t [(0,.VZ id),(6,ra)]/\J j g.h/\g0.nx<=g.nx) ⟨rfl,by simp[St,sx],h0,XH _⟩ (by simp[sx]) (by simp[sx]) (by decide) (by rintro j t df g v s (rfl|rfl|rfl)<;>simp[St,sx]) ?_ ?_
 ·rintro j t df g b ⟨rfl,⟨h0,h6,-⟩,a,k⟩ h8 h7;obtain⟨r,hr,-,-⟩:=af b;let⟨z,q2,q3,hz⟩:=i j r hr;simp only[sz,simprocAttr,h0,h6,h8,f,q2,q3];show (da (I C0) d id [XE (j:Int),z] g).sat _ _ _;refine step j r z g _ _ hr hz k a (λg' hJ' hn'=>?_) λg' hE=>?_
  ·simp only[sz,simprocAttr,h7,h8];simp[St,sx,h0,h6,hJ',Ya k hn']
  ·simp only[sz,simprocAttr];exact finE g' hE
 ·rintro t df g ⟨rfl,-,a,k⟩;simp only[sx,↓reduceIte];exact fin g a k
def Kd[Xr]:C0.ext 165=none:=by kernel_rfl
structure Vu (b:Nat) (g2 g3:G) (e:Ex) (A B:Prop):Prop where
 nx:g2.nx<=g3.nx
 fr:∀i,b<=i->i<g2.nx->g3.h.get i=g2.h.get i
 st:(e=.norm/\A)\/(e=.ret/\B)
def QS[Xr]{y p:Nat}{pa ra:AV}{WN:List (List Int)}{ca cb:SC}(hra:Xu Xt 0 .nil WN ra)(hv:Xs t y=.W_ 165 [] [.Xn 0 3 [[XE c,pa,ra]] 0 0])(hp:p<nt)(hq:q<nt)
  (J:Nat->H->Prop) (E:H->Prop) (hJ:∀j h h',(∀i,i<g.nx->h'.get i=h.get i)->J j h->J j h') (hE:∀h h',(∀i,i<g.nx->h'.get i=h.get i)->E h->E h') (h0:J 0 g.h)
  (step:∀(j:Nat) (r:List Int) (z:AV) (g1:G),WN[j]?=some r->Xu Xt 0 .nil r z->J j g1.h->g.nx+2<=g1.nx ->
   wp C0 d (some (g.nx+1)) ca (λe t1 df g1'=>e=.norm/\df=[]/\g1'=g1/\∀g2:G,g2.nx=g1.nx->(∀i,i≠g.nx+1->g2.h.get i=g1.h.get i) ->
    wp C0 d (some (g.nx+1)) cb (λe _ df g3=>df=[]/\Vu g.nx g2 g3 e (J (j+1) g3.h) (E g3.h)) t1 [] g2)
    (eT (eT t p (XE (j:Int))) q z) [] g1)
  (fin:∀g',J WN.length g'.h->g.nx+2<=g'.nx->g'.h.get g.nx=.Xi true->Q .norm t [.mark g.nx] g')
  (finE:∀g',E g'.h->g.nx+2<=g'.nx->g'.h.get g.nx=.Xi true->Q .ret t [.mark g.nx] g') :
  wp C0 d none (.SL nt (.t y) [p,q] ca cb) Q t [] g:=by
 refine y7 hv Kd ET (by simp[gq]) ?_;intro assign body ha hb;have e1:((g.new (.Xi true)).new (.loop nt t [p,q] assign body g.nx .ready none)).nx=g.nx+2:=by simp
 refine QU hra
  (λj h=>J j h/\h.get g.nx=.Xi true/\h.get (g.nx+1)=.loop nt t [p,q] assign body g.nx .ready none)
  (λg'=>E g'.h/\g'.h.get g.nx=.Xi true/\g'.h.get (g.nx+1)=.loop nt t [p,q] assign body g.nx .done (some .ret)/\g.nx+2<=g'.nx) ?_ ?_ ?_ ?_
 ·rintro j r z g1 K' D hr hz k ⟨a1,a2,a⟩ kk kE;rw[e1]at k;refine NU a ha hb (t':=eT (eT t p (XE (j:Int))) q z) ?_ ?_
  ·simp only[dN,aa,YM,XO hp,XO hq];rfl
  ·refine ch _ (step j r z g1 hr hz a1 (by omega)) ?_;rintro e t1 df g1' ⟨rfl,rfl,rfl,h⟩;refine⟨rfl,rfl,rfl,?_⟩;have hl:g.nx+1<g1'.nx:=by omega
   refine ch _ (h (g1'.put (g.nx+1) (.loop nt t [p,q] assign body g.nx .busy none)) (by simp) (λi hi=>by simp[VO,hi])) ?_;rintro e m df g3 ⟨rfl,⟨b2,b,b1⟩⟩;have l:g3.h.get (g.nx+1)=.loop nt t [p,q] assign body g.nx .busy none:=by rw[b _ (by omega) (by simpa using hl)];simp[VO]
   have f:g3.h.get g.nx=.Xi true:=by rw[b _ (by omega) (by simp;omega)];simp[VO,a2]
   refine⟨rfl,l,?_⟩;rcases b1 with⟨rfl,b1⟩|⟨rfl,b1⟩
   ·refine .inl ⟨rfl,kk _ ⟨hJ _ g3.h _ (λi hi=>by simp[VO,show ¬i=g.nx+1 by omega]) b1,?_,?_⟩ (by simpa using b2)⟩
    ·simp[VO,f]
    ·simp[VO]
   ·refine .inr ⟨rfl,kE _ ⟨hE g3.h _ (λi hi=>by simp[VO,show ¬i=g.nx+1 by omega]) b1,?_,?_,?_⟩⟩
    ·simp[VO,f]
    ·simp[VO]
    ·simp at b2 ⊢;omega
 ·refine⟨hJ 0 g.h _ (λi hi=>?_) h0,?_,?_⟩
  ·simp[VO,show ¬i=g.nx+1 by omega,show ¬i=g.nx by omega]
  ·simp[VO]
  ·simp[VO]
 ·rintro g' ⟨a1,a2,a⟩ k;rw[e1]at k;refine⟨_,_,_,_,_,_,.inl ⟨a,fin _ (hJ _ g'.h _ (λi hi=>by simp[VO,show ¬i=g.nx+1 by omega]) a1) (by simpa using k) ?_⟩⟩;simp[VO,a2]
 ·rintro g' ⟨a1,a2,a,k⟩;refine⟨_,_,_,_,_,_,.inr ⟨a,finE _ (hE g'.h _ (λi hi=>by simp[VO,show ¬i=g.nx+1 by omega]) a1) (by simpa using k) ?_⟩⟩;simp[VO,a2]
abbrev NwM:Type:=Xb×List Int×List Nat×List Int
theorem Ga{x:NwM}{cs:List AV}:Rp.rp P k h x cs↔∃a b c e,cs=[XE x.1.Xz,a,b,c,e]/\Xu P k h x.1.XD a/\Xu P k h x.2.1 b/\Xu P k h x.2.2.1 c/\Xu P k h x.2.2.2 e:=by
 constructor
 ·rintro⟨c1,d,rfl,h1,f,i,rfl,⟨b,rfl,hb⟩,j,l,rfl,⟨c,rfl,hc⟩,⟨e,rfl,he⟩⟩;obtain⟨a,rfl,ha⟩:=dh.1 h1;exact⟨a,b,c,e,rfl,ha,hb,hc,he⟩
 ·rintro⟨a,b,c,e,rfl,ha,hb,hc,he⟩;exact⟨[_,a],[b,c,e],rfl,dh.2 ⟨a,rfl,ha⟩,[b],[c,e],rfl,⟨b,rfl,hb⟩,[c],[e],rfl,⟨c,rfl,hc⟩,⟨e,rfl,he⟩⟩
theorem Hv:∀{l:List Int},(∀x∈l,0<=x)->0<=l.sum
 |[],_=>by simp
 | x::l,h=>by have:=Hv (l:=l) λy hy=>h y (by simp[hy]);have:=h x (by simp);rw[ZH];omega
theorem JE(h:∀x∈l,0<=x)(j:Nat):(l.take j).sum<=l.sum:=by
 have:=Hv (l:=l.drop j) λx hx=>h x (Y2 hx);have e:l.sum=(l.take j).sum+(l.drop j).sum:=by rw[<-aan,YC]
 omega
def DW:∀{l:List Int},(∀x∈l,0<=x)->∀x∈l,x<=l.sum
 |[],_,x,hx=>by simp at hx
 | y::l,h,x,hx=>by
  have h1:=Hv (l:=l) λz hz=>h z (by simp[hz]);have h2:=h y (by simp);rw[ZH];rcases Yh.1 hx with rfl|hx
  ·omega
  ·have:=DW (l:=l) (λz hz=>h z (by simp[hz])) x hx;omega
def tA(gr:Int)(cs:List Int)(x:Node):Bool:=decide ((x.rows.length:Int)=EO (EP cs x.XA))&&x.rows.all (AD gr x.Xx)
structure FJ (gr:Int) (r:List Int) (z:AV) (j:Nat) (t:T):Prop where
 st:St t [(2,Xq 0),(3,Xq 1),(4,Xq 2),(9,z),(40,z),(10,XE (gr - (r.take j).sum))]
 nn:∀x∈r.take j,0<=x
 le:(r.take j).sum<=gr
theorem Ns[Xr]{rd:Option Nat}{r:List Int}{z:AV}(hz:Xu Xt 0 .nil r z)(hg1:1<=gr/\gr<=60)
  (ht:St t [(2,Xq 0),(3,Xq 1),(4,Xq 2),(9,z),(40,z),(10,XE gr)]) (h42:Xs t 42=XE 0) (h41:Xs t 41=XE (r.length:Int)) (e2:g.h.get 2=Xy 1 [[.bool false]])
  (bad:∀t,(∀Xx,AD gr Xx r=false)->Q .ret t [] (g.put 2 (Xy 1 [[.bool false]])))
  (fin:∀t,(∀x∈r,0<=x)->r.sum<=gr->St t [(2,Xq 0),(3,Xq 1),(4,Xq 2),(9,z),(10,XE (gr - r.sum))]->Q (.exit 4) t [] g) :
  VY (wp C0 d rd eo) Q t [] g:=by
 have rz:=λh=>(hz.tree (h':=h) (XH 0)).ints;simp only[eo];refine aT (m:=r.length) hz.1 (λj t df g'=>df=[]/\g'=g/\FJ gr r z j t) ⟨rfl,rfl,by simpa using ht,by simp,by simp;omega⟩ h42 h41 (by decide)
  (by rintro j t df g v s (rfl|rfl|rfl) ⟨a1,a2,⟨b1,b2,n,o,p,q,-⟩,u,w⟩<;>exact⟨a1,a2,by simp[St,sx,b1,b2,n,o,p,q],u,w⟩) ?_ ?_
 ·rintro j t df g' i ⟨rfl,rfl,⟨⟨h2,h3,h4,h9,k,Xp,-⟩,a,c⟩⟩ h42 h41;obtain⟨y,B,b,hm⟩:=af i;have e:j<(r.map ci).length:=by simpa using i
  have f:(r.map ci)[j]?=some (ci y):=by rw[XK,B];rfl
  have A:=Hv a
  by_cases c1:y<0
  ·simp only[sz,simprocAttr,h4,k,h42,rz,e,f,ci,c1,e2];exact bad _ (λcard=>by rw[<-Za,AD];simp only[XM,X9,XQ];rintro⟨⟨-,h⟩,-⟩;have:=h y hm;omega)
  ·by_cases c2:gr - (r.take j).sum<y
   ·simp only[sz,simprocAttr,h4,k,Xp,h42,rz,e,f,ci,c1,c2,e2];exact bad _ (λcard=>by rw[<-Za,AD];simp only[XM,X9,XQ];rintro⟨⟨-,h⟩,hs⟩;have h1:=JE (l:=r) (λx hx=>(h x hx).1) (j+1);rw[b,Aj]at h1;omega)
   ·have w1:IntKind.wrap .i64 (gr - (r.take j).sum - y)=gr - (r.take (j+1)).sum:=by rw[an,b,Aj];omega
    simp only[sz,simprocAttr,k,Xp,h42,h41,rz,e,f,ci,c1,c2,w1];refine⟨by simp[St,sx,h2,h3,h4,h9,k],λx hx=>?_,by rw[b,Aj];omega⟩;rw[b]at hx;rcases Yf.1 hx with h|h
    ·exact a x h
    ·rw[Yy.1 h];omega
 ·rintro t df g' ⟨rfl,rfl,⟨⟨h2,h3,h4,h9,k,Xp,-⟩,a,c⟩⟩;rw[XV]at a c Xp;exact fin t a c ⟨h2,h3,h4,h9,Xp,trivial⟩
structure FlJ (cs1 cs2:List AV) (gr Xx:Int) (WN:List (List Int)) (j:Nat) (h:H):Prop where
 a0:h.get 0=Xy 5 [cs1]
 a1:h.get 1=Xy 3 [cs2]
 a2:h.get 2=Xy 1 [[.bool false]]
 all:∀r∈WN.take j,AD gr Xx r=true
structure FlE (gr Xx:Int) (WN:List (List Int)) (h:H):Prop where
 a2:h.get 2=Xy 1 [[.bool false]]
 ex:∃r∈WN,AD gr Xx r=false
theorem Nt[Xr]{k1:Nat}{P1:Nat->Prop}{m:NwM}(hd:0<d)(hm:WG m P1 k1 g.h v)(hx:WG x P2 k2 g.h w)(hk:k2=0/\P2=Xt)(hg1:1<=m.1.Xz/\m.1.Xz<=60)(hc:∀c∈m.2.1,1<=c/\c<=4)
  (hp:∀p∈x.XA,0<=p/\p<m.2.1.length) (hpl:x.XA.length<=8):ah C0 d 123 [v,w] g=.val (.bool (tA m.1.Xz m.2.1 x)):=by
 obtain⟨rfl,rfl⟩:=hk;obtain⟨v',e1,cs,rfl,R⟩:=mK (di m) (by decide) d hm;obtain⟨nb,cb,sb,ob,rfl,-,Q,-,-⟩:=Ga.1 R;have e2:=jM d hx;obtain⟨cs2,rfl,u⟩:=hx;obtain⟨pa,ra,rfl,L,E⟩:=cE.1 u;have A:∀h,WG x Xt 0 h (.agg [XE x.Xx,pa,ra]):=λh=>⟨_,rfl,Rp.tree u (XH _)⟩;have E:=E.tree (h':=.nil) (XH 0);have rp:=λh=>(L.tree (h':=h) (XH 0)).ints;have rc:=λh=>(Q.tree (h':=h) (XH _)).ints;have pl:=λg=>(L.tree (h':=.nil) (XH 0)).len g;have rl:=λg=>E.len g;rw[WL];refine cM uY (xs:=[.agg [XE m.1.Xz,nb,cb,sb,ob],.agg [XE x.Xx,pa,ra]]) (by simp only[aD,e1,e2]) (by simp[fQ]) hd ?_;simp only[sz,simprocAttr,fQ];obtain⟨g0,hg0⟩:∃g0,g0=((G.empty.new (Xy 5 [[XE m.1.Xz,nb,cb,sb,ob]])).new (Xy 3 [[XE x.Xx,pa,ra]])).new (Xy 1 [[.bool false]]):=⟨_,rfl⟩;rw[<-hg0];have f0:g0.h.get 0=Xy 5 [[XE m.1.Xz,nb,cb,sb,ob]]:=by rw[hg0];simp[sx,VO]
 have f1:g0.h.get 1=Xy 3 [[XE x.Xx,pa,ra]]:=by rw[hg0];simp[sx,VO]
 have f2:g0.h.get 2=Xy 1 [[.bool false]]:=by rw[hg0];simp[sx]
 have f3:g0.nx=3:=by rw[hg0];simp[sx]
 clear hg0;simp only[sz,simprocAttr,j5,f1,pl,jA];refine aT (m:=x.XA.length) (by omega) (λj t df g=>df=[]/\g=g0/\St t [(2,Xq 0),(3,Xq 1),(4,Xq 2),(14,pa),(5,XE (EO (EP m.2.1 (x.XA.take j))))])
  ⟨rfl,rfl,by simp[St,sx,EO,EP]⟩ (by simp[sx]) (by simp[sx]) (by decide) (by rintro j t df g v s (rfl|rfl|rfl)<;>simp[St,sx]) ?_ ?_
 ·rintro j t df g X ⟨rfl,rfl,⟨h2,h3,h4,f,h5,-⟩⟩ O U4;obtain⟨p,U,H,T⟩:=af X;obtain⟨p0,p1⟩:=hp p T;obtain⟨p,rfl⟩:=XU p0;have e:p<m.2.1.length:=by omega
  have u1:j<(x.XA.map ci).length:=by simpa using X
  have u2:(x.XA.map ci)[j]?=some (ci (p:Int)):=by rw[XK,U];rfl
  have u3:p<(m.2.1.map ci).length:=by simpa using e
  have u4:(m.2.1.map ci)[p]?=some (ci m.2.1[p]):=by rw[XK,XJ e];rfl
  have e3:EO (EP m.2.1 (x.XA.take (j+1)))=EO (EP m.2.1 (x.XA.take j))*m.2.1[p]:=by rw[H,Kw,z_];congr 1;simp[EP,EO,XJ e]
  have ha:=cH (l:=EP m.2.1 (x.XA.take (j+1))) (aZ hc λq hq=>hp q (Ym hq));have h8:=lV (a:=(EP m.2.1 (x.XA.take (j+1))).length) (b:=8) (by simp[EP];omega);have h6:(4:Int) ^ 8=65536:=by decide
  have w1:IntKind.wrap .i64 (EO (EP m.2.1 (x.XA.take j))*m.2.1[p])=EO (EP m.2.1 (x.XA.take (j+1))):=by rw[<-e3,an]
  simp only[sz,simprocAttr,h2,f,h5,O,U4,f0,rp,rc,u1,u2,u3,u4,ci,w1];simp[St,sx,h2,h3,h4,f]
 rintro t df g ⟨rfl,rfl,⟨h2,h3,h4,f,h5,-⟩⟩;rw[XV]at h5;simp only[jD]
 by_cases c1:(x.rows.length:Int)=EO (EP m.2.1 x.XA)
 ·obtain⟨pa',ra',er,Z,M⟩:=Qh (d:=d+1) (g:=g) (XR d) (A g.h);refine jR (P:=λt' df g'=>df=[]/\g'=g/\St t' [(2,Xq 0),(3,Xq 1),(4,Xq 2)]) ?_ ?_
  ·simp only[sz,simprocAttr,h3,h5,f1,rl,c1];simp[St,sx,h2,h3,h4]
  clear h2 h3 h4 h5 f;rintro t df g ⟨rfl,rfl,h2,h3,h4,-⟩;rw[cX,cX];simp only[sz,simprocAttr,h3,f1,er];refine QS (c:=x.Xx) (pa:=pa') M (by simp[sx]) (by decide) (by decide)
   (FlJ [XE m.1.Xz,nb,cb,sb,ob] [XE x.Xx,pa,ra] m.1.Xz x.Xx x.rows)
   (FlE m.1.Xz x.Xx x.rows) ?_ ?_ ⟨f0,f1,f2,by simp⟩ ?_ ?_ ?_
  ·rintro j h h' J ⟨a0,a1,a2,o⟩;exact⟨by rw[J 0 (by omega),a0],by rw[J 1 (by omega),a1],by rw[J 2 (by omega),a2],o⟩
  ·rintro h h' J ⟨a2,o⟩;exact⟨by rw[J 2 (by omega),a2],o⟩
  ·rintro j r z g1 hr hz ⟨a0,a1,a2,o⟩ Y;obtain⟨r',n,H,F⟩:=af (l:=x.rows) (j:=j) (XI.1 hr).1;rw[hr]at n;injection n with n;subst n;simp only[sz,simprocAttr,jz];intro g2 W C;have V:g2.h.get 0=Xy 5 [[XE m.1.Xz,nb,cb,sb,ob]]:=by rw[C 0 (by omega),a0]
   have b1:g2.h.get 1=Xy 3 [[XE x.Xx,pa,ra]]:=by rw[C 1 (by omega),a1]
   have b2:g2.h.get 2=Xy 1 [[.bool false]]:=by rw[C 2 (by omega),a2]
   simp only[sz,simprocAttr,jB,h2,V,hz.len];refine Ns (gr:=m.1.Xz) (r:=r) (z:=z) hz hg1 (by simp[St,sx,h2,h3,h4]) (by simp[sx]) (by simp[sx]) b2 ?_ ?_
   ·rintro t N;simp only[sx,sy];exact⟨by simp,λi h1 h2=>by simp[VO,show ¬i=2 by omega],.inr ⟨rfl,by simp[VO],r,F,N _⟩⟩
   ·rintro t K h7 ⟨h2,h3,h4,h9,Xp,-⟩;have I:=λg=>hz.len g
    by_cases c2:(r.length:Int)=x.Xx
    ·by_cases c3:m.1.Xz - r.sum=0
     ·simp only[sz,simprocAttr,cQ,h3,h9,Xp,I,b1,c2,c3];refine⟨XH _,λi _ _=>rfl,.inl ⟨rfl,V,b1,b2,λy hy=>?_⟩⟩;rw[H]at hy;rcases Yf.1 hy with h|h
      ·exact o y h
      ·rw[Yy.1 h,AD];simp only[XM,X9,XQ];exact⟨⟨c2,λq hq=>⟨K q hq,by have:=DW K q hq;omega⟩⟩,by omega⟩
     ·have k:AD m.1.Xz x.Xx r=false:=by rw[AD];simp;intros;omega
      simp only[sz,simprocAttr,cQ,h3,h4,h9,Xp,I,b1,b2,c2,c3];exact⟨by simp,λi h1 h2=>by simp[VO,show ¬i=2 by omega],.inr ⟨rfl,by simp[VO],r,F,k⟩⟩
    ·have k:AD m.1.Xz x.Xx r=false:=by rw[AD];simp[c2]
     simp only[sz,simprocAttr,cQ,h3,h4,h9,I,b1,b2,c2];exact⟨by simp,λi h1 h2=>by simp[VO,show ¬i=2 by omega],.inr ⟨rfl,by simp[VO],r,F,k⟩⟩
  ·rintro g' ⟨a0,a1,a2,o⟩ Y B;rw[XV]at o;have D:tA m.1.Xz m.2.1 x=true:=by rw[tA,XQ.2 o];simp[c1]
   simp only[sz,simprocAttr,jC,h4,a2];refine lB (by simp[VO,show ¬g.nx=2 by omega,B]) ?_;simp only[sx,sy,↓reduceIte,Nat.reduceEqDiff,h4,D];simp[show ¬(2=g.nx) by omega]
   rfl
  ·rintro g' ⟨a2,r,hr,k⟩ Y B;have D:tA m.1.Xz m.2.1 x=false:=by
    rw[tA];have:x.rows.all (AD m.1.Xz x.Xx)=false:=by rw[<-Za,XQ];intro h;rw[h r hr]at k;cases k
    rw[this,aaP]
   simp only[sx];refine lB B ?_;simp only[sx,sy,↓reduceIte,Nat.reduceEqDiff,h4,D];rw[aJ,a2]
   rfl
 ·simp only[sz,simprocAttr,h3,h4,h5,f1,f2,rl,c1];rw[tA];simp[c1]
theorem G3:∀{l:List Int} {v:Nat},(∀x∈l,0<=x/\x<64)->((BL l).testBit v=true↔(v:Int)∈l):=by
 have key:∀(l:List Int) (s v:Nat),(∀x∈l,0<=x/\x<64)->((l.foldl (λs x=>s ||| w8 x.toNat) s).testBit v=true↔s.testBit v=true\/(v:Int)∈l):=by
  intro l
  induction l with
  |nil=>intro s v _;simp
  | cons x l ih =>
   intro s v h;have hx:=h x (by simp);rw[Z1,ih _ _ λy hy=>h y (by simp[hy]),wR,CO (show x.toNat<64 by omega),YE,X9,Yh];constructor
   ·rintro ((h|h)|h)
    ·exact .inl h
    ·exact .inr (.inl (by omega))
    ·exact .inr (.inr h)
   ·rintro (h|h|h)
    ·exact .inl (.inl h)
    ·exact .inl (.inr (by omega))
    ·exact .inr h
 intro l v h;have:=key l 0 v h;simpa [BL] using this
def P8(hk:k<=64)(h:∀x∈l,0<=x/\x<k):BL l<2 ^ k:=by
 have hb:∀i,k<=i->(BL l).testBit i=false:=λi hi=>by rw[<-Za,G3 λx hx=>by have:=h x hx;omega];intro hm;have:=h _ hm;omega
 exact Nat.lt_pow_two_of_testBit _ λi hi=>hb i hi
structure Vh (n:Xb) (b cv sv:AV) (q:Nat) (X:List Int) (Y:List Nat) (g:G):Prop where
 h0:g.h.get 0=Xy 2 [[XE n.Xz,b]]
 h1:g.h.get 1=Xy 5 [[XE 0,.XC,.XC,.XC,.XC]]
 hq:g.h.get q=Xy 5 [[XE n.Xz,b,cv,sv,.XC]]
 hc:Own g 2 cv 1 (X.map ci)
 hs:Own g 2 sv 1 (Y.map cu)
 q2:2<=q
 qn:q<g.nx
 d1:W5 cv≠some q
 d2:W5 sv≠some q
 d3:∀i,W5 cv=some i->W5 sv≠some i
def Vh.fr{n:Xb}{b cv sv:AV}{q:Nat}{Y:List Nat}{g':G}(h:Vh n b cv sv q X Y g)(f:Fr g g'):Vh n b cv sv q X Y g' :=⟨by rw[f.2 0 (by have:=h.qn;have:=h.q2;omega),h.h0],by rw[f.2 1 (by have:=h.qn;have:=h.q2;omega),h.h1],by rw[f.2 q h.qn,h.hq],h.hc.step f,h.hs.step f,h.q2,XX h.qn f.1,h.d1,h.d2,h.d3⟩
def c5(n:Xb)(o:List Int):NwM:=if zo n then (n,IO n,BQ n,o) else (⟨0,[]⟩,[],[],[])
def HH(n:Xb):VS:=λP k h v=>∃o:List Int,True/\CH (WG (c5 n o)) (One (if zo n then (0:Int) else 50)) P k h v
section
variable {d:Nat}{n:Xb}{b cv sv:AV}{q:Nat}{rows:List (List AV)}
def Qg(q:Nat):List (Nat×AV):=[(1,Xq 0),(2,Xq 1),(4,Xq q)]
def UB[Xr](hn:¬NR n)(h1:g.h.get 1=Xy 5 [[XE 0,.XC,.XC,.XC,.XC]])(t2:Xs t 2=Xq 1)(t3:Xs t 3=XE 50) :
  Sb C0 d oa.res (λv g'=>∃P,HH n P 0 g'.h v) .ret t [] g:=by
 have hf:zo n=false:=by
  cases h:zo n with
  |false=>rfl
  |true=>exact absurd (lT.1 h) hn
 simp only[oa,sx,sy,↓reduceIte,Nat.reduceAdd,Nat.reduceLeDiff,t2,t3,h1];refine⟨λ_=>True,[],trivial,_,_,rfl,⟨_,rfl,?_⟩,?_⟩
 ·rw[c5,hf];exact Ga.2 ⟨.XC,.XC,.XC,.XC,rfl,⟨by show 0<2^63;decide,rfl⟩,⟨by show 0<2^63;decide,rfl⟩,⟨by show 0<2^63;decide,rfl⟩,⟨by show 0<2^63;decide,rfl⟩⟩
 ·rw[hf];exact aK.2 rfl
structure Rd0 (n:Xb) (b cv sv:AV) (q j:Nat) (t:T) (g:G):Prop where
 st:St t ((48,b)::(5,XE (EO ((IO n).take j)))::Qg q)
 hp:Vh n b cv sv q ((IO n).take j++List.replicate (n.XD.length - j) 0) (List.replicate n.XD.length 0) g
 ok:∀x∈n.XD.take j,1<=x.Xx/\x.Xx<=4
theorem SM[Xr](hl:n.XD.length<=8)(hN:Xu Xt 0 .nil n.XD b)(r1:∀h,ak h 3 b=some rows)(r2:rows.length=n.XD.length)
  (r3:∀(i:Nat) (x:Node),n.XD[i]?=some x->∃pa ra,rows[i]?=some [XE x.Xx,pa,ra]/\i<rows.length/\Xu Xt 0 .nil x.XA pa/\Xu Xt 0 .nil x.rows ra) (r4:0<n.XD.length->px b=true)
  (h0:Rd0 n b cv sv q 0 t g) (h50:Xs t 50=XE 0) (h49:Xs t 49=XE (n.XD.length:Int))
  (bad:∀t g,¬NR n->g.h.get 1=Xy 5 [[XE 0,.XC,.XC,.XC,.XC]]->Xs t 2=Xq 1->Xs t 3=XE 50->Q .ret t [] g)
  (fin:∀t g,Rd0 n b cv sv q n.XD.length t g->Q (.exit 0) t [] g):VY (wp C0 d none qJ) Q t [] g:=by
 simp only[qJ];refine aT (m:=n.XD.length) (by omega) (λj t df g=>df=[]/\Rd0 n b cv sv q j t g) ⟨rfl,h0⟩ h50 h49 (by decide)
  (by rintro j t df g v s (rfl|rfl|rfl) ⟨a1,⟨b1,b2,O,R,U,-⟩,c1,u⟩<;>exact⟨a1,by simp[St,Qg,sx,b1,b2,O,R,U],c1,u⟩) ?_ ?_
 ·rintro j t df g V ⟨rfl,⟨⟨f,h5,h1,h2,h4,-⟩,hp,H⟩⟩ h50 h49;obtain⟨x,hx,I,J⟩:=af V;obtain⟨pa,ra,K,hlt,Y,h3⟩:=r3 j x hx;have h8:=r4 (by omega);have q2:=hp.q2;have qn:=hp.qn;have o:¬(1=g.nx):=by omega
  have N:¬(q=g.nx):=by omega
  have f1:Fr g (g.new (Xy 3 [[XE 0,.XC,.XC]])):=Fr.new _ _;have badn:¬(1<=x.Xx/\x.Xx<=4)->¬NR n:=λh hr=>h (hr.Xx x J)
  by_cases c1:x.Xx<1
  ·simp only[sz,simprocAttr,h2,f,h50,r1,hlt,K,hp.h1,o,c1];exact bad _ _ (badn (by omega)) (by simp[VO]) (by simp[sx,h2]) (by simp[sx])
  ·by_cases u:4<x.Xx
   ·simp only[sz,simprocAttr,h2,f,h50,r1,hlt,K,hp.h1,o,c1,u];exact bad _ _ (badn (by omega)) (by simp[VO]) (by simp[sx,h2]) (by simp[sx])
   ·have l:∀y∈n.XD.take (j+1),1<=y.Xx/\y.Xx<=4:=λy w=>by
     rw[I]at w;rcases Yf.1 w with h|h
     ·exact H y h
     ·rw[Yy.1 h];omega
    have D:∀c∈(IO n).take (j+1),1<=c/\c<=4:=λc hc=>by rw[IO,<-aaC]at hc;obtain⟨y,w,rfl⟩:=Ys.1 hc;exact l y w
    have Z:=cH D;have X:=lV (a:=((IO n).take (j+1)).length) (b:=8) (by rw[X5];omega);have M:(4:Int) ^ 8=65536:=by decide
    have E:(IO n)[j]?=some x.Xx:=by simp[IO,hx]
    have ets:(IO n).take (j+1)=(IO n).take j++[x.Xx]:=by rw[aaq,E];rfl
    have e1:EO ((IO n).take (j+1))=EO ((IO n).take j)*x.Xx:=by rw[ets];exact xC _ _
    have w1:IntKind.wrap .i64 (EO ((IO n).take j)*x.Xx)=EO ((IO n).take (j+1)):=by rw[<-e1,an]
    have r:((IO n).take j).length=j:=by rw[X5,ap];omega
    have B:(((IO n).take j++List.replicate (n.XD.length - j) 0).map ci)[j]?=some (ci 0):=by rw[XK,X_ (by omega),r,YN,Zp,dk];rfl
    have A:j<(((IO n).take j++List.replicate (n.XD.length - j) 0).map ci).length:=by simp[ap];omega
    have C:((IO n).take j++List.replicate (n.XD.length - j) 0).set j x.Xx=(IO n).take (j+1)++List.replicate (n.XD.length - (j+1)) 0:=by rw[Y3 _ _ (by omega),r,YN,ets,show n.XD.length - j=(n.XD.length - (j+1))+1 by omega,Y4,Zt,YA];rfl
    have W:=hp.fr f1;obtain⟨g2,p⟩:∃g2,g2=(g.new (Xy 3 [[XE 0,.XC,.XC]])).put g.nx (Xy 3 [[XE x.Xx,pa,ra]]):=⟨_,rfl⟩;have f2:Fr g g2:=by rw[p];exact Tv (by simp) λi hi=>by simp[VO,show ¬i=g.nx by omega]
    have k:=hp.fr f2;have L:g2.h.get g.nx=Xy 3 [[XE x.Xx,pa,ra]]:=by rw[p];simp[VO]
    refine bP (P:=λt' df g'=>df=[]/\g'=g2/\St t' ((48,b)::(5,XE (EO ((IO n).take j)))::Qg q)/\Xs t' 6=XE (j:Int)/\Xs t' 7=Xq g.nx/\Xs t' 50=XE (j:Int)/\Xs t' 49=XE (n.XD.length:Int)) ?_ ?_
    ·simp only[sz,simprocAttr,f,h49,h50,r1,hlt,K];rw[p];simp[St,Qg,sx,h1,h2,h4,h5,f]
    clear h1 h2 h4 h5 f h49 h50;rintro t df g3 ⟨rfl,rfl,⟨f,h5,h1,h2,h4,-⟩,h6,h7,h50,h49⟩;have F:=k.hc.rows;simp only[sz,simprocAttr,h4,h6,h7,L,k.hq,F,A,c1,u];refine bF (v:=cv) (sz:=1) (n:=1) (i:=j) (off:=0) (x:=XE x.Xx) (row':=ci x.Xx) k.hc B rfl rfl rfl λg4 hu4 n4 f4=>?_;rw[ub,C]at hu4;have z:g4.h.get g.nx=Xy 3 [[XE x.Xx,pa,ra]]:=by rw[f4 _ λe=>by have:=(hp.hc.lt e).2;omega,L]
    simp only[sz,simprocAttr,h5,h7,h49,h50,z,w1];refine⟨by simp[St,Qg,sx,h1,h2,h4,f],⟨?_,?_,?_,hu4,?_,q2,by rw[n4];exact k.qn,hp.d1,hp.d2,hp.d3⟩,l⟩
    ·rw[f4 0 λe=>by have:=(hp.hc.lt e).1;omega,k.h0]
    ·rw[f4 1 λe=>by have:=(hp.hc.lt e).1;omega,k.h1]
    ·rw[f4 q hp.d1,k.hq]
    ·exact k.hs.fr (by omega) λi hi=>f4 i λe=>hp.d3 i e hi
 ·rintro t df g ⟨rfl,h⟩;exact fin t g h
end
section
variable {ps:List Int}
def kI(ps:List Int)(i:Nat):Int:=if i=0 then -1 else ps[i - 1]?.getD 0
def Bw{p:Int}(h:ps[i]?=some p):kI ps (i+1)=p:=by unfold kI;rw[aJ,Zu,h];rfl
structure PlI (ps:List Int) (k:Int) (v i:Nat):Prop where
 SL:∀(j:Nat) (p:Int),j<i->ps[j]?=some p->0<=p/\p<k/\p≠(v:Int)
 inc:∀(j:Nat) (p q:Int),j+1<i->ps[j]?=some p->ps[j+1]?=some q->p<q
def Qy{k:Int}{v:Nat}{p:Int}(h:PlI ps k v i)(hp:ps[i]?=some p)(h1:kI ps i<p)(h2:p<k)(h3:p≠(v:Int)):PlI ps k v (i+1):=by
 refine⟨λj q hj hq=>?_,λj a c hj ha hc=>?_⟩
 ·by_cases e:j=i
  ·subst e;rw[hp]at hq;cases hq;refine⟨?_,h2,h3⟩
   by_cases e0:j=0
   ·subst e0;unfold kI at h1;simp at h1;omega
   ·have b:j - 1<ps.length:=by have:=(XI.1 hp).1;omega
    have:=h.SL (j - 1) ps[j - 1] (by omega) (XJ b);unfold kI at h1;rw[XS e0,XJ b,XP]at h1;omega
  ·exact h.SL j q (by omega) hq
 ·by_cases e:j+1=i
  ·subst e;rw[hp]at hc;cases hc;rw[Bw ha]at h1;exact h1
  ·exact h.inc j a c (by omega) ha hc
def Kx{k:Int}{v:Nat}(h:PlI ps k v ps.length):CY ps k=true:=by
 unfold CY;rw[XQ];intro i hi;have hi:=X0.1 hi;have hp:ps[i]?=some ps[i]:=XJ hi;obtain⟨a,b,-⟩:=h.SL i _ hi hp
 by_cases e:i=0
 ·subst e;simp only[zj,hp,XP];simp;omega
 ·have hq:ps[i - 1]?=some ps[i - 1]:=XJ (by omega);have:=h.inc (i - 1) _ ps[i] (by omega) hq (by rw[show i - 1+1=i by omega];exact hp);simp only[zj,hp,hq,XP];simp;omega
def NR.pl{n:Xb}(h:NR n){v:Nat}(hx:n.XD[v]?=some x){p:Int}(hp:x.XA[i]?=some p):kI x.XA i<p/\p<n.XD.length/\p≠(v:Int):=by
 have hm:=XL hx;have k:=h.places x hm;have h1:=aO k p (XL hp);have hl2:=h.l2;refine⟨?_,h1.2,λe=>?_⟩
 ·unfold kI
  split
  ·omega
  ·rename_i e;have b:=(XI.1 hp).1;have hq:x.XA[i - 1]?=some x.XA[i - 1]:=XJ (by omega);rw[hq,XP];exact Ef k hq (by rw[show i - 1+1=i by omega];exact hp)
 ·have hv:=(XI.1 hx).1;have ha:=CI.1 h.UK v (by simp[BQ];exact hv);have a:OH (BQ n) v=BL x.XA:=by simp[OH,BQ,hx]
  have hb:(OH (BQ n) v).testBit v=true:=by rw[a,G3 λy hy=>by have:=aO k y hy;omega,<-e];exact XL hp
  have:=Hz (p:=BQ n) (s:=OH (BQ n) v) (BQ n).length v hb;rw[this]at ha;cases ha
section
variable {d:Nat}{n:Xb}{b cv sv:AV}{q:Nat}{rows:List (List AV)}
def ym(n:Xb)(j:Nat)(m:Nat):List Nat:=(BQ n).take j++m::List.replicate (n.XD.length - (j+1)) 0
structure Rd1 (n:Xb) (x:Node) (b cv sv pa:AV) (q j p9 i:Nat) (t:T) (g:G):Prop where
 st:St t ((80,b)::(81,XE (n.XD.length:Int))::(82,XE (j:Int))::(88,pa)::(8,XE (j:Int))::(9,Xq p9)::(10,XE (kI x.XA i))::Qg q)
 hp:Vh n b cv sv q (IO n) (ym n j (BL (x.XA.take i))) g
 ok:PlI x.XA n.XD.length j i
theorem SN[Xr]{pa:AV}{p9:Nat}{c9:List AV}(hl:n.XD.length<=8)(hN:Xu Xt 0 .nil n.XD b)(hx:n.XD[j]?=some x)(hpa:Xu Xt 0 .nil x.XA pa)
  (h0:Rd1 n x b cv sv pa q j p9 0 t g) (h90:Xs t 90=XE 0) (h89:Xs t 89=XE (x.XA.length:Int)) (e9:g.h.get p9=Xy 3 [c9]) (p9s:W5 sv≠some p9)
  (bad:∀t g,¬NR n->g.h.get 1=Xy 5 [[XE 0,.XC,.XC,.XC,.XC]]->Xs t 2=Xq 1->Xs t 3=XE 50->Q .ret t [] g)
  (fin:∀t g',Rd1 n x b cv sv pa q j p9 x.XA.length t g'->g'.h.get p9=Xy 3 [c9]->g.nx<=g'.nx->Q (.exit 4) t [] g'):VY (wp C0 d none qK) Q t [] g:=by
 have Z:=(XI.1 hx).1;have nl:=λg=>hN.len g;have rp:=λh=>(hpa.tree (h':=h) (XH 0)).ints;have w:(BQ n).length=n.XD.length:=by simp[BQ]
 have y:((BQ n).take j).length=j:=by rw[X5,w];omega
 simp only[qK];refine aT (m:=x.XA.length) hpa.1 (λi t df g'=>df=[]/\Rd1 n x b cv sv pa q j p9 i t g'/\g'.h.get p9=Xy 3 [c9]/\g.nx<=g'.nx) ⟨rfl,h0,e9,XH _⟩ h90 h89 (by decide)
  (by rintro i t df g v s (rfl|rfl|rfl) ⟨a1,⟨⟨b1,b2,O,R,U,V,W,X,Y,H,-⟩,c1,z⟩,A⟩<;>exact⟨a1,⟨by simp[St,Qg,sx,b1,b2,O,R,U,V,W,X,Y,H],c1,z⟩,A⟩) ?_ ?_
 ·rintro i t df g hi ⟨rfl,⟨⟨a,c,f,k,h8,h9,Xp,h1,h2,h4,-⟩,hp,L⟩,e9,en⟩ h90 h89;obtain⟨p,o,N,-⟩:=af hi;have E:i<(x.XA.map ci).length:=by simpa using hi
  have F:(x.XA.map ci)[i]?=some (ci p):=by rw[XK,o];rfl
  have badn:¬(kI x.XA i<p/\p<n.XD.length/\p≠(j:Int))->¬NR n:=λh hr=>h (hr.pl hx o);have q2:=hp.q2
  by_cases c1:p<=kI x.XA i
  ·simp only[sz,simprocAttr,h2,Xp,k,h90,rp,E,F,ci,hp.h1,c1];exact bad _ _ (badn (by omega)) (by simp[VO]) (by simp[sx,h2]) (by simp[sx])
  by_cases z:(n.XD.length:Int)<=p
  ·simp only[sz,simprocAttr,h2,h4,Xp,k,h90,rp,E,F,ci,hp.hq,nl,hp.h1,c1,z];exact bad _ _ (badn (by omega)) (by simp[VO]) (by simp[sx,h2]) (by simp[sx])
  by_cases A:p=(j:Int)
  ·subst A;simp only[sz,simprocAttr,h2,h4,h8,Xp,k,h90,rp,E,F,ci,hp.hq,nl,hp.h1,c1,z,eq_self];exact bad _ _ (badn (by omega)) (by simp[VO]) (by simp[sx,h2]) (by simp[sx])
  have u:=Qy L o (by omega) (by omega) A;obtain⟨p0,-,-⟩:=u.SL i p (by omega) o;obtain⟨p,rfl⟩:=XU p0;have B:((ym n j (BL (x.XA.take i))).map cu)[j]?=some (cu (BL (x.XA.take i))):=by rw[XK,ym,X_ (by omega),y,YN];rfl
  have I:j<((ym n j (BL (x.XA.take i))).map cu).length:=by simp[ym,w];omega
  have J:(ym n j (BL (x.XA.take i))).set j (BL (x.XA.take (i+1)))=ym n j (BL (x.XA.take (i+1))):=by simp only[ym];rw[Y3 _ _ (by omega),y,YN,Zt]
  have em:BL (x.XA.take (i+1))=BL (x.XA.take i) ||| w8 p:=by rw[N,FY];rfl
  have D:cL .shl (R7 1) (XE (p:Int))=.val (R7 (w8 p:Int)):=vE .i64 p;have C:=Gx (BL (x.XA.take i)) (w8 p) (xy _) (Ax p);rw[<-em]at C;have M:=hp.hs.rows;have K:=Bw o;refine jR (P:=λt' df g'=>df=[]/\g'=g/\St t' ((80,b)::(81,XE (n.XD.length:Int))::(82,XE (j:Int))::(88,pa)::(8,XE (j:Int))::(9,Xq p9)::(10,XE (kI x.XA i))::Qg q)/\Xs t' 12=XE (p:Int)/\Xs t' 90=XE (i:Int)/\Xs t' 89=XE (x.XA.length:Int)) ?_ ?_
  ·simp only[sz,simprocAttr,k,h90,rp,E,F,ci];simp[St,Qg,sx,h1,h2,h4,h8,h9,Xp,a,c,f,k,h89]
  clear h1 h2 h4 h8 h9 Xp a c f k h89 h90;rintro t df g' ⟨rfl,rfl,⟨a,c,f,k,h8,h9,Xp,h1,h2,h4,-⟩,r,h90,h89⟩;refine jR (P:=λt' df g''=>df=[]/\g''=g'/\St t' ((80,b)::(81,XE (n.XD.length:Int))::(82,XE (j:Int))::(88,pa)::(8,XE (j:Int))::(9,Xq p9)::(10,XE (kI x.XA i))::Qg q)/\Xs t' 12=XE (p:Int)/\Xs t' 90=XE (i:Int)/\Xs t' 89=XE (x.XA.length:Int)) ?_ ?_
  ·simp only[sz,simprocAttr,h4,h8,Xp,r,h89,h90,hp.hq,nl,c1,z,A];simp[St,Qg,sx,h1,h2,h4,h8,h9,Xp,a,c,f,k]
  clear h1 h2 h4 h8 h9 Xp r a c f k h89 h90;rintro t df g'' ⟨rfl,rfl,⟨a,c,f,k,h8,h9,Xp,h1,h2,h4,-⟩,r,h90,h89⟩;simp only[sz,simprocAttr,sf,h4,h8,r,hp.hq,M,I,B,cu,D,C];refine bF (v:=sv) (sz:=1) (n:=1) (i:=j) (off:=0) (x:=R7 (BL (x.XA.take (i+1)):Int)) (row':=cu (BL (x.XA.take (i+1)))) (hp.hs.fr (by simp;omega) λi _=>by simp) B rfl rfl rfl λg4 hu4 n4 f4=>?_;rw[show (((ym n j (BL (x.XA.take i))).map cu).set j (cu (BL (x.XA.take (i+1)))))=(ym n j (BL (x.XA.take (i+1)))).map cu from by rw[<-YS,J]]at hu4;have l:∀i,W5 sv≠some i->g4.h.get i=g''.h.get i:=λi hi=>by rw[f4 i hi];simp
  have h3:g''.nx<=g4.nx:=by rw[n4];simp;omega
  simp only[sx,sy,↓reduceIte,Nat.reduceEqDiff];refine⟨?_,⟨⟨?_,⟨?_,?_,?_,?_,?_,q2,?_,hp.d1,hp.d2,hp.d3⟩,u⟩,?_,?_⟩,h90,h89⟩
  ·simp only[X7,X8,X3,XY];exact aE (false::(OO (true::[]))) [] (by simp[Xl,am,aC]) (by decide) (by simp)
  ·rw[K];simp[St,Qg,sx,h1,h2,h4,h8,h9,a,c,f,k]
  ·simp only[WS];rw[l 0 λe=>by have:=(hp.hs.lt e).1;omega,hp.h0]
  ·simp only[WS];rw[l 1 λe=>by have:=(hp.hs.lt e).1;omega,hp.h1]
  ·simp only[WS];rw[l q hp.d2,hp.hq]
  ·exact hp.hc.fr (by simp;omega) λi hi=>by simp only[WS];exact l i (hp.d3 i hi)
  ·exact hu4.fr (by simp) λi _=>by simp
  ·have:=hp.qn;simp;omega
  ·rw[l p9 p9s,e9]
  ·omega
 ·rintro t df g' ⟨rfl,h,e9,en⟩;exact fin t g' h e9 en
end
end
section
variable {d:Nat}{n:Xb}{b cv sv:AV}{q:Nat}{rows:List (List AV)}
structure Rd4 (n:Xb) (b cv sv:AV) (q j:Nat) (t:T) (g:G):Prop where
 st:St t ((80,b)::Qg q)
 hp:Vh n b cv sv q (IO n) ((BQ n).take j++List.replicate (n.XD.length - j) 0) g
 ok:∀x∈n.XD.take j,CY x.XA n.XD.length=true/\tA n.Xz (IO n) x=true
def To(n:Xb)(j m:Nat)(hm:m<2^64):∀y∈ym n j m,y<2^64:=λy hy=>by
 simp only[ym,Yf,Yh]at hy;rcases hy with hy|rfl|hy
 ·obtain⟨x,-,rfl⟩:=Ys.1 (Ym hy);exact xy _
 ·exact hm
 ·rw[(ZT.1 hy).2];decide
def Own.natsV{b:Nat}{l:List Nat}(h:Own g b v 1 (l.map cu))(hl:l.length<2^63)(hb:∀y∈l,y<2^64):Xu (λi=>W5 v=some i) 0 g.h l v :=
 Own.sl (α:=Nat) h hl (by
  have:∀l:List Nat,(∀y∈l,y<2^64)->Xl (Rp.rp (α:=Nat) (λi=>W5 v=some i) 0 g.h) l (l.map cu):=λl=>by
   induction l with
   |nil=>intro _;trivial
   |cons y l ih=>intro h;exact⟨Hj.2 ⟨rfl,h y (by simp)⟩,ih λz hz=>h z (by simp[hz])⟩
  exact this l hb) λ_ h=>h
def Own.nats'{b:Nat}{l:List Nat}(h:Own g b v 1 (l.map cu))(hl:l.length<2^63)(hb:∀y∈l,y<2^64):Xu (λ_=>True) 0 g.h l v :=(h.natsV hl hb).wd λ_ _=>⟨trivial,rfl⟩
def Own.intsV{b:Nat}(h:Own g b v 1 (l.map ci))(hl:l.length<2^63):Xu (λi=>W5 v=some i) 0 g.h l v :=Own.sl (α:=Int) h hl (VJ (λa=>aK.2 rfl) _) λ_ h=>h
def R8{n:Xb}(h:NR n)(hx:x∈n.XD):tA n.Xz (IO n) x=true:=by simp only[tA,AD,XM,X9,XQ];exact⟨h.rows x hx,λr hr=>⟨⟨(h.row x hx r hr).1,(h.row x hx r hr).2.1⟩,(h.row x hx r hr).2.2⟩⟩
def SP[Xr](hd:0<d)(hl:n.XD.length<=8)(hg1:1<=n.Xz/\n.Xz<=60)(hcard:∀c∈IO n,1<=c/\c<=4)(hN:Xu Xt 0 .nil n.XD b)(r1:∀h,ak h 3 b=some rows)(r2:rows.length=n.XD.length)
  (r3:∀(i:Nat) (x:Node),n.XD[i]?=some x->∃pa ra,rows[i]?=some [XE x.Xx,pa,ra]/\i<rows.length/\Xu Xt 0 .nil x.XA pa/\Xu Xt 0 .nil x.rows ra) (r4:0<n.XD.length->px b=true)
  (h0:Rd4 n b cv sv q 0 t g) (h82:Xs t 82=XE 0) (h81:Xs t 81=XE (n.XD.length:Int))
  (bad:∀t g,¬NR n->g.h.get 1=Xy 5 [[XE 0,.XC,.XC,.XC,.XC]]->Xs t 2=Xq 1->Xs t 3=XE 50->Q .ret t [] g)
  (fin:∀t g,Rd4 n b cv sv q n.XD.length t g->Q (.exit 2) t [] g):VY (wp C0 d none qL) Q t [] g:=by
 simp only[qL,xT];refine aT (m:=n.XD.length) (by omega) (λj t df g=>df=[]/\Rd4 n b cv sv q j t g) ⟨rfl,h0⟩ h82 h81 (by decide)
  (by rintro j t df g v s (rfl|rfl|rfl) ⟨a1,⟨b1,b2,R,U,-⟩,c1,V⟩<;>exact⟨a1,by simp[St,Qg,sx,b1,b2,R,U],c1,V⟩) ?_ ?_
 ·rintro j t df g X ⟨rfl,⟨⟨f,h1,h2,h4,-⟩,hp,E⟩⟩ h82 h81;let⟨x,hx,J,L⟩:=af X;obtain⟨pa,ra,q1,hlt,w,I⟩:=r3 j x hx;have Z:=r4 (by omega);have q2:=hp.q2;have qn:=hp.qn;have C:(BQ n).length=n.XD.length:=by simp[BQ]
  have F:(BQ n)[j]?=some (BL x.XA):=by simp[BQ,hx]
  obtain⟨g2,u⟩:∃g2,g2=(g.new (Xy 3 [[XE 0,.XC,.XC]])).put g.nx (Xy 3 [[XE x.Xx,pa,ra]]):=⟨_,rfl⟩;have f2:Fr g g2:=by rw[u];exact Tv (by simp) λi hi=>by simp[VO,show ¬i=g.nx by omega]
  have n2:g.nx<g2.nx:=by rw[u];simp
  have A:=hp.fr f2;have M:g2.h.get g.nx=Xy 3 [[XE x.Xx,pa,ra]]:=by rw[u];simp[VO]
  have eY:(BQ n).take j++List.replicate (n.XD.length - j) 0=ym n j (BL (x.XA.take 0)):=by rw[ym,show n.XD.length - j=(n.XD.length - (j+1))+1 by omega,Y4];rfl
  have eY2:ym n j (BL x.XA)=(BQ n).take (j+1)++List.replicate (n.XD.length - (j+1)) 0:=by rw[ym,aaq,F,YA];rfl
  rw[eY]at A;refine bP (P:=λt' df g'=>df=[]/\g'=g2/\St t' ((80,b)::(81,XE (n.XD.length:Int))::(82,XE (j:Int))::(8,XE (j:Int))::(9,Xq g.nx)::Qg q)) ?_ ?_
  ·simp only[sz,simprocAttr,f,h82,r1,hlt,q1];rw[u];simp[St,Qg,sx,h1,h2,h4,f,h81,h82]
  clear h1 h2 h4 f h81 h82;rintro t df g3 ⟨rfl,rfl,⟨f,h81,h82,h8,h9,h1,h2,h4,-⟩⟩;have pl:=λg=>w.len g;simp only[sz,simprocAttr,h9,M,pl];refine SN hl hN hx w ⟨by simp[St,Qg,sx,kI,h1,h2,h4,h8,h9,f,h81,h82],A,⟨λi p hi=>by omega,λi p r hi=>by omega⟩⟩ (by simp[sx]) (by simp[sx]) M (λe=>by have:=(hp.hs.lt e).2;omega) ?_ ?_
  ·intro t g Y a1 a2 O;simp only[sx,sy];exact bad t g Y a1 a2 O
  ·rintro t D ⟨⟨f,h81,h82,W,h8,h9,Xp,h1,h2,h4,-⟩,k,H⟩ z n4;rw[XV]at k;have o:=Kx H;have B:∀p∈x.XA,0<=p/\p<((IO n).length:Int):=λp hp=>by rw[ap];exact aO o p hp
   have N:=bc o (by omega);have h3:(ym n j (BL x.XA)).length<=8:=by simp[ym,C];omega
   have hm:WG ((n,IO n,ym n j (BL x.XA),[]):NwM) (λ_=>True) 0 D.h (.agg [XE n.Xz,b,cv,sv,.XC]) :=⟨_,rfl,Ga.2 ⟨b,cv,sv,.XC,rfl,hN.wide (XH 0),Own.sl (α:=Int) k.hc (by rw[ap];omega) (VJ (λa=>aK.2 rfl) _) λ_ _=>trivial,k.hs.nats' (by omega) (To n j _ (xy _)),⟨by show 0<2^63;decide,rfl⟩⟩⟩
   have K:WG x Xt 0 D.h (.agg [XE x.Xx,pa,ra]):=⟨_,rfl,cE.2 ⟨pa,ra,rfl,w.tree (XH 0),I.tree (XH 0)⟩⟩;have l:=Nt hd hm K ⟨rfl,rfl⟩ hg1 hcard B (by omega);have l:ah C0 d 123 [.agg [XE n.Xz,b,cv,sv,.XC],.agg [XE x.Xx,pa,ra]] D=.val (.bool (tA n.Xz (IO n) x)):=l;cases hf:tA n.Xz (IO n) x with
   | false =>rw[hf]at l;simp only[sz,simprocAttr,qM,h2,h4,h9,k.hq,k.h1,z,l];refine bad _ _ (λhr=>?_) (by simp[VO]) (by simp[sx,h2]) (by simp[sx]);have:=R8 hr L;rw[hf]at this;cases this
   | true =>
    rw[hf]at l;simp only[sz,simprocAttr,qM,h4,h9,k.hq,z,l];rw[eY2]at k;refine⟨⟨by simp[St,Qg,sx,h1,h2,h4,f],k,λy hy=>?_⟩,by simp[h82],by simp[h81]⟩;rw[J]at hy;rcases Yf.1 hy with h|h
    ·exact E y h
    ·rw[Yy.1 h];exact⟨o,hf⟩
 ·rintro t df g ⟨rfl,h⟩;exact fin t g h
end
def Rc(n:Xb):Q6 (HH n) 2:=qw λo=>jb (m:=2) (di _) (aI _) (by decide) (by decide)
theorem SQ[Xr]{d:Nat}{n:Xb}(hd:0<d)(hm:WG n Xt 0 g.h v):∃r,ah C0 d 87 [v] g=.val r/\HH n Xt 0 .nil r:=by
 obtain⟨b,rows,rfl,e,U,hN,M,N,O,Q⟩:=cg d hm;rw[WL];refine aP Ic (xs:=[.agg [XE n.Xz,b]]) (by simp only[aD,e]) (by simp[oa]) (Rc n) (by decide) hd ?_;have nl:=λg=>hN.len g;simp only[sz,simprocAttr,oa];obtain⟨g0,hg0⟩:∃g0,g0=(G.empty.new (Xy 2 [[XE n.Xz,b]])).new (Xy 5 [[XE 0,.XC,.XC,.XC,.XC]]):=⟨_,rfl⟩;rw[<-hg0];have f0:g0.h.get 0=Xy 2 [[XE n.Xz,b]]:=by rw[hg0];simp[sx,VO]
 have f1:g0.h.get 1=Xy 5 [[XE 0,.XC,.XC,.XC,.XC]]:=by rw[hg0];simp[sx]
 have f2:g0.nx=2:=by rw[hg0];simp[sx]
 clear hg0;obtain⟨Qf,m⟩:∃Qf,Qf=Sb C0 (d+1) [SR.cell true 5 2,SR.tm 3] (λv g'=>∃P,HH n P 0 g'.h v):=⟨_,rfl⟩;have bad:∀(t:T) (g:G),¬NR n->g.h.get 1=Xy 5 [[XE 0,.XC,.XC,.XC,.XC]]->Xs t 2=Xq 1->Xs t 3=XE 50->Qf .ret t [] g:=λt g C a1 a2 w=>by rw[m];exact UB C a1 a2 w
 rw[<-m];simp only[zF]
 by_cases c1:n.Xz<1
 ·rw[cX];simp only[sz,simprocAttr,f0,f1,c1];exact bad _ _ (λh=>by have:=h.g1;omega) (by simp[VO]) (by simp[sx]) (by simp[sx])
 by_cases c2:60<n.Xz
 ·rw[cX];simp only[sz,simprocAttr,f0,f1,c1,c2];exact bad _ _ (λh=>by have:=h.g2;omega) (by simp[VO]) (by simp[sx]) (by simp[sx])
 by_cases c3:(n.XD.length:Int)<1
 ·rw[cX];simp only[sz,simprocAttr,f0,f1,c1,c2,c3,nl];exact bad _ _ (λh=>by have:=h.l1;omega) (by simp[VO]) (by simp[sx]) (by simp[sx])
 by_cases c4:8<(n.XD.length:Int)
 ·rw[cX];simp only[sz,simprocAttr,f0,f1,c1,c2,c3,c4,nl];exact bad _ _ (λh=>by have:=h.l2;omega) (by simp[VO]) (by simp[sx]) (by simp[sx])
 refine jR (P:=λt' df g'=>df=[]/\g'=g0/\St t' [(1,Xq 0),(2,Xq 1)]) ?_ ?_
 ·simp only[sz,simprocAttr,f0,c1,c2,c3,c4,nl];simp[St,sx]
 rintro t df g1 ⟨rfl,rfl,h1,h2,-⟩;have B:n.XD.length<=8:=by omega
 refine jR (P:=λt' df g'=>df=[]/\∃cv sv q,St t' (Qg q)/\Vh n b cv sv q (List.replicate n.XD.length 0) (List.replicate n.XD.length 0) g') ?_ ?_
 ·simp only[sz,simprocAttr,sf,h1,f0,nl];refine s_ (b:=2) (n:=n.XD.length) (by unfold aH;omega) (by unfold aH;omega) (by first| (simp;done)| (simp;omega)) λcv g2 hcv n2 fr2 v2 lg2=>?_;simp only[sy]at n2 fr2 v2 lg2;have L:g2.h.get 0=Xy 2 [[XE n.Xz,b]]:=by rw[fr2 0 (by omega),f0]
  simp only[sz,simprocAttr,sf,h1,L,nl,lg2];refine s_ (b:=2) (n:=n.XD.length) (by unfold aH;omega) (by unfold aH;omega) (by first| (simp;done)| (simp;omega)) λsv g3 hsv n3 fr3 v3 lg3=>?_;simp only[sy]at n3 fr3 v3 lg3;simp only[sz,simprocAttr,sf,lg3,hcv.cell.1,hcv.cell.2,hsv.cell.1,hsv.cell.2];refine⟨?_,cv,sv,g3.nx+1+1,?_,?_⟩
  ·simp only[X7,X8,X3,XY,G.new_lg,G.put_lg,Vb];refine aE (KI (true::(false::(OQ (true::(false::(true::(true::[])))))))) [(0,4),(4,5),(4,6),(4,7),(0,8),(1,8),(2,8),(3,8),(4,8),(0,10),(1,10),(2,10),(3,10),(4,10),(5,10),(6,10),(7,10),(8,10),(9,10)] (by simp[Xl,am,aC]) (by decide) ?_;rintro p hp x y hx l;simp only[Yh,Yc,ZQ]at hp;rcases hp with rfl|rfl|rfl|rfl|rfl|rfl|rfl|rfl|rfl|rfl|rfl|rfl|rfl|rfl|rfl|rfl|rfl|rfl|rfl<;>(simp at hx l;subst hx;subst l;refine cK rfl rfl rfl rfl ?_ ?_ ?_<;>simp[am,aC,aw]<;>omega)
  ·simp[St,Qg,sx,h1,h2]
  ·have fa:∀i,i<g2.nx->g3.h.get i=g2.h.get i:=λi hi=>by have:=fr3 i (by omega);simpa using this
   have fb:∀i,i<g1.nx->g2.h.get i=g1.h.get i:=λi hi=>by have:=fr2 i (by omega);simpa using this
   have A:Own g2 2 cv 1 ((List.replicate n.XD.length (0:Int)).map ci):=by simpa [ci] using hcv
   have H:Own g3 2 sv 1 ((List.replicate n.XD.length (0:Nat)).map cu):=by simpa [cu] using hsv
   have D:∀i,i<g3.nx->¬i=g3.nx+1+1:=λi hi=>by omega
   refine⟨?_,?_,?_,A.fr (by simp;omega) λi hi=>?_,H.fr (by simp;omega) λi hi=>?_,by omega,by first| (simp;done)| (simp;omega),λe=>?_,λe=>?_,λi hi hi2=>?_⟩
   ·simp[VO];rw[fa 0 (by omega),L]
   ·simp[VO];rw[fa 1 (by omega),fb 1 (by omega),f1]
   ·simp[VO]
   ·have:=qA v2 hi;simp[VO,D i (by omega)];rw[fa i (by omega)]
   ·have:=qA v3 hi;simp[VO,D i (by omega)]
   ·have:=qA v2 e;omega
   ·have:=qA v3 e;omega
   ·have:=qA v2 hi;have:=qA v3 hi2;omega
 rintro t df g ⟨rfl,cv,sv,q,⟨h1,h2,h4,-⟩,hp⟩;clear f0 f1 f2;have nlen:=nl g;simp only[sz,simprocAttr,h4,hp.hq,nl];refine SM (b:=b) (cv:=cv) (sv:=sv) (q:=q) B hN M N O Q ⟨by simp[St,Qg,sx,EO,h1,h2,h4],by simpa using hp,by simp⟩ (by simp[sx]) (by simp[sx]) ?_ ?_
 ·intro t g C a1 a2 w;simp only[sx];exact bad t g C a1 a2 w
 clear h1 h2 h4 hp nlen;rintro t g ⟨⟨I,h5,h1,h2,h4,-⟩,hp,s⟩;rw[XZ (by rw[ap];exact XH _)]at h5 hp;rw[YN,aba,X6]at hp;rw[XV]at s;have J:∀c∈IO n,1<=c/\c<=4:=λc hc=>by obtain⟨y,l,rfl⟩:=Ys.1 hc;exact s y l
 simp only[sz,simprocAttr,xU]
 by_cases d1:1024<EO (IO n)
 ·simp only[sz,simprocAttr,h2,h5,hp.h1,d1];exact bad _ _ (λh=>by have:=h.worlds;omega) (by simp[VO]) (by simp[sx,h2]) (by simp[sx])
 simp only[sz,simprocAttr,h4,h5,hp.hq,nl,d1];refine SP (b:=b) (cv:=cv) (sv:=sv) (q:=q) (XR d) B (by omega) J hN M N O Q ⟨by simp[St,Qg,sx,h1,h2,h4],by simpa using hp,by simp⟩ (by simp[sx]) (by simp[sx]) ?_ ?_
 ·intro t g C a1 a2 w;simp only[sx];exact bad t g C a1 a2 w
 clear h1 h2 h4 I h5 hp;rintro t g ⟨⟨R,h1,h2,h4,-⟩,hp,k⟩;rw[XZ (by simp[BQ])]at hp;rw[YN,aba,X6]at hp;rw[XV]at k;have F:(BQ n).length=n.XD.length:=by simp[BQ]
 have j:∀y∈BQ n,y<2^64:=λy l=>by obtain⟨x,-,rfl⟩:=Ys.1 l;exact xy _
 have u:∀y∈BQ n,y<2 ^ (BQ n).length:=λy l=>by obtain⟨x,hx,rfl⟩:=Ys.1 l;rw[F];exact P8 (by omega) λz hz=>aO (k x hx).1 z hz
 obtain⟨z,ez,o,-,oz,az,rfl,f,a⟩:=N8 (d:=d+1) (g:=g) (XR d) (hp.hs.nats' (by omega) j) (by omega) u;have a:=gD.1 a;injection a with a;subst a;obtain⟨_,e1,f⟩:=f;injection e1 with e1;subst e1;cases hac:vH (BQ n) with
 | false =>rw[hac]at ez;simp only[sz,simprocAttr,qN,h2,h4,hp.hq,hp.h1,ez];exact bad _ _ (λh=>by have:=h.UK;rw[hac]at this;cases this) (by simp[VO]) (by simp[sx,h2]) (by simp[sx])
 | true =>
  rw[hac]at ez;have E:zo n=true:=lT.2 ⟨by omega,by omega,by omega,by omega,s,λx hx=>(k x hx).1,by omega,hac,λx hx=>by
   have:=(k x hx).2;simp only[tA,XM,X9]at this;exact this.1,λx hx r hr=>by
   have:=(k x hx).2;simp only[tA,AD,XM,X9,XQ]at this;have:=this.2 r hr;exact⟨this.1.1,this.1.2,this.2⟩⟩
  have q2:=hp.q2;have K:¬(1=q):=by omega
  have V:¬(q=1):=by omega
  have oc:=f.cell;rw[m];simp only[sz,simprocAttr,qN,h2,h4,hp.hq,hp.h1,ez,K,oc.1,oc.2];have fh:∀i,¬i=1->¬i=q->((g.h.put q (Xy 5 [[XE n.Xz,b,cv,sv,oz]])).put 1 (Xy 5 [[XE n.Xz,b,cv,sv,oz]])).get i=g.h.get i:=λi hi hi2=>by simp[VO,hi,hi2]
  refine⟨λ_=>True,o,trivial,_,_,rfl,⟨_,rfl,?_⟩,?_⟩
  ·rw[c5,XO E];refine Ga.2 ⟨b,cv,sv,oz,rfl,hN.wide (XH 0),(hp.hc.intsV (by rw[ap];omega)).wd λi hi=>⟨trivial,fh i (by have:=(hp.hc.lt hi).1;omega) λe=>hp.d1 (by rw[hi,e])⟩,(hp.hs.natsV (by omega) j).wd λi hi=>⟨trivial,fh i (by have:=(hp.hs.lt hi).1;omega) λe=>hp.d2 (by rw[hi,e])⟩,f.wide (XH 0)⟩
  ·rw[XO E];exact aK.2 rfl
def Kp{o:List Int}(h:zo n=true):c5 n o=(n,IO n,BQ n,o):=by rw[c5,XO h]
def Jj(hv:HH n P k h v) :
  (zo n=false/\∃cs,v=.WM [.agg cs,XE 50]/\cs.length=5) \/
  (zo n=true/\∃b cv sv oz o,v=.WM [.agg [XE n.Xz,b,cv,sv,oz],XE 0]/\Xu P k h n.XD b/\Xu P k h (IO n) cv/\Xu P k h (BQ n) sv/\Xu P k h (o:List Int) oz):=by
 obtain⟨o,-,a,c,rfl,⟨cs,rfl,hc⟩,hi⟩:=hv;have hi:=aK.1 hi;injection hi with hi;subst hi;cases hn:zo n with
 | false =>
  refine .inl ⟨rfl,cs,rfl,?_⟩;obtain⟨a,b,c,e,rfl,-⟩:=Ga.1 hc
  rfl
 | true =>rw[Kp hn]at hc;obtain⟨a,b,c,e,rfl,h1,h2,h3,h4⟩:=Ga.1 hc;exact .inr ⟨rfl,a,b,c,e,o,rfl,h1,h2,h3,h4⟩
theorem OZ[Xr](hd:0<d)(hm:WG n Xt 0 g.h v)(he:Xu P2 k2 g.h e w):ah C0 d 93 [v,w] g=.val (XE (xM n e)):=by
 obtain⟨w',e2,p⟩:=aB he d;obtain⟨b,rows,rfl,e1,B,hN,L,M,N,O⟩:=cg d hm;have n2:=λg=>(p .nil).len g;have rb:=λh=>(p h).ints;rw[WL];refine cq vL (xs:=[.agg [XE n.Xz,b],w']) (by simp only[aD,e1,e2]) (by simp[ia]) hd ?_;have J:=he.1;simp only[sz,simprocAttr,ia,kU,jZ];obtain⟨z,ez,hz⟩:=SQ (d:=d+1) (g:=G.empty.new (Xy 2 [[XE n.Xz,b]])) (XR d) (n:=n) (v:=.agg [XE n.Xz,b]) (B _);rcases Jj hz with⟨i,cs,rfl,x⟩|⟨i,b',cv,sv,oz,o,rfl,hb,A,-,-⟩
 ·have hs:xM n e=50:=by rw[xM,i];rfl
  obtain⟨a1,a2,q,a4,r,rfl⟩:∃a1 a2 q a4 r,cs=[a1,a2,q,a4,r]:=by
   match cs,x with
   |[a1,a2,q,a4,r],_=>exact⟨a1,a2,q,a4,r,rfl⟩
  simp only[sz,simprocAttr,ez,hs,show ¬((50:Int)=0) from by decide]
 ·have nb:=λg=>(hb.tree (h':=g) (XH 0)).len;have I:=hb.1;have rc:=λh=>(A.tree (h':=h) (XH 0)).ints;have hcl:=ap n
  by_cases hl:e.length=n.XD.length
  ·have f:(e.length:Int)=(n.XD.length:Int):=by rw[hl]
   simp only[sz,simprocAttr,ez,n2,hb.len,hl];refine aT (m:=n.XD.length) (by omega) (λj t df g=>df=[]/\St t [(24,w'),(5,Xq 1),(4,XE 0)]/\g.h.get 1=Xy 5 [[XE n.Xz,b',cv,sv,oz]]/\((List.range j).all λv=>decide (-1<=e[v]?.getD 0)&&decide (e[v]?.getD 0<(IO n)[v]?.getD 0))=true)
    ⟨rfl,by simp[St,sx],by simp[sx],by simp⟩ (by simp[sx]) (by simp[sx]) (by decide) (by rintro j t df g v s (rfl|rfl|rfl)<;>simp[St,sx]) ?_ ?_
   ·rintro j t df g K ⟨rfl,⟨k,h5,h4,-⟩,hg,ha⟩ a u;obtain⟨y,D,-,-⟩:=af (l:=e) (j:=j) (by omega);obtain⟨c,hc,-,-⟩:=af (l:=IO n) (j:=j) (by omega);have E:j<(e.map ci).length:=by simp;omega
    have F:(e.map ci)[j]?=some (ci y):=by rw[XK,D];rfl
    have u3:j<((IO n).map ci).length:=by simp;omega
    have H:((IO n).map ci)[j]?=some (ci c):=by rw[XK,hc];rfl
    have C:((List.range (j+1)).all λv=>decide (-1<=e[v]?.getD 0)&&decide (e[v]?.getD 0<(IO n)[v]?.getD 0))=(decide (-1<=y)&&decide (y<c)):=by rw[YF,abw,ha];simp[D,hc]
    have bad:(decide (-1<=y)&&decide (y<c))=false->xM n e=2:=λh=>by
     have h1:zq n e=false:=by
      rw[zq];have:((List.range e.length).all λv=>decide (-1<=e[v]?.getD 0)&&decide (e[v]?.getD 0<(IO n)[v]?.getD 0))=false:=by rw[<-Za,XQ];intro h2;have:=h2 j (X0.2 (by omega));rw[D,hc,XP,XP,h]at this;cases this
      rw[this,aaP]
     rw[xM,i,h1];rfl
    by_cases c1:y < -1
    ·have:=bad (by simp;omega);simp only[sz,simprocAttr,k,a,rb,E,F,ci,c1,this]
    ·by_cases c2:c<=y
     ·have:=bad (by simp;omega);simp only[sz,simprocAttr,k,h5,a,hg,rb,rc,E,F,u3,H,ci,c1,c2,this]
     ·have h3:((List.range (j+1)).all λv=>decide (-1<=e[v]?.getD 0)&&decide (e[v]?.getD 0<(IO n)[v]?.getD 0))=true:=by rw[C];simp;omega
      simp only[sz,simprocAttr,k,h5,h4,a,u,hg,rb,rc,E,F,u3,H,ci,c1,c2,St,h3]
   ·rintro t df g ⟨rfl,⟨k,h5,h4,-⟩,hg,ha⟩;have h1:zq n e=true:=by rw[zq,hl,Yj rfl,ha];rfl
    have hs:xM n e=0:=by rw[xM,i,h1];rfl
    simp only[sz,simprocAttr,j4,hs]
  ·have f:¬((e.length:Int)=(n.XD.length:Int)):=by omega
   have h1:zq n e=false:=by rw[zq,Yq hl];rfl
   have hs:xM n e=2:=by rw[xM,i,h1];rfl
   simp only[sz,simprocAttr,ez,n2,hb.len,f,hs]
structure FacH (bx nd:List AV) (w u:AV) (XF Xv:List Int) (beh:Int) (q:Nat) (g:G):Prop where
 h0:g.h.get 0=Xy 5 [bx]
 h1:g.h.get 1=Xy 3 [[.XC,.XC,.XC]]
 h2:g.h.get 2=Xy 3 [nd]
 h8:g.h.get q=Xy 3 [[w,u,.XC]]
 h9:g.h.get (q+1)=Xy 1 [[XE beh]]
 hw:Own g 3 w 1 (XF.map ci)
 hu:Own g (q+2) u 1 (Xv.map ci)
 wq:∀i,W5 w=some i->i<q
 q3:3<=q
 qn:q+2<=g.nx
def UW(q:Nat):List (Nat×AV):=[(2,Xq 0),(4,Xq 1),(5,Xq 2),(8,Xq q),(9,Xq (q+1))]
structure FacJ (gr:Int) (b cv sv oz:AV) (nd:List AV) (w:AV) (cs XF:List Int) (pl q j:Nat) (t:T) (g:G):Prop where
 st:St t ((38,w)::(6,XE (pl:Int))::UW q)
 hp:∃u,FacH [XE gr,b,cv,sv,oz] nd w u XF (EP cs (XF.take j)) (EO (EP cs ((XF.take j).drop (pl+1)))) q g
def GH(h:H)(n:Nat):G:=⟨h,n,[]⟩
@[simp] theorem GH_h (h:H) (n:Nat):(GH h n).h=h:=rfl
@[simp] theorem GH_nx (h:H) (n:Nat):(GH h n).nx=n:=rfl
structure FacG (g0:G) (iw:Nat) (W:AV) (WN:List (List Int)) (B C t:Nat) (h:H):Prop where
 fr:∀i,i<g0.nx->i≠iw->h.get i=g0.h.get i
 ow:Own (GH h (iw+1)) 3 W 1 ((bb3 WN B C t).map ci)
structure FacI (g0 g2:G) (iw:Nat) (W z:AV) (r:List Int) (WN:List (List Int)) (B C q j i:Nat) (t:T) (g:G):Prop where
 st:St t ((78,z)::(12,XE (j:Int))::UW q)
 hp:FacG g0 iw W WN B C (j*C+i) g.h
 nx:g2.nx<=g.nx
 fr:∀i,g0.nx<=i->i<g2.nx->g.h.get i=g2.h.get i
def bb5(n:Xb)(i:Nat)(x:Node)(p:Nat):Wl:=⟨ba6 x.XA p (i:Int),EP (IO n) (ba6 x.XA p (i:Int)),bb4 x.rows (EO (EP (IO n) (x.XA.drop p))).toNat x.Xx.toNat⟩
def ba7(n:Xb)(l:List Wl):Prop:=∀(i:Nat) (x:Node),i<l.length->n.XD[i]?=some x->∃p,p<=x.XA.length/\l[i]?=some (bb5 n i x p)
structure FasJ (n:Xb) (W b cv sv oz:AV) (j:Nat) (t:T) (g:G):Prop where
 st:St t [(4,Xq 1),(6,W)]
 hg:g.h.get 1=Xy 5 [[XE n.Xz,b,cv,sv,oz]]
 hW:∃(rows:List (List AV)) (l:List Wl),Own g 2 W 3 rows/\rows.length=n.XD.length/\l.length=j/\Xl (Rp.rp Xt 0 .nil) l (rows.take j)/\ba7 n l/\∀i,j<=i->i<n.XD.length->rows[i]?=some [.XC,.XC,.XC]
abbrev QnM:Type:=Xb×List Wl×List (List Int)
def Fd(m:Nat)(f:Wl)(i:Nat)(R:List Int):Prop:=R.length=m/\∀(j:Nat) (y:Int),i<=j->f.XF[j]?=some y->R[y.toNat]?=some (EO (f.Xv.drop (j+1)))
structure QnOk (n:Xb) (y:QnM):Prop where
 net:y.1=n
 fl:y.2.1.length=n.XD.length
 fs:ba7 n y.2.1
 sl:y.2.2.length=n.XD.length
 st:∀(k:Nat) (f:Wl) (R:List Int),y.2.1[k]?=some f->y.2.2[k]?=some R->Fd n.XD.length f 0 R
def Vy(fl:AV)(m q k:Nat):List (Nat×AV):=[(11,Xq q),(2,Xq 0),(4,Xq 1),(45,fl),(46,XE (m:Int)),(47,XE (k:Int))]
structure AskI (fl:AV) (m q k:Nat) (g0:G) (iR:Nat) (R:AV) (f:Wl) (fb j:Nat) (t:T) (g:G):Prop where
 st:St t ((13,Xq fb)::(12,XE (k:Int))::(14,XE (EO (f.Xv.drop j)))::Vy fl m q k)
 nx:g0.nx<=g.nx
 fr:∀i,i<g0.nx->i≠iR->g.h.get i=g0.h.get i
 ow:∃X:List Int,Own g 2 R 1 (X.map ci)/\Fd m f j X
structure FOk (m:Nat) (f:Wl):Prop where
 cl:f.Xv.length=f.XF.length
 vl:f.XF.length<=16
 cb:∀c∈f.Xv,1<=c/\c<=4
 nd:f.XF.Nodup
 vr:∀y∈f.XF,0<=y/\y<m
structure AskH (gr:Int) (b fl S_:AV) (m q:Nat) (fs:List Wl) (k:Nat) (g:G):Prop where
 h0:g.h.get 0=Xy 2 [[XE gr,b]]
 h1:g.h.get 1=Xy 4 [[XE 0,.XC,.XC,.XC]]
 hq:g.h.get q=Xy 4 [[XE gr,b,fl,S_]]
 q2:2<=q/\q<g.nx
 sq:∀i,W5 S_=some i->i<q
 hS:∃(Vs:List AV) (l:List (List Int)),Own g 2 S_ 1 (Vs.map λv=>[v])/\Vs.length=m/\l.length=k/\Xl (λX v=>Own g (q+1) v 1 (X.map ci)) l (Vs.take k)/\∀(i:Nat) (f:Wl) (X:List Int),fs[i]?=some f->l[i]?=some X->Fd m f 0 X
structure AskJ (gr:Int) (b fl S_:AV) (m q:Nat) (fs:List Wl) (k:Nat) (t:T) (g:G):Prop where
 st:St t [(11,Xq q),(2,Xq 0),(4,Xq 1),(45,fl)]
 hp:AskH gr b fl S_ m q fs k g
def R_{α:Type}{l:List α}{x y:α}(h1:l[i]?=some x)(h2:l[i]?=some y):x=y:=by rw[h1]at h2;injection h2
structure WtI (y:QnM) (b fl S_ wv va ca wa:AV) (gr wt:Int) (p:Int) (Xv pv:List Int) (m k fb i:Nat) (t:T) (g:G):Prop where
 st:St t [(1,wv),(2,Xq 0),(12,fl),(13,XE (m:Int)),(14,XE (k:Int)),(5,XE wt),(6,XE (k:Int)),(7,Xq fb),(20,va),(8,XE (p - EL (Xv.drop i) (pv.drop i)))]
 h0:g.h.get 0=Xy 4 [[XE gr,b,fl,S_]]
 hf:g.h.get fb=Xy 3 [[va,ca,wa]]
 nn:0<=p - EL (Xv.drop i) (pv.drop i)
 nx:1<=g.nx
structure WtJ (n:Xb) (XB:List Int) (b fl S_ wv:AV) (k:Nat) (t:T) (g:G):Prop where
 st:St t [(1,wv),(2,Xq 0),(12,fl),(5,XE (EO ((List.range k).map (zi n XB))))]
 h0:g.h.get 0=Xy 4 [[XE n.Xz,b,fl,S_]]
 nx:1<=g.nx
def xg[Xr](hd:0<d)(hv:Xu P k g.h l v):ah C0 d 98 [v] g=.val (XE (vI l)):=by
 obtain⟨v',e,c⟩:=aB hv d;have vl:∀g,bC .slice v' g=.val (XE (l.length:Int)):=λg=>(c .nil).len g;have ri:=λh=>(c h).ints;rw[WL];refine cq E7 (xs:=[v']) (by simp only[aD,e]) (by simp[tZ]) hd ?_;simp only[sz,simprocAttr,tZ,vl,uT];refine aT (m:=l.length) hv.1 (λj t df g=>df=[]/\St t [(6,v'),(3,XE (vI (l.take j)))]) ⟨rfl,by simp[St,sx,vI]⟩ (by simp[sx]) (by simp[sx]) (by decide)
  (by rintro j t df g v s (rfl|rfl|rfl)<;>simp[sx,St]) ?_ ?_
 ·rintro j t df g b ⟨rfl,h6,h3,-⟩ h8 h7;obtain⟨x,hx,a,hm⟩:=af b;have f:j<(l.map ci).length:=by simpa using b
  have i:(l.map ci)[j]?=some (ci x):=by rw[XK,hx];rfl
  simp only[sz,simprocAttr,h6,h8,h3,ri,f,i,ci];simp[St,sx,h6,h7,a,vI,ZM]
 ·rintro t df g ⟨rfl,h6,h3,-⟩;rw[XV]at h3;simp only[sz,simprocAttr,uU,h3]
theorem Bj[Xr](hd:0<d)(hv:Xu P k g.h n.XD v)(hn:n.XD.length<1073741824):∃r,ah C0 d 97 [v] g=.val r/\IT 0 (IO n) r:=by
 obtain⟨v',e,r0⟩:=aB hv d;obtain⟨rows,o,E,A,B⟩:=(r0 .nil).all;have o:∀h',ak h' 3 v'=some rows:=o;have vl:∀g,bC .slice v' g=.val (XE (n.XD.length:Int)):=λg=>(r0 .nil).len g;rw[WL];refine aP Dq (xs:=[v']) (by simp only[aD,e]) (by simp[qY]) (aI _) (by decide) hd ?_;simp only[sz,simprocAttr,qY,vl];refine l_ (b:=0) (n:=n.XD.length) (by unfold aH;omega) (by unfold aH;omega) (Yi _) λu g1 hu n1 f1 v1=>?_;simp only[sz,simprocAttr,vl,sW];refine aT (m:=n.XD.length) (by omega) (λj t df g=>df=[]/\St t [(9,v'),(3,u)]/\Own g 0 u 1 ((((IO n).take j)++List.replicate (n.XD.length - j) 0).map ci)) ⟨rfl,by simp[St,sx],?_⟩ (by simp[sx]) (by simp[sx]) (by decide)
  (by rintro j t df g v s (rfl|rfl|rfl)<;>simp[sx,St]) ?_ ?_
 ·simpa [ci] using hu
 ·rintro j t df g w ⟨rfl,⟨h9,h3,-⟩,f⟩ c Xp;obtain⟨x,hx,-,hm⟩:=af w;obtain⟨row,z,q2⟩:=A j x hx;obtain⟨a',b',rfl,p,q⟩:=cE.1 q2;have hlt:j<rows.length:=by omega
  have y:=B (by omega);have hcl:(IO n).length=n.XD.length:=ap n;have l:(IO n)[j]?=some x.Xx:=by simp[IO,hx]
  have C:j<((((IO n).take j)++List.replicate (n.XD.length - j) 0).map ci).length:=by simp;omega
  have D:((((IO n).take j)++List.replicate (n.XD.length - j) 0).map ci)[j]?=some (ci 0):=by rw[XK,X_ (by simp;omega),Zp];simp;omega
  have e2:((((IO n).take j)++List.replicate (n.XD.length - j) 0).map ci).set j (ci x.Xx)=(((IO n).take (j+1))++List.replicate (n.XD.length - (j+1)) 0).map ci:=by
   rw[<-YS,Y3 _ _ (by simp;omega),X5,YG (by omega),YN,X4 (by omega),show n.XD.length - j=(n.XD.length - (j+1))+1 by omega,Y4,Zt,YA];have:(IO n)[j]=x.Xx:=by rw[NP]at l;injection l
   rw[this];rfl
  have fw:d_ [XE 0,.XC,.XC] [((0,3),.agg [XE x.Xx,a',b'])]=some [XE x.Xx,a',b']:=rfl;simp only[sz,simprocAttr,h9,c,o,hlt,z];have a:Own ((g.new (Xy 3 [[XE 0,.XC,.XC]])).put g.nx (Xy 3 [[XE x.Xx,a',b']])) 0 u 1 ((((IO n).take j)++List.replicate (n.XD.length - j) 0).map ci) :=f.fr (by simp) λi hi=>by have:=(f.lt hi).2;simp[VO,show ¬i=g.nx by omega]
  generalize (g.new (Xy 3 [[XE 0,.XC,.XC]])).put g.nx (Xy 3 [[XE x.Xx,a',b']])=g2 at a ⊢;simp only[sz,simprocAttr,h3,a.rows,C];refine bF (v:=u) (sz:=1) (n:=1) (i:=j) (off:=0) (x:=XE x.Xx) (row:=ci 0) (row':=ci x.Xx) a D rfl rfl rfl λg3 o3 n3 f3=>?_;rw[e2]at o3;simp only[sz,simprocAttr];simpa [St,sx,h9,h3,Xp,c] using o3
 ·rintro t df g ⟨rfl,⟨h9,h3,-⟩,f⟩;rw[XZ (by rw[ap];omega),YN]at f;simp only[sz,simprocAttr,sX,h3];exact⟨_,(by simpa using f:Own g 0 u 1 ((IO n).map ci)).ints (by rw[ap];omega)⟩
def hQ(l:List Int)(x:Int):Int:=if x∈l then (l.idxOf x:Int) else -1
def Pi{x:Int}:(0:Int)<=hQ l x↔x∈l:=by
 unfold hQ
 split
 ·rename_i h;simp[h]
 ·rename_i h;simp[h]
def Om[Xr]{x:Int}(hd:0<d)(hv:Xu P k g.h l v):ah C0 d 129 [v,XE x] g=.val (XE (hQ l x)):=by
 obtain⟨v',e,n⟩:=aB hv d;have vl:∀g,bC .slice v' g=.val (XE (l.length:Int)):=λg=>(n .nil).len g;have ri:=λh=>(n h).ints;rw[WL];refine cq u9 (xs:=[v',XE x]) (by simp only[aD,e,cP 0]) (by simp[fX]) hd ?_;simp only[sz,simprocAttr,fX,vl,jG];refine aT (m:=l.length) hv.1 (λj t df g=>df=[]/\St t [(0,v'),(1,XE x)]/\x ∉ l.take j) ⟨rfl,by simp[St,sx],by simp⟩ (by simp[sx]) (by simp[sx]) (by decide)
  (by rintro j t df g v s (rfl|rfl|rfl)<;>simp[sx,St]) ?_ ?_
 ·rintro j t df g b ⟨rfl,⟨h0,h1,-⟩,a⟩ h8 h7;obtain⟨y,i,f,hm⟩:=af b;have o:j<(l.map ci).length:=by simpa using b
  have p:(l.map ci)[j]?=some (ci y):=by rw[XK,i];rfl
  by_cases c:x=y
  ·subst c;have hl:l=l.take j++x::l.drop (j+1):=by
    have:l.drop j=x::l.drop (j+1):=by rw[YY b];congr 1;rw[XJ b]at i;injection i
    rw[<-this,YC]
   have hf:hQ l x=(j:Int):=by
    unfold hQ;rw[XO hm];have:l.idxOf x=j:=by
     conv=>lhs;rw[hl]
     rw[List.idxOf_append,XS a,List.idxOf_cons_self,X5];omega
    rw[this]
   simp only[sz,simprocAttr,h0,h1,h8,ri,o,p,ci,hf]
  ·simp only[sz,simprocAttr,h0,h1,h8,ri,o,p,ci,c];simp[St,sx,h0,h1,h7,f,a,c]
 ·rintro t df g ⟨rfl,-,a⟩;rw[XV]at a;simp only[sz,simprocAttr,jH,hQ,a]
def An[Xr]{x:Int}(hd:0<d)(hv:Xu P k g.h l v):ah C0 d 94 [v,XE x] g=.val (.bool (decide (x∈l))):=by let⟨v',e,b⟩:=aB hv d;have ki:=λg=>Om (d:=d+1) (g:=g) (x:=x) (XR d) (b g.h);have a:decide ((0:Int)<=hQ l x)=decide (x∈l):=decide_eq_decide.2 Pi;rw[WL];refine cM qH (xs:=[v',XE x]) (by simp only[aD,e,cP 0]) (by simp[eB]) hd ?_;simp only[sz,simprocAttr,eB,ki,<-a]
def Ay{α:Type} [Rp α]{l:List α}(hw:Xu P k h l w)(g:G):Gy w g=.upd (Xq g.nx) (g.new (Xy 1 [[w]])):=by rw[JZ _ _ hw.cell.2,hw.cell.1];rfl
def JR{α:Type} [Rp α](x:α)(sz:Nat):VS:=λP k h v=>(∃id cs,v=Xq id/\P id/\h.get id=Xy sz [cs]/\Rp.rp P k h x cs)\/∃t cs,v=.Xn t sz [cs] 0 0/\t<=k/\Rp.rp Xt k .nil x cs
def Je{α:Type} [Rp α]{x:α}{sz:Nat}{n:Nat}(d:Nat)(r:JR x sz P k h v)(hn:Rp.dp α<=n)(hd:Rp.dp α<=20:=by decide):∃v',Hx.Xm h d (n+1) v=some v'/\JR x sz Xt (max k d) .nil v':=by
 rcases r with⟨id,cs,rfl,-,hg,r⟩|⟨t,cs,rfl,ht,r⟩
 ·let⟨cs',e,r'⟩:=Rp.Xm d r hn (by show _<=24;omega);obtain⟨m,e2,l2⟩:=Rp.tag (n:=aF) r' (by show _<=24;omega);refine⟨.Xn (Nat.max d (Nat.max m 0)) sz [cs'] 0 0,?_,.inr ⟨_,cs',rfl,?_,r'⟩⟩
  ·simp only[Hx.Xm,hg,show Nat.beq 0 0=true from rfl,aD,e,jf,il,e2]
  ·show max d (max m 0)<=max k d;omega
 ·exact⟨.Xn t sz [cs] 0 0,rfl,.inr ⟨t,cs,rfl,by omega,Rp.mono r (λi hi=>hi.elim) (by omega)⟩⟩
def Mj{α:Type} [Rp α]{x:α}{sz:Nat}{n:Nat}(r:JR x sz Xt k h v):∃m,gg (n+1) v=some m/\m<=k:=by
 rcases r with⟨id,cs,rfl,a,-⟩|⟨t,cs,rfl,ht,r⟩
 ·exact a.elim
 ·exact⟨t,rfl,ht⟩
def IS(h:Wr cs vs)(hc:∀c∈cs,1<=c){x:Int}(hi:vs[i]?=some x)(hci:cs[i]?=some c)(hx:x≠c - 1):Wr cs (vs.take i++(x+1)::List.replicate (vs.length - (i+1)) 0):=by
 have b:=(XI.1 hi).1;have hl:=h.len;refine GT (by simp;omega) λj c' v k hv=>?_;obtain⟨v',h1,h2,h3⟩:=h.get k;have a:=hc c' (XL k)
 by_cases h4:j<i
 ·rw[XW (by simp;omega),Yv h4]at hv;rw[h1]at hv;injection hv with hv;omega
 ·rw[X_ (by simp;omega)]at hv;rw[X5,YG (by omega)]at hv
  by_cases h5:j=i
  ·subst h5;rw[YN]at hv;simp at hv;rw[hi]at h1;injection h1 with h1;rw[hci]at k;injection k with k;omega
  ·obtain⟨m,hm⟩:∃m,j - i=m+1:=⟨j - i - 1,by omega⟩;rw[hm,ZY]at hv;have:=XL hv;rw[ZT]at this;omega
def Ar(hc:∀c∈cs,1<=c):Wr cs (List.replicate cs.length 0) :=GT (by simp) λj c v hj hv=>by have:=XL hv;rw[ZT]at this;have:=hc c (XL hj);omega
def Al{m:Nat}(h:m<vs.length):(vs.take (m+1)++List.replicate (vs.length - (m+1)) 0).set m 0=vs.take m++List.replicate (vs.length - m) 0:=by
 rw[X4 h,YA,Y3 _ _ (by simp;omega),X5,YG (by omega),YN];rw[show vs.length - m=(vs.length - (m+1))+1 by omega,Y4]
 rfl
def Ak{m:Nat}(h:m<vs.length)(y:Int):(vs.take (m+1)++List.replicate (vs.length - (m+1)) 0).set m y=vs.take m++y::List.replicate (vs.length - (m+1)) 0:=by
 rw[X4 h,YA,Y3 _ _ (by simp;omega),X5,YG (by omega),YN]
 rfl
structure OdoJ (n:Xb) (vs:List Int) (L:List (Nat×AV)) (u:AV) (g0:G) (m:Nat) (t:T) (g:G):Prop where
 st:Xs t 6=XE ((m:Int) - 1)
 ss:St t L
 ow:Own g g0.nx u 1 ((vs.take m++List.replicate (vs.length - m) 0).map ci)
 mx:∀(j:Nat) (c:Int),m<=j->(IO n)[j]?=some c->vs[j]?.getD 0=c - 1
def F8{C:Xg}{id:Nat}{ps:List Nat}{assign body:Code}{a b:SC}{Xi:Nat}{args:List AV}{t':T}
  (hg:g.h.get id=.loop nt t ps assign body Xi .ready none) (ha:cF C nt assign=a) (hb:cF C nt body=b) (hp:dN t nt ps args=some t')
  (h:wp C d (some id) a (λe t1 df g1=>e=.norm/\df=[]/\g1.h.get id=.loop nt t ps assign body Xi .ready none /\
   wp C d (some id) b (λe _ df g2=>df=[]/\g2.h.get id=.loop nt t ps assign body Xi .busy none/\((e=.norm/\K (.bool true) (g2.put id (.loop nt t ps assign body Xi .ready none)))\/(e=.ret/\K (.bool false) (g2.put id (.loop nt t ps assign body Xi .done (some .ret))))))
    t1 [] (g1.put id (.loop nt t ps assign body Xi .busy none))) t' [] g) :
  (da (I C) d id args g).sat K g D:=by
 subst ha;subst hb;unfold da;rw[show g.get id=_ from hg];dsimp only;rw[hp];dsimp only;have h1:=xh h;cases hc:(I C).code nt d (some id) assign t' [] g with
 |fail=>rw[hc]at h1;exact h1.elim
 | ok e t1 df g1 =>
  rw[hc]at h1;obtain⟨rfl,rfl,k,h2⟩:=h1;dsimp only;rw[show g1.get id=_ from k];dsimp only;have h3:=xh h2;cases hc2:(I C).code nt d (some id) body t1 [] (g1.put id (.loop nt t ps assign body Xi .busy none)) with
  |fail=>rw[hc2]at h3;exact h3.elim
  | ok e t2 df2 g2 =>rw[hc2]at h3;obtain⟨rfl,h4,h5⟩:=h3;dsimp only;rw[show g2.get id=_ from h4];rcases h5 with⟨rfl,h5⟩|⟨rfl,h5⟩<;>exact h5
structure Wq (cs:List Int):Prop where
 b:∀c∈cs,1<=c/\c<=4
 l:cs.length<=8
def EK(cs:List Int):Nat:=(EO cs).toNat
def Wq.nc{cs:List Int}(h:Wq cs):1<=EK cs/\EK cs<=65536/\((EK cs:Nat):Int)=EO cs:=by
 let⟨h1,h2⟩:=cH h.b;have h3:(4:Int) ^ cs.length<=4 ^ 8:=by
  have:(4:Nat) ^ cs.length<=4 ^ 8:=Yr (by decide) h.l
  exact_mod_cast this
 have h4:(4:Int) ^ 8=65536:=by decide
 unfold EK;omega
def Up(B:Nat)(g g':G):Prop:=(∀i,i<B->g'.h.get i=g.h.get i)/\∀i∈g'.lg,i∈g.lg\/B<=i
def Up.refl(B:Nat)(g:G):Up B g g:=⟨λ_ _=>rfl,λ_ h=>.inl h⟩
def Up.trans{B:Nat}{g1 g2:G}(h:Up B g g1)(h2:Up B g1 g2):Up B g g2:=⟨λi hi=>by rw[h2.1 i hi,h.1 i hi],λi hi=>(h2.2 i hi).elim (λh3=>h.2 i h3) .inr⟩
def Up.mono{B B':Nat}{g':G}(h:Up B g g')(hb:B'<=B):Up B' g g':=⟨λi hi=>h.1 i (by omega),λi hi=>(h.2 i hi).imp id λh=>by omega⟩
def Up.new{B:Nat}{g:G}(hb:B<=g.nx)(o:Xh):Up B g (g.new o):=⟨λi hi=>by rw[G.new_h,aq],λi hi=>by simp at hi;rcases hi with rfl|hi;exact .inr hb;exact .inl hi⟩
def Up.put{B:Nat}{g:G}{j:Nat}(hb:B<=j)(o:Xh):Up B g (g.put j o):=⟨λi hi=>by rw[G.put_h,aq],λi hi=>by simp at hi;rcases hi with rfl|hi;exact .inr hb;exact .inl hi⟩
def um{sz n off:Nat}{rows:List (List AV)}{row row':List AV}{x:AV}(hv:Own g b v sz rows)(hr:rows[i]?=some row)
  (hl:x.cells.length=n) (ht:x.isTup=false) (hp:cN row off x.cells=some row')
  (k:∀g',Own g' b v sz (rows.set i row')->g'.nx=g.nx->(∀i,W5 v≠some i->g'.h.get i=g.h.get i)->Up b g g'->K .undef g'):(pA n (jK sz v i off) x g).sat K g D:=by
 rcases hv with⟨rfl,rfl⟩|⟨id,ep,lo,h1,h2,rfl,h3⟩
 ·simp at hr
 ·simp only[jK,YT];rw[ED h3 hr rfl ht hl hp];refine k _ (.inr ⟨id,ep,lo,h1,by simpa using h2,by simp,by simp[aY]⟩) (by simp) (λi hne=>?_) (Up.put h1 _);rw[G.put_h,aq (λe=>hne (by rw[e];rfl))]
def Uo(B:Nat)(g g':G):Prop:=Up B g g'/\g.nx<=g'.nx/\∀i,i≠B->i<g.nx->g'.h.get i=g.h.get i
def Uo.refl(B:Nat)(g:G):Uo B g g:=⟨Up.refl _ _,XH _,λ_ _ _=>rfl⟩
def Uo.trans{B:Nat}{g g1 g2:G}(h:Uo B g g1)(h2:Uo B g1 g2):Uo B g g2:=⟨h.1.trans h2.1,Ya h.2.1 h2.2.1,λi hi hn=>by rw[h2.2.2 i hi (XX hn h.2.1),h.2.2 i hi hn]⟩
def Ul(B:Nat)(g g':G):Prop:=Up B g g'/\g.nx<=g'.nx/\∀i,(i<B\/B+3<=i)->i<g.nx->g'.h.get i=g.h.get i
def Ul.put{B:Nat}{g:G}{j:Nat}(hb:B<=j)(hb2:j<B+3)(o:Xh):Ul B g (g.put j o):=⟨Up.put hb o,by simp,λi hi _=>by rw[G.put_h,aq]⟩
def Uc(id:Nat)(w u:AV)(k:Nat):List (Nat×AV):=[(0,.VZ id),(1,.Xn 0 1 [[w]] 0 0),(3,u),(4,XE (k:Int))]
structure Su (cs vs:List Int) (L:List (Nat×AV)) (u:AV) (g0:G) (m:Nat) (t:T) (g:G):Prop where
 st:Xs t 5=XE ((m:Int) - 1)
 ss:St t L
 ow:Own g g0.nx u 1 ((vs.take m++List.replicate (vs.length - m) 0).map ci)
 mx:∀(j:Nat) (c:Int),m<=j->cs[j]?=some c->vs[j]?.getD 0=c - 1
theorem RU[Xr]{id m:Nat}{g0:G}(hb:Wq cs)(hw:Xu Xt 0 .nil cs w)(hc:Wr cs vs)(hm:m<=cs.length)
  (h0:Su cs vs (Uc id w u k) u g0 m t g) (hvu:W5 u=some g0.nx)
  (fin:∀m' t g',m'<=cs.length->Su cs vs (Uc id w u k) u g0 m' t g'->g.nx<=g'.nx->Uo g0.nx g g'->(m'=0\/∃x c,vs[m' - 1]?=some x/\cs[m' - 1]?=some c/\x≠c - 1/\0<m')->Q (.exit 2) t [] g') :
  VY (wp C0 d none cB) Q t [] g:=by
 have F:=hc.len;have C:=hb.l;have ri:=λh=>(hw.tree (h':=h) (XH 0):Xu Xt 0 h cs w).ints;refine gi (λm t df g'=>df=[]/\m<=cs.length/\Su cs vs (Uc id w u k) u g0 m t g'/\g.nx<=g'.nx/\Uo g0.nx g g') m ⟨rfl,hm,h0,XH _,Uo.refl _ _⟩ ?_;rintro m t df g1 ⟨rfl,hm,⟨h5,⟨h0,h1,h3,h4,-⟩,f,p⟩,q,o⟩;simp only[cB];cases m with
 | zero =>
  have c1:¬((0:Int)<=((0:Nat):Int) - 1):=by omega
  simp only[sz,simprocAttr,h5];refine fin 0 _ _ (Yi _) ⟨?_,?_,?_,p⟩ ?_ ?_ (.inl rfl)
  ·simp[sx,h5]
  ·simp[St,Uc,sx,h0,h1,h3,h4]
  ·exact f
  ·exact q
  ·exact o
 | succ m =>
  have c1:(0:Int)<=((m+1:Nat):Int) - 1:=by omega
  have e1:((m+1:Nat):Int) - 1=(m:Int):=by omega
  rw[e1]at c1 h5;obtain⟨x,hx,-,r⟩:=af (l:=cs) (j:=m) (by omega);obtain⟨v,hv,D,E⟩:=hc.get hx;have B:=hb.b x r;have y:m<((vs.take (m+1)++List.replicate (vs.length - (m+1)) 0).map ci).length:=by simp;omega
  have s:((vs.take (m+1)++List.replicate (vs.length - (m+1)) 0).map ci)[m]?=some (ci v):=by rw[XK,XW (by simp;omega),Yv (by omega),hv];rfl
  have z:m<(cs.map ci).length:=by simp;omega
  have A:(cs.map ci)[m]?=some (ci x):=by rw[XK,hx];rfl
  have ru:=f.rows;have w1:IntKind.wrap .i64 (x - 1)=x - 1:=an
  by_cases c2:v=x - 1
  ·simp only[sz,simprocAttr,h5,h1,h3,c1,ru,y,s,ri,z,A,bj,ci,w1,c2];refine um (v:=u) (sz:=1) (n:=1) (i:=m) (off:=0) (x:=XE 0) (row':=ci 0) f s rfl rfl rfl λg4 hu4 n4 f4 p4=>?_;rw[<-YS,Al (by omega)]at hu4;have w2:IntKind.wrap .i64 ((m:Int) - 1)=(m:Int) - 1:=an;simp only[sz,simprocAttr,h5,w2];refine⟨m,by omega,by omega,⟨by simp[sx],by simp[St,Uc,sx,h0,h1,h3,h4],hu4,λj c hj a=>?_⟩,by omega,o.trans ⟨p4,by omega,λi hi _=>f4 i λe=>hi (by rw[hvu]at e;injection e with e;exact e.symm)⟩⟩
   by_cases e:j=m
   ·subst e;rw[hx]at a;injection a with a;rw[hv,XP];omega
   ·exact p j c (by omega) a
  ·simp only[sz,simprocAttr,h5,h1,h3,c1,ru,y,s,ri,z,A,bj,ci,w1,c2];refine fin (m+1) _ _ hm ⟨?_,?_,?_,p⟩ ?_ ?_ (.inr ⟨v,x,hv,hx,c2,by omega⟩)
   ·simp[sx,h5]
   ·simp[St,Uc,sx,h0,h1,h3,h4]
   ·exact f
   ·exact q
   ·exact o
theorem RW[Xr]{id:Nat}{g0:G}(hb:Wq cs)(hw:Xu Xt 0 .nil cs w)
  (J:Nat->G->Prop) (E:G->Prop) (hJ:∀j g g',Uo g0.nx g g'->J j g->J j g')
  (step:∀(j:Nat) (u:AV) (g:G) (K':AV->G->Prop) (D:Xo->Prop),j<EK cs->g0.nx+1<=g.nx->J j g->Xu (λi=>g0.nx<=i/\i<g.nx) 0 g.h (EN cs j) u ->
   (∀g',J (j+1) g'->g.nx<=g'.nx->(∀i,g0.nx<=i->i<g.nx->g'.h.get i=g.h.get i)->K' (.bool true) g')->(∀g',E g'->K' (.bool false) g')->(da (I C0) d id [XE (j:Int),u] g).sat K' g D)
  (h0:J 0 g0) (fin:∀g',J (EK cs) g'->g0.nx<=g'.nx->K (.WM []) g') (finE:∀g',E g'->K (.WM []) g') :
  wp C0 d none aX.code (Sb C0 d aX.res K) (bJ 0 [.VZ id,.Xn 0 1 [[w]] 0 0] .nil) [] g0:=by
 have h7:=hb.l;obtain⟨W1,W2,W3⟩:=hb.nc;have p:=λc hc=>(hb.b c hc).1;have nl:=hw.len;have ri:=λh=>(hw.tree (h':=h) (XH 0):Xu Xt 0 h cs w).ints;obtain⟨Qf,B⟩:∃Qf,Qf=Sb C0 d aX.res K:=⟨_,rfl⟩;rw[<-B];simp only[sz,simprocAttr,aX,bj,nl];refine s_ (b:=g0.nx) (n:=cs.length) (by unfold aH;omega) (by unfold aH;omega) (XH _) λu g1 hu n1 fr1 v1 l1=>?_;simp only[sz,simprocAttr];obtain⟨INV,o⟩:∃INV:Nat->PT,INV=(λm t df g=>df=[]/\∃(j:Nat) (vs:List Int),m=EK cs - j/\j<EK cs/\Wr cs vs/\EL cs vs=(j:Int)/\St t (Uc id w u j)/\Own g g0.nx u 1 (vs.map ci)/\J j g/\g0.nx+1<=g.nx):=⟨_,rfl⟩;refine gi INV (EK cs) ?_ ?_
 ·rw[o];exact⟨rfl,0,List.replicate cs.length 0,rfl,by omega,Ar p,by rw[mA];rfl,by simp[St,Uc,sx],by simpa [ci] using hu,hJ 0 _ _ ⟨⟨fr1,λi hi=>by rw[l1]at hi;rcases Yh.1 hi with rfl|hi;exact .inr (XH _);exact .inl hi⟩,by omega,λi _ hn=>fr1 i hn⟩ h0,by omega⟩
 intro m t df g Z;have H:=Z;rw[o]at H;obtain⟨rfl,j,vs,rfl,hj,f,r,⟨h0,h1,h3,h4,-⟩,ho,z,M⟩:=H;clear Z;have hd:=f.len;have O:EN cs (j:Int)=vs:=by rw[<-r];exact cx p f
 have P:W5 u=some g0.nx:=v1;have Xj:Xu (λi=>g0.nx<=i/\i<g.nx) 0 g.h vs u:=Own.sl (α:=Int) ho (by omega) (VJ (λa=>aK.2 rfl) _) λi hi=>ho.lt hi;have w1:IntKind.wrap .i64 ((cs.length:Int) - 1)=(cs.length:Int) - 1:=an;obtain⟨R,hR⟩:∃R,R=(Xw (.blk 1 (sQ [oL 15 1,oN 16 15,W0 17 .sub 16 1,oM 5 17] (Xw (.blk 2 (.loop cB)) cC))) dH):=⟨_,rfl⟩;simp only[gZ];rw[<-hR,cX];obtain⟨Q1,A⟩:∃Q1,Q1=kL INV (EK cs - j) (kB 0 Qf):=⟨_,rfl⟩;rw[<-A];have rest:∀(t:T) (g:G),St t (Uc id w u j)->Own g g0.nx u 1 (vs.map ci)->J (j+1) g->g0.nx+1<=g.nx->wp C0 d none R Q1 t [] g:=by
  rintro t g ⟨h0,h1,h3,h4,-⟩ ho z M;rw[hR,A];simp only[sz,simprocAttr,h1,bj,nl,w1];refine RU (id:=id) (k:=j) (m:=cs.length) (w:=w) (u:=u) (vs:=vs) (g0:=g0) hb hw f (XH _) ⟨by simp[sx],by simp[St,Uc,sx,h0,h1,h3,h4],?_,λi c hi hc=>?_⟩ P ?_
  ·rw[XZ (by omega),show vs.length - cs.length=0 by omega];simpa using ho
  ·have:=(XI.1 hc).1;omega
  rintro m' t2 g2 h8 ⟨h5,⟨h0,h1,h3,h4,-⟩,N,L⟩ ha Q C;have y:J (j+1) g2:=hJ _ _ _ Q z;rcases C with rfl|⟨x,c,hx,hc,Y,h9⟩
  ·have F:j+1=EK cs:=by have:=Co (cs:=cs) (vs:=vs) f.len.symm λi c hc=>L i c (Yi _) hc;omega
   have c1:(((0:Nat):Int) - 1<0):=by omega
   rw[B];simp only[sz,simprocAttr,cC,aX,h5];rw[F]at y;exact fin g2 y (by omega)
  ·obtain⟨i,rfl⟩:∃i,m'=i+1:=⟨m' - 1,by omega⟩;rw[Zu]at hx hc;have U:=(XI.1 hx).1;have e1:((i+1:Nat):Int) - 1=(i:Int):=by omega
   rw[e1]at h5;have c1:¬((i:Int)<0):=by omega
   have u1:i<((vs.take (i+1)++List.replicate (vs.length - (i+1)) 0).map ci).length:=by simp;omega
   have u2:((vs.take (i+1)++List.replicate (vs.length - (i+1)) 0).map ci)[i]?=some (ci x):=by rw[XK,XW (by simp;omega),Yv (by omega),hx];rfl
   have ru:=N.rows;obtain⟨x',V,W,X⟩:=f.get hc;rw[R_ V hx]at W X;have h6:=hb.b c (XL hc);have w2:IntKind.wrap .i64 (x+1)=x+1:=an;simp only[sz,simprocAttr,cC,h5,c1,h3,ru,u1,u2,ci,w2];refine um (v:=u) (sz:=1) (n:=1) (i:=i) (off:=0) (x:=XE (x+1)) (row':=ci (x+1)) N u2 rfl rfl rfl λg4 hu4 n4 f4 p4=>?_;rw[<-YS,Ak U]at hu4;have s:=IS f p hx hc Y;have q:=It (cs:=cs) (vs:=vs) f.len.symm hx λk c hk hc=>L k c (by omega) hc;rw[r]at q;have h2:=bz hb.b s;have w3:IntKind.wrap .i64 ((j:Int)+1)=((j+1:Nat):Int):=by rw[an];rfl
   simp only[sz,simprocAttr,dH,h4,w3];refine⟨EK cs - (j+1),by omega,?_⟩;rw[o];refine⟨rfl,j+1,_,rfl,by omega,s,by rw[q];rfl,by simp[St,Uc,sx,h0,h1,h3],hu4,hJ _ _ _ ⟨p4,by omega,λi hi _=>f4 i λe=>hi (by rw[P]at e;injection e with e;exact e.symm)⟩ y,by omega⟩
 simp only[sz,simprocAttr,h0,h3,h4];have st:=λK' D=>step j u g K' D hj M z (by rw[O];exact Xj);show (da (I C0) d id [XE (j:Int),u] g).sat _ _ _;refine st _ _ (λg' hJ' hn' hf'=>?_) λg' hE=>?_
 ·simp only[sz,simprocAttr];exact rest _ _ (by simp[St,Uc,sx,h0,h1,h3,h4]) (ho.fr hn' λi hi=>hf' i (ho.lt hi).1 (ho.lt hi).2) hJ' (by omega)
 ·rw[A,B];simp only[sz,simprocAttr,aX];exact finE g' hE
def Pg[Xr]:C0.ext 131=none:=by kernel_rfl
def F7[Xr]{p r:Nat}{ca cb:SC}{df:List Xo}(hb:Wq cs)(hw:Xu Xt 0 .nil cs w)
  (hv:Xs t r=.W_ 131 [] [.Xn 0 1 [[w]] 0 0]) (hp:p<nt) (hq:q<nt)
  (J:Nat->G->Prop) (E:G->Prop) (hJ:∀j g1 g2,Ul g.nx g1 g2->J j g1->J j g2) (hE:∀g1 g2,Ul g.nx g1 g2->E g1->E g2) (h0:J 0 g)
  (step:∀(j:Nat) (u:AV) (g1:G),j<EK cs->J j g1->g.nx+3<=g1.nx->Xu (λi=>g.nx+2<=i/\i<g1.nx) 0 g1.h (EN cs j) u ->
   wp C0 d (some (g.nx+1)) ca (λe t1 df g1'=>e=.norm/\df=[]/\Fr g1 g1'/\∀g2:G,g2.nx=g1'.nx->(∀i,i≠g.nx+1->g2.h.get i=g1'.h.get i)->Up g.nx g1' g2 ->
    wp C0 d (some (g.nx+1)) cb (λe _ df g3=>df=[]/\Vu g.nx g2 g3 e (J (j+1) g3) (E g3)) t1 [] g2)
    (eT (eT t p (XE (j:Int))) q u) [] g1)
  (fin:∀g',J (EK cs) g'->g.nx+2<=g'.nx->g'.h.get g.nx=.Xi true->Q .norm t (.mark g.nx::df) g')
  (finE:∀g',E g'->g.nx+2<=g'.nx->g'.h.get g.nx=.Xi true->Q .ret t (.mark g.nx::df) g') :
  wp C0 d none (.SL nt (.t r) [p,q] ca cb) Q t df g:=by
 refine y7 hv Pg rU (by simp[aX]) ?_;intro assign body ha o;have e1:((g.new (.Xi true)).new (.loop nt t [p,q] assign body g.nx .ready none)).nx=g.nx+2:=by simp
 refine RW (g0:=(g.new (.Xi true)).new (.loop nt t [p,q] assign body g.nx .ready none)) (id:=g.nx+1) hb hw
  (λj g'=>J j g'/\g'.h.get g.nx=.Xi true/\g'.h.get (g.nx+1)=.loop nt t [p,q] assign body g.nx .ready none)
  (λg'=>E g'/\g'.h.get g.nx=.Xi true/\g'.h.get (g.nx+1)=.loop nt t [p,q] assign body g.nx .done (some .ret)/\g.nx+2<=g'.nx) ?_ ?_ ?_ ?_ ?_
 ·rintro j h h' c ⟨a1,a2,b⟩;rw[e1]at c;exact⟨hJ j h h' ⟨c.1.mono (by omega),c.2.1,λi hi a=>c.2.2 i (by omega) a⟩ a1,by rw[c.1.1 _ (by omega),a2],by rw[c.1.1 _ (by omega),b]⟩
 ·rintro j u g1 K' D B a ⟨a1,a2,b⟩ Xj kk kE;rw[e1]at a kk Xj;refine F8 b ha o (t':=eT (eT t p (XE (j:Int))) q u) ?_ ?_
  ·simp only[dN,aa,YM,XO hp,XO hq];rfl
  ·refine ch _ (step j u g1 B a1 (by omega) Xj) ?_;rintro e t1 df g1' ⟨rfl,rfl,k,h⟩;have f:g.nx+1<g1.nx:=by omega
   have hl:g.nx+1<g1'.nx:=XX f k.1;have l:g1'.h.get g.nx=.Xi true:=by rw[k.2 _ (by omega),a2]
   have m:g1'.h.get (g.nx+1)=.loop nt t [p,q] assign body g.nx .ready none:=by rw[k.2 _ f,b]
   refine⟨rfl,rfl,m,?_⟩;refine ch _ (h (g1'.put (g.nx+1) (.loop nt t [p,q] assign body g.nx .busy none)) (by simp) (λi hi=>by simp[VO,hi]) (Up.put (by omega) _)) ?_;rintro e C df g3 ⟨rfl,⟨b2,n,b1⟩⟩;have z:g3.h.get (g.nx+1)=.loop nt t [p,q] assign body g.nx .busy none:=by rw[n _ (by omega) (by simpa using hl)];simp[VO]
   have x:g3.h.get g.nx=.Xi true:=by rw[n _ (by omega) (by simp;omega)];simp[VO,l]
   refine⟨rfl,z,?_⟩;have y:g1'.nx<=g3.nx:=by simpa using b2
   have A:=k.1;rcases b1 with⟨rfl,b1⟩|⟨rfl,b1⟩
   ·refine .inl ⟨rfl,kk _ ⟨hJ _ g3 _ (Ul.put (by omega) (by omega) _) b1,?_,?_⟩ (by simp;omega) λi h1 h2=>?_⟩
    ·simp[VO,x]
    ·simp[VO]
    ·have v:¬i=g.nx+1:=by omega
     have:=n i (by omega) (by simp;omega);simp[VO,v]at this ⊢;rw[this,k.2 i h2]
   ·refine .inr ⟨rfl,kE _ ⟨hE g3 _ (Ul.put (by omega) (by omega) _) b1,?_,?_,?_⟩⟩
    ·simp[VO,x]
    ·simp[VO]
    ·simp;omega
 ·refine⟨hJ 0 g _ ⟨(Up.new (XH _) _).trans (Up.new (by simp) _),by simp;omega,λi hi a=>by simp[VO,show ¬i=g.nx by omega,show ¬i=g.nx+1 by omega]⟩ h0,?_,?_⟩
  ·simp[VO]
  ·simp[VO]
 ·rintro g' ⟨a1,a2,b⟩ a;rw[e1]at a;refine⟨_,_,_,_,_,_,.inl ⟨b,fin _ (hJ _ g' _ (Ul.put (by omega) (by omega) _) a1) (by simpa using a) ?_⟩⟩;simp[VO,a2]
 ·rintro g' ⟨a1,a2,b,a⟩;refine⟨_,_,_,_,_,_,.inr ⟨b,finE _ (hE g' _ (Ul.put (by omega) (by omega) _) a1) (by simpa using a) ?_⟩⟩;simp[VO,a2]
def Em[Xr]{p r:Nat}{ca cb:SC}{df:List Xo}(hb:Wq cs)(hw:Xu Xt 0 .nil cs w)
  (hv:Xs t r=.W_ 131 [] [.Xn 0 1 [[w]] 0 0]) (hp:p<nt) (hq:q<nt)
  (J:Nat->G->Prop) (E:G->Prop) (hJ:∀j g1 g2,Up g.nx g1 g2->J j g1->J j g2) (hE:∀g1 g2,Up g.nx g1 g2->E g1->E g2) (h0:J 0 g)
  (step:∀(j:Nat) (u:AV) (g1:G),j<EK cs->J j g1->g.nx+2<=g1.nx->Xu (λi=>g.nx+2<=i/\i<g1.nx) 0 g1.h (EN cs j) u ->
   wp C0 d (some (g.nx+1)) ca (λe t1 df g1'=>e=.norm/\df=[]/\Fr g1 g1'/\∀g2:G,g2.nx=g1'.nx->(∀i,i≠g.nx+1->g2.h.get i=g1'.h.get i)->Up g.nx g1' g2 ->
    wp C0 d (some (g.nx+1)) cb (λe _ df g3=>df=[]/\Vu g.nx g2 g3 e (J (j+1) g3) (E g3)) t1 [] g2)
    (eT (eT t p (XE (j:Int))) q u) [] g1)
  (fin:∀g',J (EK cs) g'->g.nx+2<=g'.nx->g'.h.get g.nx=.Xi true->Q .norm t (.mark g.nx::df) g')
  (finE:∀g',E g'->g.nx+2<=g'.nx->g'.h.get g.nx=.Xi true->Q .ret t (.mark g.nx::df) g') :
  wp C0 d none (.SL nt (.t r) [p,q] ca cb) Q t df g :=
 F7 hb hw hv hp hq J E (λj g1 g2 h=>hJ j g1 g2 h.1) (λg1 g2 h=>hE g1 g2 h.1) h0 (λj u g1 hj hJj hn=>step j u g1 hj hJj (by omega)) fin finE
def CbV(cs:List Int):VS:=λP k h v=>∃p,v=.W_ 131 [] [p]/\JR cs 1 P k h p
def UJ(cs:List Int):Q6 (CbV cs) 2:=by
 refine⟨λ{P k h v n} d r hn=>?_,λ{k h v n} r hn=>?_⟩
 ·obtain⟨p,rfl,a⟩:=r;obtain⟨n,rfl⟩:∃q,n=q+2:=⟨n - 2,by omega⟩;obtain⟨p',e1,b⟩:=Je (n:=n) d a (Ya (show Rp.dp (List Int)<=20 by decide) (by omega));refine⟨.W_ 131 [] [p'],?_,p',rfl,b⟩;simp only[Hx.Xm,aD]at e1 ⊢;rw[e1]
 ·obtain⟨p,rfl,a⟩:=r;obtain⟨n,rfl⟩:∃q,n=q+2:=⟨n - 2,by omega⟩;obtain⟨c,e1,l1⟩:=Mj (n:=n) a;refine⟨Nat.max c 0,?_,by show max c 0<=k;omega⟩;show il (gg (n+1)) [p]=_;simp only[il,e1]
theorem Cj[Xr](hd:0<d)(hw:Xu Xt 0 g.h cs w) :
  ∃z,ah C0 d 96 [w] g=.val (.W_ 131 [] [.Xn 0 1 [[z]] 0 0])/\Xu Xt 0 .nil cs z:=by
 have key:∃r,ah C0 d 96 [w] g=.val r/\CbV cs Xt 0 .nil r:=by rw[WL];refine aP u_ (xs:=[w]) (by simp only[aD,mc d hw]) (by simp[fY]) (UJ cs) (by decide) hd ?_;simp only[sz,simprocAttr,fY,kG,Ay hw];refine⟨λ_=>True,_,rfl,.inl ⟨0,[w],rfl,trivial,by simp[sx],?_⟩⟩;exact⟨w,rfl,hw.wide (XH 0)⟩
 obtain⟨r,hr,p,rfl,k⟩:=key;rcases k with⟨id,cs,rfl,a,-⟩|⟨t,cs2,rfl,ht,k⟩
 ·exact a.elim
 obtain⟨z,rfl,hz⟩:=bo.1 k;have:t=0:=by omega
 subst this;exact⟨z,hr,hz⟩
def zO{v:Int}(h:cs.length=vs.length):EL (cs++[c]) (vs++[v])=EL cs vs*c+v:=by
 have h1:=yP (cs++[c]) (vs++[v]) 0 (by simp[h]);have h2:=yP cs vs 0 h;have h3:e6 (cs++[c]) (vs++[v]) 0=e6 cs vs 0*c+v:=by
  unfold e6;rw[List.zip_append h,ZM]
  rfl
 rw[abr,Int.zero_add]at h1 h2;rw[<-h1,h3,h2]
def cy(hc:∀c∈cs,1<=c/\c<=4)(hl:cs.length<=8)(j:Nat):EO (cs.take j)<=65536:=by
 obtain⟨-,h2⟩:=cH (l:=cs.take j) λc h=>hc c (Ym h);have h3:(4:Int) ^ (cs.take j).length<=4 ^ 8:=by
  have:(4:Nat) ^ (cs.take j).length<=4 ^ 8:=Yr (by decide) (by rw[X5];omega)
  exact_mod_cast this
 have h4:(4:Int) ^ 8=65536:=by decide
 omega
def Tn[Xr]{XB:List Int}(hd:0<d)(hv:Xu Xt 0 .nil n.XD v)(hr:NR n)(hx:n.XD[i]?=some x)(hw:Xu P2 k2 g.h XB w)(hin:Wr (IO n) XB) :
  ah C0 d 130 [v,XE (i:Int),w] g=.val (XE (EL (EP (IO n) x.XA) (EP XB x.XA))):=by
 obtain⟨w',e2,I⟩:=aB hw d;have e1:=mc (h:=g.h) d (hv.tree (h':=g.h) (XH 0));obtain⟨rows,u,r2,N,Z⟩:=hv.all;have u:∀h',ak h' 3 v=some rows:=u;have Q:=(XI.1 hx).1;have q:=XL hx;obtain⟨row,Y,q2⟩:=N i x hx;obtain⟨pa,ra,rfl,f,-⟩:=cE.1 q2;have hlt:i<rows.length:=by omega
 have o:=Z (by omega);have R:=hr.l2;have H:=hin.len;rw[ap]at H;have V:=bc (hr.places x q) (by omega);have k:=hr.pin q;have lpa:=f.len;have rpa:=λh=>(f.tree (h':=h) (XH 0)).ints;have rw':=λh=>(I h).ints;have hC:=dB hin k;have hb:=aZ hr.cs k;have b:(EP (IO n) x.XA).length=x.XA.length:=by simp[EP]
 have C:(EP XB x.XA).length=x.XA.length:=by simp[EP]
 rw[WL];refine cq GN (xs:=[v,XE (i:Int),w']) (by simp only[aD,e1,e2,cP 0]) (by simp[wD]) hd ?_;simp only[sz,simprocAttr,wD,u,hlt,Y,o,lpa,wE];refine aT (m:=x.XA.length) (by omega) (λj t df g=>df=[]/\St t [(0,v),(2,w'),(14,pa),(7,XE (EL ((EP (IO n) x.XA).take j) ((EP XB x.XA).take j)))]) ⟨rfl,by simp[St,sx,EL]⟩ (by simp[sx]) (by simp[sx]) (by decide)
  (by rintro j t df g v s (rfl|rfl|rfl)<;>simp[sx,St]) ?_ ?_
 ·rintro j t df g r ⟨rfl,h0,h2,a,h7,-⟩ B U4;obtain⟨p,hp,-,D⟩:=af r;obtain⟨X,M⟩:=k p D;rw[ap]at M;obtain⟨pn,rfl⟩:=XU X;have E:pn<n.XD.length:=by omega
  obtain⟨y,K,-,J⟩:=af (l:=n.XD) (j:=pn) E;obtain⟨row2,s1,s2⟩:=N pn y K;obtain⟨pa2,ra2,rfl,-,-⟩:=cE.1 s2;have e:pn<rows.length:=by omega
  obtain⟨z,hz,-,-⟩:=af (l:=XB) (j:=pn) (by omega);have a1:j<(x.XA.map ci).length:=by simpa using r
  have a2:(x.XA.map ci)[j]?=some (ci (pn:Int)):=by rw[XK,hp];rfl
  have b1:pn<(XB.map ci).length:=by rw[XN];omega
  have b2:(XB.map ci)[pn]?=some (ci z):=by rw[XK,hz];rfl
  have c1:(EP (IO n) x.XA).take (j+1)=(EP (IO n) x.XA).take j++[y.Xx]:=by
   rw[X4 (by omega)];congr 1;simp only[EP,abo];have:x.XA[j]=(pn:Int):=by rw[XJ r]at hp;injection hp
   rw[this];simp[IO,K]
  have O:(EP XB x.XA).take (j+1)=(EP XB x.XA).take j++[z]:=by
   rw[X4 (by omega)];congr 1;simp only[EP,abo];have:x.XA[j]=(pn:Int):=by rw[XJ r]at hp;injection hp
   rw[this];simp[hz]
  have F:EL ((EP (IO n) x.XA).take (j+1)) ((EP XB x.XA).take (j+1))=EL ((EP (IO n) x.XA).take j) ((EP XB x.XA).take j)*y.Xx+z:=by rw[c1,O];exact zO (by simp[b,C])
  have i1:=bz (λc h=>hb c (Ym h)) (hC.take j);have L:=bz (λc h=>hb c (Ym h)) (hC.take (j+1));have M:=cy hb (by rw[b];omega) j;have p2:=cy hb (by rw[b];omega) (j+1);rw[F]at L ⊢;have W:=hr.Xx y J;obtain⟨A,P⟩:∃A,A=EL ((EP (IO n) x.XA).take j) ((EP XB x.XA).take j):=⟨_,rfl⟩;rw[<-P]at h7 i1 L ⊢;have T:0<=A*y.Xx:=Zg i1.1 (by omega);have U:A*y.Xx<=65536*4:=Z_ (by omega) (by omega) (by omega) (by omega);have w1:IntKind.wrap .i64 (A*y.Xx)=A*y.Xx:=an;have w2:IntKind.wrap .i64 (A*y.Xx+z)=A*y.Xx+z:=an;simp only[sz,simprocAttr,h0,h2,a,h7,B,rpa,a1,a2,ci,u,e,s1,o,rw',b1,b2,w1,w2];simp[St,sx,h0,h2,a,U4]
 ·rintro t df g ⟨rfl,h0,h2,a,h7,-⟩;rw[XZ (by omega),XZ (by omega)]at h7;simp only[sz,simprocAttr,wF,h7]
def Uk{n:Nat}(hn:n<=65536)(k:∀g',g'.h.get g.nx=Xy 1 ((List.replicate n 0).map ci)->g'.nx=g.nx+1->Up g.nx g g'->K (.Xj g.nx 0 0 0 none) g') :
  (DX 1 8 [XE 0] (XE 0) (XE (n:Int)) g).sat K g D:=by
 have h1:n<=aH:=by unfold aH;omega
 have h2:n*8<=aH:=by unfold aH;omega
 have key:DX 1 8 [XE 0] (XE 0) (XE (n:Int)) g=.upd (.Xj g.nx 0 0 0 none) (g.new (Xy 1 (gz n [XE 0]))):=by
  show (match cd aH (XE (.ofNat n)) with
   | some cn=>match cd cn (XE 0) with
    |some ln=>ax (Nat.ble (cn*8) aH) (OR.upd (.Xj g.nx 0 0 ln none) (g.new (Xy 1 (gz cn [XE 0])))) .fail
    |none=>.fail
   |none=>.fail)=_
  have a1:cd aH (XE (.ofNat n))=some n:=by show ax (Nat.ble n aH) (some n) none=_;rw[aa,XO (by simpa using h1)]
  have a2:cd n (XE 0)=some 0:=by show ax (Nat.ble 0 n) (some 0) none=_;rw[aa,XO (by simp)]
  rw[a1];dsimp only;rw[a2];dsimp only;rw[aa,XO (by simpa using h2)]
 rw[key];refine k _ ?_ (by simp) (Up.new (XH _) _);simp[aY,gz,ci]
def MZ{id:Nat}{x y:Int}(hv:g.h.get id=Xy 1 (l.map ci++(y::tl).map ci))(hx:ak g.h 1 w=some [ci x])(hr:l.length<=65536)
  (k:K (.Xj id 0 0 (l++[x]).length none) (g.put id (Xy 1 ((l++[x]).map ci++tl.map ci)))):(cZ 1 8 (.Xj id 0 0 l.length none) w g).sat K g D:=by
 unfold cZ;rw[hx];simp only[bB,G.get_eq,hv,ay,aa,Yl,YO,Yt,XM,YT,YU,Zo,Yo,XN,Yp,Z2];rw[XO ⟨by omega,by unfold aH;omega⟩,dk];have a:m_ false=true:=rfl;rw[XO ⟨by omega,a⟩];have e:mb (l.map ci++(y::tl).map ci) l.length [ci x]=(l++[x]).map ci++tl.map ci:=by simp only[mb,kK];rw[YV,YA,Z7,Y3 _ _ (by simp)];simp
 rw[e];have e3:l.length+1=(l++[x]).length:=by simp
 rw[e3];exact k
def BJ(n:Xb)(w:Nat):Int:=i8 n (EN (IO n) (w:Int))
def AE(n:Xb)(j:Nat):List Int:=(List.range j).map (BJ n)
def RA(n:Xb)(j:Nat):AE n (j+1)=AE n j++[BJ n j]:=by simp[AE,YF]
def MS(n:Xb)(j:Nat):(AE n j).length=j:=by simp[AE]
def S7(B:Nat):List (Nat×AV):=[(1,Xq B),(4,Xq (B+2))]
def K7[Xr]{B:Nat}{b:AV}{XB:List Int}{rd:Option Nat}(hd:0<d)(hr:NR n)(hN:Xu Xt 0 .nil n.XD b)(hin:Wr (IO n) XB)(hu:Xu P 0 g.h XB u)(hP:∀i,P i->i<g.nx)(hB:B<g.nx)
  (gB:g.h.get B=Xy 2 [[XE n.Xz,b]])
  (ht:St t ((6,u)::(21,b)::S7 B)) (h7:Xs t 7=XE 1) (h23:Xs t 23=XE 0) (h22:Xs t 22=XE (n.XD.length:Int))
  (fin:∀t g',St t ((7,XE (i8 n XB))::(6,u)::S7 B)->Fr g g'->Up g.nx g g'->Q (.exit 2) t [] g'):VY (wp C0 d rd jn) Q t [] g:=by
 let⟨rows,F,r2,Y,Z⟩:=hN.all;have F:∀h',ak h' 3 b=some rows:=F;have O:=hr.l2;have D:=hin.len;rw[ap]at D;simp only[jn];refine aT (m:=n.XD.length) (by omega) (λk t df g'=>df=[]/\St t ((7,XE (EO ((List.range k).map (zi n XB))))::(6,u)::(21,b)::S7 B)/\Fr g g'/\Up g.nx g g') ⟨rfl,by
   obtain⟨h6,a,h1,h4,-⟩:=ht;simp[St,S7,h1,h4,h6,h7,a,EO],Fr.refl _,Up.refl _ _⟩ h23 h22 (by decide)
  (by rintro j t df g v s (rfl|rfl|rfl) h<;>simpa[St,S7,sx]using h) ?_ ?_
 ·rintro k t df g1 hk ⟨rfl,⟨h7,h6,a,h1,h4,-⟩,f,q⟩ h23 h22;obtain⟨x,hx,-,-⟩:=af hk;obtain⟨row,X,q2⟩:=Y k x hx;obtain⟨pa,ra,rfl,R,C⟩:=cE.1 q2;obtain⟨i,r,c,y,i1,i2,V,I,i5,i6,E,W,i9⟩:=Ds hr hin hx;obtain⟨cn,rfl⟩:=XU i5;rw[ZX]at E;let⟨rr,s1,s2,s3,s4⟩:=gC C;obtain⟨z,t1,t2,hz⟩:=s3 i r V;have hlt:k<rows.length:=by omega
  have U:=Z (by omega);have H:=s4 (by omega);have o:∀g2:G,Fr g1 g2->Xu P 0 g2.h XB u:=λg2 e=>hu.far8 λi hi=>by have:=hP i hi;rw[e.2 i (XX this f.1),f.2 i this]
  have p:B<g1.nx:=XX hB f.1;have gB1:g1.h.get B=Xy 2 [[XE n.Xz,b]]:=by rw[f.2 B hB,gB]
  have rz:=λh=>(hz.tree (h':=h) (XH 0)).ints;have u1:k<(XB.map ci).length:=by rw[XN];exact (XI.1 I).1
  have u2:(XB.map ci)[k]?=some (ci (cn:Int)):=by rw[XK,I];rfl
  have v1:cn<(r.map ci).length:=by rw[XN];exact (XI.1 E).1
  have v2:(r.map ci)[cn]?=some (ci y):=by rw[XK,E];rfl
  have wb:=rB hr hin (j:=k+1) (by omega);have ws:=y8 n XB k;rw[W]at ws;have w1:IntKind.wrap .i64 (EO ((List.range k).map (zi n XB))*y)=EO ((List.range (k+1)).map (zi n XB)):=by rw[<-ws,an]
  refine bP (P:=λt' df g'=>df=[]/\g'=(g1.new (Xy 3 [[XE 0,.XC,.XC]])).put g1.nx (Xy 3 [[XE x.Xx,pa,ra]])/\St t' ((9,Xq g1.nx)::(8,XE (k:Int))::(23,XE (k:Int))::(22,XE (n.XD.length:Int))::(7,XE (EO ((List.range k).map (zi n XB))))::(6,u)::(21,b)::S7 B)) ?_ ?_
  ·simp only[sz,simprocAttr,h23,a,F,hlt,X];simp[St,S7,sx,h1,h4,h6,h7,a,h22,h23]
  clear h1 h4 h6 h7 a h22 h23;rintro t df g2 ⟨rfl,l,h9,h8,h23,h22,h7,h6,a,h1,h4,-⟩;have e:Fr g1 g2:=by rw[l];exact⟨by simp,λi hi=>by simp[VO,show ¬i=g1.nx by omega]⟩
  have A:Up g.nx g1 g2:=by rw[l];exact (Up.new f.1 _).trans (Up.put f.1 _)
  have N:g2.h.get g1.nx=Xy 3 [[XE x.Xx,pa,ra]]:=by rw[l];simp[VO]
  have gB2:g2.h.get B=Xy 2 [[XE n.Xz,b]]:=by rw[e.2 B p,gB1]
  have kr:=Tn (d:=d) (i:=k) (g:=aQ g2 []) (P2:=P) (k2:=0) (v:=b) (w:=u) (x:=x) (XB:=XB) hd hN hr hx (by simpa using o g2 e) hin;rw[i1]at kr;have ru:=(o g2 e).ints;simp only[sz,simprocAttr,h7,h9,N,h1,gB2,h8,h6,kr,s1,t1,t2,ru,u1,u2,ci,rz,v1,v2,w1];exact⟨⟨by simp[St,S7,sx,h1,h4,h6,a],f.trans e,q.trans A⟩,h23,h22⟩
 ·rintro t df g' ⟨rfl,⟨h7,h6,a,h1,h4,-⟩,f,q⟩;exact fin t g' ⟨h7,h6,h1,h4,trivial⟩ f q
theorem K8[Xr](hd:0<d)(hr:NR n)(hm:WG n Xt 0 .nil v)
  (kk:∀g',g'.h.get (g.nx+1)=Xy 1 ((AE n (C2 n)).map ci)->g.nx+2<=g'.nx->Fr g g'->Up g.nx g g'->K (.Xj (g.nx+1) 0 0 (C2 n) none) g') :
  (ah C0 d 95 [v] g).sat K g D:=by
 obtain⟨cs,rfl,hc⟩:=hm;obtain⟨b,rfl,hN⟩:=dh.1 hc;have W:=hr.l2;obtain⟨W1,W2,W3⟩:=hr.wl;have A:Wq (IO n):=⟨hr.cs,by rw[ap];omega⟩;have m:EK (IO n)=C2 n:=rfl;obtain⟨B,hB⟩:∃B,B=g.nx:=⟨_,rfl⟩;have f:∀h,Xu Xt 0 h n.XD b:=λh=>hN.tree (XH 0);have lb:∀g:G,bC .slice b g=.val (XE (n.XD.length:Int)):=λg=>(f .nil).len g;rw[yv];refine xl A1 (by simp[m7]) ?_;simp only[sz,simprocAttr,m7];unfold qk;refine bP (P:=λt' df g'=>df=[]/\g'=g.new (Xy 2 [[XE n.Xz,b]])/\∃rc,IT 0 (IO n) rc/\St t' [(1,Xq B),(3,rc)]) ?_ ?_
 ·simp only[sz,simprocAttr,<-hB];refine aG (Bj hd (f _) (by omega)) λrc e=>?_;simp only[sz,simprocAttr];exact⟨rc,e,by simp[St,sx]⟩
 rintro t df g1 ⟨rfl,a,rc,e,h1,h3,-⟩;have I:=xg (d:=d) (g:=g1) hd (e.sl g1.h);rw[gE hr.cs (by rw[ap];omega),<-W3]at I;have n1:g1.nx=B+1:=by rw[a,hB];simp
 have gB:g1.h.get B=Xy 2 [[XE n.Xz,b]]:=by rw[a,hB];simp[VO]
 have F1:Fr g g1:=by rw[a];exact Fr.new _ _
 have U1:Up B g g1:=by rw[a];exact Up.new (by omega) _
 clear a;refine bP (P:=λt' df g'=>df=[]/\g'.nx=B+3/\g'.h.get B=Xy 2 [[XE n.Xz,b]]/\g'.h.get (B+1)=Xy 1 ((List.replicate (C2 n) 0).map ci)/\g'.h.get (B+2)=Xy 1 [[.Xj (B+1) 0 0 0 none]]/\Fr g g'/\Up B g g'/\St t' [(1,Xq B),(3,rc),(4,Xq (B+2))]) ?_ ?_
 ·simp only[sz,simprocAttr,h3,I];refine Uk (by omega) λg2 m2 n2 u2=>?_;rw[n1]at m2 n2 u2 ⊢;simp only[sz,simprocAttr,n2];refine⟨?_,?_,?_,?_,by simp[St,sx,h1,h3]⟩
  ·rw[aJ,aJ,u2.1 B (by omega),gB]
  ·rw[aJ,aJ,m2]
  ·exact⟨by have:=F1.1;simp[n2];omega,λi hi=>by have:=F1.2 i hi;simp[VO,show ¬i=B+1+1 by omega,show ¬i=g2.nx by omega,u2.1 i (by omega),this]⟩
  ·exact (U1.trans (u2.mono (by omega))).trans ((Up.new (by omega) _).trans (Up.put (by omega) _))
 clear h1 h3 I n1 gB F1 U1;rintro t df g2 ⟨rfl,n2,gB,gA,gS,F2,U2,h1,h3,h4,-⟩;obtain⟨z,kz,hz⟩:=Cj (d:=d) (g:=g2) (w:=rc) (cs:=IO n) hd (e.sl g2.h);rw[cX,cX];simp only[sz,simprocAttr,h3,kz];refine Em (cs:=IO n) (w:=z) A hz (by simp[sx]) (by decide) (by decide)
  (λj g'=>g'.h.get B=Xy 2 [[XE n.Xz,b]]/\g'.h.get (B+1)=Xy 1 ((AE n j).map ci++(List.replicate (C2 n - j) 0).map ci)/\g'.h.get (B+2)=Xy 1 [[.Xj (B+1) 0 0 (AE n j).length none]]/\(∀i,i<B->g'.h.get i=g.h.get i)/\Up B g g')
  (λ_=>False) ?_ (λ_ _ _ h=>h) ?_ ?_ ?_ (λ_ h=>h.elim)
 ·rintro j g3 p q ⟨a1,a2,o,a4,r⟩;rw[n2]at q;exact⟨by rw[q.1 _ (by omega),a1],by rw[q.1 _ (by omega),a2],by rw[q.1 _ (by omega),o],λi hi=>by rw[q.1 i (by omega),a4 i hi],r.trans (q.mono (by omega))⟩
 ·exact⟨gB,by simpa [AE] using gA,by simpa [AE] using gS,λi hi=>F2.2 i (by omega),U2⟩
 ·rintro j u g3 T ⟨a1,a2,o,a4,r⟩ F hu;rw[n2]at F hu;simp only[sz,simprocAttr,oY];refine⟨Fr.refl _,λp n4 f4 u4=>?_⟩;rw[n2]at f4 u4;have E:=bm (λc hc=>(hr.cs c hc).1) (j:Int);have b1:p.h.get B=Xy 2 [[XE n.Xz,b]]:=by rw[f4 _ (by omega),a1]
  have b2:p.h.get (B+1)=Xy 1 ((AE n j).map ci++(List.replicate (C2 n - j) 0).map ci):=by rw[f4 _ (by omega),a2]
  have O:p.h.get (B+2)=Xy 1 [[.Xj (B+1) 0 0 (AE n j).length none]]:=by rw[f4 _ (by omega),o]
  have H:Xu (λi=>B+3+2<=i/\i<g3.nx) 0 p.h (EN (IO n) (j:Int)) u:=hu.far8 λi hi=>f4 i (by omega);rw[m]at T;simp only[sz,simprocAttr,oZ,h1,b1,lb];refine K7 (n:=n) (b:=b) (u:=u) (B:=B) hd hr hN E H (λi hi=>by omega) (by omega) b1 (by simp[St,S7,sx,h1,h4]) (by simp[sx]) (by simp[sx]) (by simp[sx]) ?_;rintro Y k ⟨h7,-,R,s,-⟩ F5 U5;have J:k.h.get (B+2)=Xy 1 [[.Xj (B+1) 0 0 (AE n j).length none]]:=by rw[F5.2 _ (by omega),O]
  have Q:k.h.get (B+1)=Xy 1 ((AE n j).map ci++((0:Int)::List.replicate (C2 n - (j+1)) 0).map ci):=by rw[F5.2 _ (by omega),b2,show C2 n - j=(C2 n - (j+1))+1 by omega,Y4]
  simp only[sz,simprocAttr,o9,s,J,h7];have V:B+2<k.nx:=XX (by omega) F5.1;refine MZ (x:=BJ n j) (g:=k.new (Xy 1 [[XE (BJ n j)]])) (l:=AE n j) (y:=0) (tl:=List.replicate (C2 n - (j+1)) 0) ?_ ?_ (by rw[MS];omega) ?_
  ·rw[G.new_h,aq,Q]
  ·simp only[ak,G.new_h,aY,ci];rfl
  rw[<-RA];have L:((k.new (Xy 1 [[XE (BJ n j)]])).put (B+1) (Xy 1 ((AE n (j+1)).map ci++(List.replicate (C2 n - (j+1)) 0).map ci))).h.get (B+2)=Xy 1 [[.Xj (B+1) 0 0 (AE n j).length none]]:=by rw[G.put_h,aq,G.new_h,aq,J]
  have d1:Up B k ((k.new (Xy 1 [[XE (BJ n j)]])).put (B+1) (Xy 1 ((AE n (j+1)).map ci++(List.replicate (C2 n - (j+1)) 0).map ci))):=(Up.new (by omega) _).trans (Up.put (by omega) _);have d2:∀i,B+3<=i->i<k.nx->((k.new (Xy 1 [[XE (BJ n j)]])).put (B+1) (Xy 1 ((AE n (j+1)).map ci++(List.replicate (C2 n - (j+1)) 0).map ci))).h.get i=k.h.get i:=λi h1 h2=>by rw[G.put_h,aq,G.new_h,aq]
  have d3:((k.new (Xy 1 [[XE (BJ n j)]])).put (B+1) (Xy 1 ((AE n (j+1)).map ci++(List.replicate (C2 n - (j+1)) 0).map ci))).nx=k.nx+1:=by simp
  have M:((k.new (Xy 1 [[XE (BJ n j)]])).put (B+1) (Xy 1 ((AE n (j+1)).map ci++(List.replicate (C2 n - (j+1)) 0).map ci))).h.get (B+1)=Xy 1 ((AE n (j+1)).map ci++(List.replicate (C2 n - (j+1)) 0).map ci):=by rw[G.put_h,aY]
  have N:((k.new (Xy 1 [[XE (BJ n j)]])).put (B+1) (Xy 1 ((AE n (j+1)).map ci++(List.replicate (C2 n - (j+1)) 0).map ci))).h.get B=k.h.get B:=by rw[G.put_h,aq,G.new_h,aq]
  generalize (k.new (Xy 1 [[XE (BJ n j)]])).put (B+1) (Xy 1 ((AE n (j+1)).map ci++(List.replicate (C2 n - (j+1)) 0).map ci))=g6 at L d1 d2 d3 M N ⊢;simp only[sz,simprocAttr,s,L];have U:p.nx<=k.nx:=F5.1;refine⟨by simp[d3];omega,λi h1 h2=>?_,.inl ⟨rfl,?_,?_,λi hi=>?_,?_⟩⟩
  ·rw[n2]at h1;rw[G.put_h,aq,d2 i h1 (by omega),F5.2 i h2]
  ·rw[aJ,N,F5.2 B (by omega),b1]
  ·rw[aJ,M]
  ·rw[aJ,d1.1 i hi,F5.2 i (by omega),f4 i (by omega),a4 i hi]
  ·exact ((r.trans (u4.mono (by omega))).trans (U5.mono (by omega))).trans (d1.trans (Up.put (by omega) _))
 ·rintro g' ⟨a1,a2,o,a4,r⟩ X C;rw[m,YN]at a2;rw[m,MS]at o;simp only[sz,simprocAttr,o_,h4,o];refine lB C ?_;simp only[sx,↓reduceIte];rw[hB];have e1:∀i,i<B+3->(g'.put g2.nx (.Xi false)).h.get i=g'.h.get i:=λi hi=>by rw[G.put_h,aq]
  refine kk _ ?_ (by simp;omega) ⟨by simp;omega,λi hi=>?_⟩ (by rw[<-hB];exact r.trans (Up.put (by omega) _))
  ·rw[<-hB,e1 _ (by omega),a2];simp
  ·rw[e1 i (by omega),a4 i (by omega)]
def Dr(h:zq n e=true):e.length=n.XD.length/\∀x∈e,-1<=x:=by simp only[zq,XM,X9,XQ]at h;refine⟨h.1,λx hx=>?_⟩;let⟨i,hi,he⟩:=Y7.1 hx;have:=(h.2 i (X0.2 hi)).1;rw[XJ hi,he]at this;exact this
def BK(n:Xb)(e:List Int)(w:Nat):Bool:=yn (EN (IO n) (w:Int)) e
def xI(h:NR n){p:Nat->Bool}(hj:j<=1024):0<=CW n p j/\CW n p j<=171992678400000000:=by have:=ut h p j;omega
def Pm(g:G)(o o':Xh):Fr g ((g.new o).put g.nx o'):=⟨by simp,λi hi=>by simp[VO,show ¬i=g.nx by omega]⟩
def wT:xM n e=0↔zo n=true/\zq n e=true:=by rw[xM];cases zo n<;>cases zq n e<;>simp
structure GvJ (g0:G) (q:Nat) (s:Int) (h:H):Prop where
 fr:∀i,i<g0.nx->i≠q->h.get i=g0.h.get i
 hq:h.get q=Xy 1 [[XE s]]
section
variable {n:Nat}{E:Ky->En}
structure ND where
 c:Nat->Int
 P:Nat->List Int
 m:Nat->Nat
 R:Nat->Nat->List Int
 o:Nat->Nat
def LN(n:Nat)(D:ND):Ky->Prop:=λk=>k=(0,0)\/∃i q,k=(i+1,q)/\i<n/\q<2+D.o i
def LN.z{D:ND}:LN n D (0,0):=.inl rfl
def LN.s{D:ND}(h:i<n)(hq:q<2+D.o i):LN n D (i+1,q):=.inr ⟨i,q,rfl,h,hq⟩
def LN.p{D:ND}(h:i<n):LN n D (i+1,0):=LN.s h (by omega)
def LN.r{n:Nat}{D:ND}{i:Nat}(h:i<n):LN n D (i+1,1):=LN.s h (by omega)
def im(D:ND)(V:Ky->AV)(i:Nat):List AV:=[XE (D.c i),V (i+1,0),V (i+1,1)]
def KL(V:Ky->AV)(i r:Nat):List AV:=[V (i+1,2+r)]
structure BN (K n:Nat) (V:Ky->AV) (E:Ky->En) (D:ND):Prop where
 ns:E (0,0)=.sl 3 ((List.range n).map (im D V))
 ps:∀i,i<n->E (i+1,0)=.sl 1 ((D.P i).map ci)/\(D.P i).length<=K
 rs:∀i,i<n->E (i+1,1)=.sl 1 ((List.range (D.m i)).map (KL V i))/\D.m i<=K
 rr:∀i r,i<n->r<D.m i->(D.R i r).length<=K/\((r<D.o i/\E (i+1,2+r)=.sl 1 ((D.R i r).map ci))\/Xu Xt 0 .nil (D.R i r) (V (i+1,2+r)))
def ND.node(D:ND)(i:Nat):Node:=⟨D.c i,D.P i,(List.range (D.m i)).map (D.R i)⟩
def xG(h:Own g b v 1 (l.map ci))(hl:l.length<2^63)(hp:∀i,b<=i->P i):Xu P 0 g.h l v :=Own.sl (α:=Int) h hl (VJ (λa=>aK.2 rfl) _) λi hi=>hp i (h.lt hi).1
def BN.rows{K:Nat}{D:ND}{L:Ky->Prop}(hB:BN K n V E D)(hH:Hp g b L V E)(hL:∀k,LN n D k->L k)(hK:K<=1000000)(hi:i<n):Xu (λj=>b<=j) 0 g.h ((List.range (D.m i)).map (D.R i)) (V (i+1,1)):=by
 obtain⟨h1,h2⟩:=hB.rs i hi;have ho:=hH.own (hL _ (LN.r hi)) h1;refine Own.sl (α:=List Int) ho (by simp;omega) (As λr hr=>?_) λj hj=>(ho.lt hj).1;have hr:=X0.1 hr;obtain⟨h4,h3⟩:=hB.rr i r hi hr;rcases h3 with⟨h5,h3⟩|h3
 ·exact bo.2 ⟨_,rfl,xG (hH.own (hL _ (LN.s hi (by omega))) h3) (by omega) λ_ h=>h⟩
 ·exact bo.2 ⟨_,rfl,(h3.tree (h':=g.h) (XH 0)).wd λ_ h=>h.elim⟩
def Hp.off{κ:Type} [DecidableEq κ]{L:κ->Prop}{V:κ->AV}{E:κ->En}{k:κ}{x:AV}(h:Hp g b L V E)(hk:¬L k):Hp g b L (ups V k x) E:=by have ne:∀j,L j->j≠k:=λj hj e=>hk (by rw[<-e];exact hj);exact⟨λj hj=>by rw[ae (ne j hj)];exact h.ok j hj,λj l hj hl hne id=>by rw[ae (ne j hj),ae (ne l hl)];exact h.sep j l hj hl hne id,h.nx⟩
def BN.pars{K:Nat}{D:ND}{L:Ky->Prop}(hB:BN K n V E D)(hH:Hp g b L V E)(hL:∀k,LN n D k->L k)(hK:K<=1000000)(hi:i<n):Xu (λj=>b<=j) 0 g.h (D.P i) (V (i+1,0)):=by let⟨h1,h2⟩:=hB.ps i hi;exact xG (hH.own (hL _ (LN.p hi)) h1) (by omega) λ_ h=>h
def BN.XD{K:Nat}{D:ND}{L:Ky->Prop}(hB:BN K n V E D)(hH:Hp g b L V E)(hL:∀k,LN n D k->L k)(hK:K<=1000000)(hn:n<=1000000):Xu (λj=>b<=j) 0 g.h ((List.range n).map D.node) (V (0,0)):=by have ho:=hH.own (hL _ LN.z) hB.ns;refine Own.sl (α:=Node) ho (by simp;omega) (As λi hi=>?_) λj hj=>(ho.lt hj).1;have hi:=X0.1 hi;exact cE.2 ⟨_,_,rfl,hB.pars hH hL hK hi,hB.rows hH hL hK hi⟩
def q_{α:Type}(f:Nat->α)(x:α)(hi:i<n):((List.range n).map f).set i x=(List.range n).map (ups f i x):=by
 refine aaX (by simp) λj h1 h2=>?_;rw[List.getElem_set]
 by_cases e:i=j
 ·subst e;simp[au]
 ·rw[XS e];simp[ae (Y5 e)]
def iZ{α:Type}(f:Nat->α)(hi:i<n):((List.range n).map f)[i]?=some (f i):=by simp[hi]
def D6{D D':ND}{V':Ky->AV}{row:List AV}(h0:row=im D' V' i)(h:∀j,j<n->j≠i->im D V j=im D' V' j):(List.range n).map (ups (im D V) i row)=(List.range n).map (im D' V'):=by
 refine YZ λj k=>?_;have k:=X0.1 k
 by_cases e:j=i
 ·subst e;rw[au,h0]
 ·rw[ae e,h j k e]
end
section
variable {C:Nat}
def RE(gr c:Int)(l:List Int):Prop:=(l.length:Int)=c/\(∀y∈l,0<=y/\y<=gr)/\l.sum=gr
def VB(gr:Int)(C:Nat):VS:=λP k h v=>∃l:List Int,(l.length=C/\RE gr C l)/\One l P k h v
def CX(gr s x:Int):Int:=gr*x / s
def Ms(gr s:Int):CX gr s 0=0:=by simp[CX]
def KJ{gr s:Int}(hs:0<=s)(hg:0<=gr):∀l:List Int,(∀x∈l,0<=x/\x<=s)->0<=(l.map (CX gr s)).sum/\(l.map (CX gr s)).sum*s<=gr*l.sum
 |[],_=>by simp
 | x::l,h=>by
  have ih:=KJ hs hg l λy hy=>h y (Yw _ hy);have hx:=h x (YQ ..);have h1:0<=CX gr s x:=aa4 (Zg hg hx.1) hs;have h2:CX gr s x*s<=gr*x:=by
   by_cases e:s=0
   ·have:x=0:=by omega
    subst this;simp[CX,e]
   ·exact Int.ediv_mul_le _ e
  simp only[Z7,ZH];refine⟨by omega,?_⟩;rw[Zz,R6];omega
theorem Cr:∀(l:List Int),(∀x∈l,0<=x)->0<=l.sum/\∀x∈l,x<=l.sum
 |[],_=>by simp
 | a::l,h=>by
  have ih:=Cr l λy hy=>h y (Yw _ hy);have ha:=h a (YQ ..);simp only[ZH];refine⟨by omega,λx hx=>?_⟩;rcases Yh.1 hx with rfl|hx
  ·omega
  ·have:=ih.2 x hx;omega
def MH:∀(l:List Int) (i:Nat) (x y:Int),l[i]?=some x->(l.set i y).sum=l.sum - x+y
 |[],i,x,y,h=>by simp at h
 | a::l,0,x,y,h=>by simp at h;subst h;simp only[Zt,ZH];omega
 | a::l,i+1,x,y,h=>by rw[aaa,ZH,ZH,MH l i x y (by simpa using h)];omega
theorem SX{s:Int}{la:Nat}(hg:0<=gr)(hX:∀x∈X,0<=x/\x<=s)(hs:s=X.sum)(hla:la<X.length){x:Int}(hx:(X.map (CX gr s))[la]?=some x):RE gr X.length ((X.map (CX gr s)).set la (x+(gr - (X.map (CX gr s)).sum)))/\0<=x+(gr - (X.map (CX gr s)).sum)/\x+(gr - (X.map (CX gr s)).sum)<=gr:=by
 have b:0<=s:=by rw[hs];exact (Cr X λx hx=>(hX x hx).1).1
 have hq:=KJ b hg X hX;have d:(X.map (CX gr s)).sum<=gr:=by
  by_cases e:s=0
  ·have h0:∀x∈X,x=0:=λx hx=>by have:=hX x hx;omega
   have:X.map (CX gr s)=List.replicate X.length 0:=by rw[List.eq_replicate_iff];refine⟨by simp,λy hy=>?_⟩;obtain⟨z,hz,rfl⟩:=Ys.1 hy;rw[h0 z hz,Ms]
   rw[this];have:∀n:Nat,(List.replicate n (0:Int)).sum=0:=λn=>by induction n with
    |zero=>rfl
    |succ n ih=>rw[Y4,ZH,ih];rfl
   rw[this];exact hg
  ·have h1:=hq.2;rw[<-hs]at h1;exact Int.le_of_mul_le_mul_right h1 (by omega)
 have c:∀y∈X.map (CX gr s),0<=y:=λy hy=>by obtain⟨z,hz,rfl⟩:=Ys.1 hy;exact aa4 (Zg hg (hX z hz).1) b
 have f:=c x (XL hx);have k:((X.map (CX gr s)).set la (x+(gr - (X.map (CX gr s)).sum))).sum=gr:=by rw[MH _ _ _ _ hx];omega
 have a:∀y∈(X.map (CX gr s)).set la (x+(gr - (X.map (CX gr s)).sum)),0<=y:=λy hy=>by
  rcases Zy hy with h|rfl
  ·exact c y h
  ·omega
 have hb:=Cr _ a;rw[k]at hb;refine⟨⟨by simp,λy hy=>⟨a y hy,hb.2 y hy⟩,k⟩,by omega,hb.2 _ ?_⟩;exact List.mem_set (by simpa using hla) _
structure Rw1 (gr:Int) (nv u:AV) (C F j:Nat) (t:T) (g:G):Prop where
 st:St t [(0,XE gr),(1,XE (C:Int)),(2,nv),(3,XE (F:Int)),(9,u)]
 hX:∃(X:List Int) (s:Int),Xs t 10=XE s/\X.length=C/\Own g 0 u 1 (X.map ci)/\(∀x∈X,0<=x/\x<=7)/\s=(X.take j).sum/\0<=s/\s<=7*j
def UD[Xr]{F kk:Nat}{nv:AV}{l:List UInt8}(hC:C<=3)(hF:F<=1000)(hl:Xu Xt kk .nil l nv)(h0:Rw1 gr nv u C F 0 t g)(h11:Xs t 11=XE 0)
  (fin:∀t g,Rw1 gr nv u C F C t g->Q (.exit 0) t [] g):VY (wp C0 d none oJ) Q t [] g:=by
 obtain⟨nr,E,r2,Z,r4⟩:=hl.all;have E:∀h',ak h' 1 nv=some nr:=E;have S:=hl.1;have ll:=hl.len;simp only[oJ,wj];refine aU C (by omega) (λj t df g=>df=[]/\Rw1 gr nv u C F j t g) ⟨rfl,h0⟩ h11 (by decide) ?_ ?_ ?_ ?_
 ·rintro j t df g v s (rfl|rfl|rfl) ⟨a1,⟨b1,b2,L,M,N,-⟩,X,s',c1,O⟩<;>exact⟨a1,by simp[St,sx,b1,b2,L,M,N],X,s',by simp[sx,c1],O⟩
 ·rintro j t df g R ⟨rfl,⟨h0,h1,h2,h3,h9,-⟩,X,s,Xp,hX⟩ h11;simp only[sz,simprocAttr,h11,h1];exact⟨by simp[St,sx,h0,h1,h2,h3,h9],X,s,by simp[sx,Xp],hX⟩
 ·rintro j t df g R ⟨rfl,⟨h0,h1,h2,h3,h9,-⟩,X,s,Xp,q,hX,o,A,U,V⟩ h11;refine jR (P:=λt' df g'=>df=[]/\∃(X':List Int) (x':Int),St t' [(0,XE gr),(1,XE (C:Int)),(2,nv),(3,XE (F:Int)),(9,u),(10,XE s),(11,XE (j:Int))]/\X'.length=C/\Own g' 0 u 1 (X'.map ci)/\(∀x∈X',0<=x/\x<=7)/\X'[j]?=some x'/\∀i,i≠j->X'[i]?=X[i]?) ?_ ?_
  ·have p:X[j]?=some X[j]:=XJ (by omega);simp only[sz,simprocAttr,h2,ll];refine bk (λhb=>?_) (λhb=>?_)
   ·have hb:0<l.length:=by simpa using hb
    have w1:IntKind.wrap .i64 ((F:Int)+(j:Int))=((F+j:Nat):Int):=by rw[an];simp
    have J:=Hh (x:=F+j) (y:=l.length) hb;have c:=YX (F+j) hb;generalize (F+j) % l.length=a at J c;obtain⟨y,Y,-,-⟩:=af (l:=l) (j:=a) c;obtain⟨row,K,z2⟩:=Z a y Y;rw[ea.1 z2]at K;have hlt:a<nr.length:=by omega
    have q2:=ef .u8 (a:=(y.toNat:Int)) (b:=8) (by omega) (by omega);have B:0<=(y.toNat:Int) % 8:=aa5 _ (by decide);have D:(y.toNat:Int) % 8<8:=aaF _ (by decide);have w2:IntKind.wrap .i64 ((y.toNat:Int) % 8)=(y.toNat:Int) % 8:=an;generalize (y.toNat:Int) % 8=z at q2 B D w2;have H:j<(X.map ci).length:=by simp;omega
    have I:(X.map ci)[j]?=some (ci X[j]):=by rw[XK,p];rfl
    have rX:=hX.rows;simp only[sz,simprocAttr,h2,h3,h9,h11,ll,w1,J,E,hlt,K,q2,w2,rX,H];refine bF (v:=u) (sz:=1) (n:=1) (i:=j) (off:=0) (x:=XE z) (row':=ci z) hX I rfl rfl rfl λg4 hu4 n4 f4=>?_;rw[<-YS]at hu4;simp only[sx,sy];refine⟨X.set j z,z,by simp[St,sx,h0,h1,h2,h3,h9,Xp,h11],by simp[q],hu4,λx hx=>?_,by rw[Zv (by omega)],λi hi=>by rw[aag (Y5 hi)]⟩;rcases Zy hx with h|rfl
    ·exact o x h
    ·omega
   ·simp only[sx,sy];exact⟨X,X[j],by simp[St,sx,h0,h1,h2,h3,h9,Xp,h11],q,hX,o,p,λ_ _=>rfl⟩
  clear h0 h1 h2 h3 h9 Xp h11 hX;rintro t df g ⟨rfl,X',x',⟨h0,h1,h2,h3,h9,Xp,h11,-⟩,r,m,k,f,w⟩;have H:j<(X'.map ci).length:=by simp;omega
  have I:(X'.map ci)[j]?=some (ci x'):=by rw[XK,f];rfl
  have rX:=m.rows;have W:=k x' (XL f);have w1:IntKind.wrap .i64 (s+x')=s+x':=an;simp only[sz,simprocAttr,wi,Xp,h9,h11,rX,H,I,ci,w1];have ht:X'.take j=X.take j:=Zd λi=>by
   by_cases e:i<j
   ·rw[Yv e,Yv e,w i (by omega)]
   ·rw[Yg (by simp;omega),Yg (by simp;omega)]
  refine⟨by simp[St,sx,h0,h1,h2,h3,h9],X',s+x',by simp[sx],r,m,k,?_,by omega,by omega⟩;rw[aaq,f,ht,aan,<-A];simp
 ·rintro t df g ⟨rfl,h⟩;exact fin t g h
structure Rw2 (gr s:Int) (u:AV) (C:Nat) (X:List Int) (j:Nat) (t:T) (g:G):Prop where
 st:St t [(0,XE gr),(1,XE (C:Int)),(9,u),(10,XE s)]
 hX:∃(la:Nat),Xs t 12=XE (gr - ((X.take j).map (CX gr s)).sum)/\Xs t 13=XE (la:Int)/\la<C/\Own g 0 u 1 (((X.take j).map (CX gr s)++X.drop j).map ci)
def SY{s:Int}(h:j<X.length):((X.take j).map (CX gr s)++X.drop j).set j (CX gr s X[j])=(X.take (j+1)).map (CX gr s)++X.drop (j+1):=by
 have hl:((X.take j).map (CX gr s)).length=j:=by simp;omega
 rw[Y3 _ _ (by omega),hl,YN,YY h,Zt,X4 h,YV,YA]
 rfl
def UE[Xr]{s:Int}(hC:C<=3)(hg:0<=gr/\gr<=60)(hXl:X.length=C)(hXb:∀x∈X,0<=x/\x<=7/\x<=s)(h0:Rw2 gr s u C X 0 t g)(h14:Xs t 14=XE 0)
  (fin:∀t g,Rw2 gr s u C X C t g->Q (.exit 2) t [] g):VY (wp C0 d none oO) Q t [] g:=by
 simp only[oO,wm];refine aU C (by omega) (λj t df g=>df=[]/\Rw2 gr s u C X j t g) ⟨rfl,h0⟩ h14 (by decide) ?_ ?_ ?_ ?_
 ·rintro j t df g v s (rfl|rfl|rfl) ⟨a1,⟨b1,b2,N,O,-⟩,la,c1,K,R⟩<;>exact⟨a1,by simp[St,sx,b1,b2,N,O],la,by simp[sx,c1],by simp[sx,K],R⟩
 ·rintro j t df g H ⟨rfl,⟨h0,h1,h9,Xp,-⟩,la,k,c,hX⟩ h14;simp only[sz,simprocAttr,h14,h1];exact⟨by simp[St,sx,h0,h1,h9,Xp],la,by simp[sx,k],by simp[sx,c],hX⟩
 ·rintro j t df g H ⟨rfl,⟨h0,h1,h9,Xp,-⟩,la,k,c,m,hX⟩ h14;have f:j<X.length:=by omega
  obtain⟨J,b1,b2⟩:=hXb X[j] (Zi f);have E:((X.take j).map (CX gr s)++X.drop j).length=C:=by simp;omega
  have r:((X.take j).map (CX gr s)++X.drop j)[j]?=some X[j]:=by rw[X_ (by simp;omega)];simp[show min j X.length=j by omega,f]
  have D:j<(((X.take j).map (CX gr s)++X.drop j).map ci).length:=by rw[XN,E];exact H
  have p:(((X.take j).map (CX gr s)++X.drop j).map ci)[j]?=some (ci X[j]):=by rw[XK,r];rfl
  have rX:=hX.rows;have F:0<=gr*X[j]:=Zg hg.1 J;have L:gr*X[j]<=60*7:=Z_ hg.2 b1 J (by decide);have o:=SY (gr:=gr) (s:=s) f;have B:(X.take (j+1)).map (CX gr s)=(X.take j).map (CX gr s)++[CX gr s X[j]]:=by rw[X4 f,YV];rfl
  have W:=KJ (gr:=gr) (s:=s) (by omega) hg.1 (X.take j) λy hy=>by have:=hXb y (Ym hy);omega
  have A:∀x∈X,0<=CX gr s x/\CX gr s x<=420:=λx hx=>by obtain⟨c0,c1,K⟩:=hXb x hx;have h1:0<=gr*x:=Zg hg.1 c0;have h2:gr*x<=60*7:=Z_ hg.2 c1 c0 (by decide);refine⟨aa4 h1 (by omega),?_⟩;have:=Int.ediv_le_self (b:=s) h1;unfold CX;omega
  have I:∀l:List Int,(∀x∈l,x∈X)->(l.map (CX gr s)).sum<=420*l.length:=λl=>by
   induction l with
   |nil=>intro _;simp
   | cons a l ih =>
    intro h;have h1:=A a (h a (YQ ..));have h2:=ih λy hy=>h y (Yw _ hy);simp only[Z7,ZH,Yp]
    push_cast
    omega
  have V:=I (X.take j) λx hx=>Ym hx;have M:(X.take j).length<=3:=by simp;omega
  have U:=A X[j] (Zi f);refine jR (P:=λt' df g'=>df=[]/\∃(la':Nat),St t' [(0,XE gr),(1,XE (C:Int)),(9,u),(10,XE s),(12,XE (gr - ((X.take j).map (CX gr s)).sum)),(13,XE (la':Int)),(14,XE (j:Int))]/\la'<C/\Own g' 0 u 1 (((X.take (j+1)).map (CX gr s)++X.drop (j+1)).map ci)) ?_ ?_
  ·simp only[sz,simprocAttr,h9,h14,rX,D,p,ci];refine bk (λhb=>?_) (λhb=>?_)
   ·have hb:0<X[j]:=by simpa using hb
    have w1:IntKind.wrap .i64 (gr*X[j])=gr*X[j]:=an;have Y:cL .quo (XE (gr*X[j])) (XE s)=.val (XE (CX gr s X[j])):=zf (x:=gr*X[j]) (y:=s) F (by omega) (by omega);simp only[sz,simprocAttr,h0,h9,Xp,h14,rX,D,p,ci,w1,Y];refine bF (v:=u) (sz:=1) (n:=1) (i:=j) (off:=0) (x:=XE (CX gr s X[j])) (row':=ci (CX gr s X[j])) hX p rfl rfl rfl λg4 hu4 n4 f4=>?_;rw[<-YS,o]at hu4;simp only[sz,simprocAttr,h14];exact⟨j,by simp[St,sx,h0,h1,h9,Xp,k,h14],by omega,hu4⟩
   ·have hb:X[j]=0:=by
     have:¬0<X[j]:=by simpa using hb
     omega
    simp only[sx,sy];refine⟨la,by simp[St,sx,h0,h1,h9,Xp,k,c,h14],m,?_⟩;rw[<-o,hb,Ms,<-hb];have:((X.take j).map (CX gr s)++X.drop j).set j X[j]=(X.take j).map (CX gr s)++X.drop j:=by
     refine Zd λi=>?_
     by_cases e:j=i
     ·subst e;rw[Zv (by omega),r]
     ·rw[aag e]
    rw[this];exact hX
  clear h0 h1 h9 Xp k c h14 hX rX m D p;rintro t df g ⟨rfl,la',⟨h0,h1,h9,Xp,k,c,h14,-⟩,m,q⟩;have z:((X.take (j+1)).map (CX gr s)++X.drop (j+1)).length=C:=by simp;omega
  have w:((X.take (j+1)).map (CX gr s)++X.drop (j+1))[j]?=some (CX gr s X[j]):=by rw[XW (by simp;omega),B,X_ (by simp;omega)];simp[show min j X.length=j by omega]
  have D:j<(((X.take (j+1)).map (CX gr s)++X.drop (j+1)).map ci).length:=by rw[XN,z];exact H
  have p:(((X.take (j+1)).map (CX gr s)++X.drop (j+1)).map ci)[j]?=some (ci (CX gr s X[j])):=by rw[XK,w];rfl
  have rX:=q.rows;have w1:IntKind.wrap .i64 (gr - ((X.take j).map (CX gr s)).sum - CX gr s X[j])=gr - ((X.take (j+1)).map (CX gr s)).sum:=by rw[B,aan,an];simp;omega
  simp only[sz,simprocAttr,wk,k,h9,h14,rX,D,p,ci,w1];exact⟨by simp[St,sx,h0,h1,h9,Xp],la',by simp[sx],by simp[sx,c],m,q⟩
 ·rintro t df g ⟨rfl,h⟩;exact fin t g h
def UF[Xr]{F kk:Nat}{nv:AV}{l:List UInt8}(hd:0<d)(hC:1<=C/\C<=3)(hF:F<=1000)(hg:0<=gr/\gr<=60)(hl:Xu Xt kk .nil l nv) :
  ∃r,ah C0 d 50 [XE gr,XE (C:Int),nv,XE (F:Int)] g=.val r/\VB gr C Xt 0 .nil r:=by
 rw[WL];refine aP GK (xs:=[XE gr,XE (C:Int),nv,XE (F:Int)]) (by simp only[aD,mc d (hl.tree (h':=g.h) (XH _)),cP 0]) (by simp[wh]) (qw λo=>aI _) (by decide) hd ?_;simp only[sz,wh];refine l_ (b:=0) (n:=C) (by unfold aH;omega) (by unfold aH;omega) (Yi _) λu g1 hu n1 f1 vu=>?_;simp only[sz];refine UD (gr:=gr) (nv:=nv) (u:=u) (C:=C) (F:=F) hC.2 hF hl ⟨by simp[St,sx],List.replicate C 0,0,by simp[sx],by simp,by simpa [ci] using hu,λx hx=>by rw[(ZT.1 hx).2];decide,by simp,by omega,by omega⟩ (by simp[sx]) ?_;rintro t g2 ⟨⟨h0,h1,h2,h3,h9,-⟩,X,s,Xp,c,hX,k,a,q,w⟩;rw[XZ (by omega)]at a;have f:=Cr X λx hx=>(k x hx).1;simp only[sz,wo,h0];refine UE (gr:=gr) (s:=s) (u:=u) (C:=C) (X:=X) hC.2 hg c (λx hx=>⟨(k x hx).1,(k x hx).2,by rw[a];exact f.2 x hx⟩) ⟨by simp[St,sx,h0,h1,h9,Xp],0,by simp[sx],by simp[sx],by omega,by simpa using hX⟩ (by simp[sx]) ?_;clear h0 h1 h2 h3 h9 Xp hX;rintro t g3 ⟨⟨h0,h1,h9,Xp,-⟩,la,e,j,p,hX⟩;rw[XZ (by omega)]at e hX;rw[abs (by omega),X6]at hX;obtain⟨x,hx⟩:∃x,(X.map (CX gr s))[la]?=some x:=⟨_,XJ (by simp;omega)⟩;obtain⟨f1,f2,z⟩:=SX (gr:=gr) (s:=s) (X:=X) (la:=la) hg.1 (λx hx=>⟨(k x hx).1,by rw[a];exact f.2 x hx⟩) a (by omega) hx;have y:la<((X.map (CX gr s)).map ci).length:=by simp;omega
 have m:((X.map (CX gr s)).map ci)[la]?=some (ci x):=by rw[XK,hx];rfl
 have rX:=hX.rows;have w1:IntKind.wrap .i64 (x+(gr - (X.map (CX gr s)).sum))=x+(gr - (X.map (CX gr s)).sum):=an;simp only[sz,simprocAttr,wn,h9,j,e,rX,y,m,ci,w1];refine bF (v:=u) (sz:=1) (n:=1) (i:=la) (off:=0) (x:=XE (x+(gr - (X.map (CX gr s)).sum))) (row':=ci (x+(gr - (X.map (CX gr s)).sum))) hX m rfl rfl rfl λg4 hu4 n4 f4=>?_;rw[<-YS]at hu4;simp only[sz,h9];exact⟨λ_=>True,_,⟨by simp[c],by rw[<-c];exact f1⟩,hu4.ints (by simp;omega)⟩
end
end
end Hx
