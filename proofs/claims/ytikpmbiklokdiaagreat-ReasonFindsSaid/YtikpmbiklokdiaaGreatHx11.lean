/- A part of the proof. -/
import Derived.Test.YtikpmbiklokdiaaGreatHx10
set_option linter.all false
set_option maxRecDepth 20000
set_option maxHeartbeats 8000000
namespace Hx
open Go
noncomputable section
variable {g g0:G}{d k i q b k2 j:Nat}{v w pa ra u:AV}{n:Zv}{l ps:List Int}{t:T}{x:Node}{Q:QT}{P2:Nat->Prop}{Zw:List (List Int)}{K:AV->G->Prop}{D:ZU->Prop}{h:H}{gr p:Int}
theorem TJ[Z0]{P:Nat->Prop}{p:List Int}(hd:0<d)(hv:ZT P k g.h l v)(hw:ZT P2 k2 g.h p w)(hp:p.length<1073741824)(hin:∀x∈p,0<=x/\x<l.length) :
  ∃r,ae C0 d 72 [v,w] g=.val r/\IT 0 (G3 l p) r:=by
 obtain⟨v',e1,y⟩:=aZ hv d;obtain⟨w',o,i⟩:=aZ hw d;rw[Zn];refine aI KO (xs:=[v',w']) (by simp only[aD,e1,o]) (by simp[Ae]) (aE _) (by decide) hd ?_;simp only[sz,simprocAttr,Ae];have n2:=λg=>(i .nil).len g;have ra:∀h',ak h' 1 v'=some (l.map ci):=λh'=>(y h').ints;have rb:∀h',ak h' 1 w'=some (p.map ci):=λh'=>(i h').ints;refine ro (v:=w') (m:=p.length) (by omega) n2 (λj t df g=>df=[]/\St t [(0,v')]/\∃u,ZY t 5=u/\Own g 0 u 1 ((G3 l (p.take j)).map ci)) ⟨rfl,by simp[St,sx],_,rfl,.inl ⟨by simp[sx],by simp[G3]⟩⟩ (by simp[sx]) (by simp[sx]) (by decide)
  (by rintro j t df g v s (rfl|rfl|rfl|rfl|rfl|rfl|rfl)<;>simp[sx,St]) ?_ ?_
 ·rintro j t df g1 f ⟨rfl,⟨h0,-⟩,u,h5,hu⟩ e h1;obtain⟨x,hx,b,hm⟩:=ah f;obtain⟨c,q⟩:=hin x hm;obtain⟨n,rfl⟩:=Wu c;have a:n<l.length:=by omega
  simp only[sz,simprocAttr,ra,rb,h0,h1,h5,e,hx,f,a,Ju,Zy,PW,ci,Zq a];refine aP (new:=[ci l[n]]) (hu.step (Fr.new _ _)) (by simp[sx,sy,ci]) (by simp) (by simp[aQ,G3];omega) λv2 g2 hv2 n2 f2 _ l2=>?_;simp only[sz,simprocAttr,h0,h1,e,St];refine⟨_,rfl,?_⟩;rw[b];simpa [a,ci,G3] using hv2
 ·rintro t df g1 ⟨rfl,⟨h0,-⟩,u,h5,hu⟩ -;rw[Xo]at hu;simp only[sz,simprocAttr,zq,h5];exact⟨_,hu.ints (by simp[G3];omega)⟩
theorem CD[Z0]{P:Nat->Prop}(hd:0<d)(hm:Zl n P k g.h v)(hn:n.Z7.length<1073741824) :
  ∃r,ae C0 d 73 [v] g=.val r/\IT 0 (IO n) r:=by
 obtain⟨v',e,cs,rfl,hc⟩:=nC (cH n) (by decide) d hm;obtain⟨b,rfl,hN⟩:=fY.1 hc;obtain⟨rows,l,w,p,q⟩:=hN.all;have l:∀h',ak h' 3 b=some rows:=l;rw[Zn];refine aI Fp (xs:=[.agg [Z_ n.Z8,b]]) (by simp only[aD,e]) (by simp[rY]) (aE _) (by decide) hd ?_;simp only[sz,simprocAttr,rY,vJ,tx];refine bh n.Z7.length (by omega) (λj t df g=>df=[]/\ZY t 1=ZZ 0/\g.h.get 0=Z4 2 [[Z_ n.Z8,b]]/\1<=g.nx/\∃u,ZY t 3=u/\Own g 1 u 1 (((n.Z7.take j).map (·.Z5)).map ci))
  ⟨rfl,by simp[sx],by simp[sx],by simp[sx],_,rfl,.inl ⟨by simp[sx],rfl⟩⟩ (by simp[sx]) (by decide)
  (by rintro j t df g v s (rfl|rfl|rfl)<;>simp[sx]) ?_ ?_ ?_
 ·rintro j t df g m ⟨rfl,h1,hg,a,u,c,hu⟩ h4;simp only[sz,simprocAttr,h1,h4,hg,hN.len];exact⟨a,u,c,hu⟩
 ·rintro j t df g m ⟨rfl,h1,hg,a,u,c,hu⟩ h4;obtain⟨x,hx,i,hm⟩:=ah m;obtain⟨row,q1,q2⟩:=p j x hx;obtain⟨a',b',rfl,o,-⟩:=cM.1 q2;have hlt:j<rows.length:=by omega
  have f:=q (by omega);simp only[sz,simprocAttr,h1,c,h4,hg,l,hlt,q1,f];refine aP (new:=[ci x.Z5]) (hu.step (Fr.new _ _)) (by simp[sx,sy,ci]) (by simp) (by simp[aQ];omega) λv2 g2 hv2 n2 f2 _ l2=>?_;simp only[sz,simprocAttr,h1,h4];refine⟨?_,?_,_,rfl,?_⟩
  ·rw[f2 0 (by simp) (λe=>by have:=(hu.lt e).1;omega),G.new_h,aF,hg]
  ·simp at n2;omega
  ·rw[i];simpa [ci] using hv2
 ·rintro t df g ⟨rfl,h1,hg,a,u,c,hu⟩;rw[Xo]at hu;simp only[sz,simprocAttr,tz,c];exact⟨_,hu.ints (by simp;omega)⟩
theorem bz4[Z0]{P:Nat->Prop}(hd:0<d)(hm:Zl n P k g.h v)(hn:n.Z7.length<1073741824)(hp:∀x∈n.Z7,∀y∈x.Z9,0<=y/\y<2^64) :
  ∃r,ae C0 d 125 [v] g=.val r/\UT 0 (ET n) r:=by
 obtain⟨v',e,cs,rfl,hc⟩:=nC (cH n) (by decide) d hm;obtain⟨b,rfl,hN⟩:=fY.1 hc;obtain⟨rows,p,F,D,E⟩:=hN.all;have p:∀h',ak h' 3 b=some rows:=p;rw[Zn];refine aI y8 (xs:=[.agg [Z_ n.Z8,b]]) (by simp only[aD,e]) (by simp[js]) (aE _) (by decide) hd ?_;simp only[sz,simprocAttr,js,m9];refine bh n.Z7.length (by omega) (λj t df g=>df=[]/\ZY t 1=ZZ 0/\g.h.get 0=Z4 2 [[Z_ n.Z8,b]]/\1<=g.nx/\∃u,ZY t 3=u/\Own g 1 u 1 (((n.Z7.take j).map λx=>Dn x.Z9).map cu))
  ⟨rfl,by simp[sx],by simp[sx],by simp[sx],_,rfl,.inl ⟨by simp[sx],rfl⟩⟩ (by simp[sx]) (by decide)
  (by rintro j t df g v s (rfl|rfl|rfl)<;>simp[sx]) ?_ ?_ ?_
 ·rintro j t df g B ⟨rfl,h1,hg,f,u,a,hu⟩ h4;simp only[sz,simprocAttr,h1,h4,hg,hN.len];exact⟨f,u,a,hu⟩
 ·rintro j t df g B ⟨rfl,h1,hg,f,u,a,hu⟩ h4;obtain⟨x,hx,z,hm⟩:=ah B;obtain⟨row,q1,q2⟩:=D j x hx;obtain⟨a',b',rfl,c,-⟩:=cM.1 q2;have hlt:j<rows.length:=by omega
  have l:=E (by omega);simp only[sz,simprocAttr];refine bh x.Z9.length c.1 (λi t df g'=>df=[]/\St t [(1,ZZ 0),(4,Z_ j),(3,u),(5,ZW (Dn (x.Z9.take i):Int))]/\g'=g)
   ⟨rfl,by simp[sx,St,Dn,h1,a,h4],rfl⟩ (by simp[sx]) (by decide)
   (by rintro j t df g v s (rfl|rfl|rfl)<;>simp[sx,St]) ?_ ?_ ?_
  ·rintro i t df g' hi ⟨rfl,⟨h1,h4,a,h5,-⟩,rfl⟩ q;simp only[sz,simprocAttr,h1,a,h4,h5,q,hg,p,hlt,q1,l,c.len,St]
  ·rintro i t df g' hi ⟨rfl,⟨h1,h4,a,h5,-⟩,rfl⟩ q;obtain⟨y,C,m,w⟩:=ah hi;obtain⟨o,A⟩:=hp x hm y w;obtain⟨n,rfl⟩:=Wu o;simp only[sz,simprocAttr,h1,a,h4,h5,q,hg,p,hlt,q1,l,(c.tree (h':=g'.h) (ZV _)).ints,hi,C,Ju,Zy,PW,ci,du o A,mU,BQ _ _ (yE _) (wG _),St];rw[m,In];rfl
  ·rintro t df g' ⟨rfl,⟨h1,h4,a,h5,-⟩,rfl⟩;rw[Xo]at h5;simp only[sz,simprocAttr,lO,a,h5];refine aP (new:=[cu (Dn x.Z9)]) (hu.step (Fr.new _ _)) (by simp[sx,sy,cu]) (by simp) (by simp[aQ];omega) λv2 g2 hv2 n2 f2 _ l2=>?_;simp only[sz,simprocAttr,h1,h4];refine⟨?_,?_,_,rfl,?_⟩
   ·rw[f2 0 (by simp) (λe=>by have:=(hu.lt e).1;omega),G.new_h,aF,hg]
   ·simp at n2;omega
   ·rw[z];simpa [cu] using hv2
 ·rintro t df g ⟨rfl,h1,hg,f,u,a,hu⟩;rw[Xo]at hu;simp only[sz,simprocAttr,lP,a];exact⟨_,hu.nats (by simp;omega) (by simp only[YY];rintro x ⟨y,-,rfl⟩;exact yE _)⟩
theorem CC[Z0]{P:Nat->Prop}(hd:0<d)(hm:Zl n P k g.h v)(hn:n.Z7.length<1073741824)(hx:n.Z7[i]?=some x)(hl:x.Z9.length<1073741824)(hin:∀p∈x.Z9,0<=p/\p<n.Z7.length) :
  ∃r,ae C0 d 31 [v,Z_ (i:Int)] g=.val r/\IT 0 (G3 (IO n) x.Z9) r:=by
 obtain⟨v',e,cs,rfl,hc⟩:=nC (cH n) (by decide) d hm;have f:=hc;obtain⟨b,rfl,hN⟩:=fY.1 hc;have j:∀h,Zl n ZX (max k d) h (.agg [Z_ n.Z8,b]):=λh=>⟨_,rfl,Rp.tree f (ZV _)⟩;obtain⟨rows,o,u,s,t⟩:=hN.all;have o:∀h',ak h' 3 b=some rows:=o;obtain⟨row,q1,q2⟩:=s i x hx;obtain⟨a',b',rfl,a,-⟩:=cM.1 q2;have q:=(tI.1 hx).1;have hlt:i<rows.length:=by omega
 have m:=t (by omega);rw[Zn];refine aI wX (xs:=[.agg [Z_ n.Z8,b],Z_ (i:Int)]) (by simp only[aD,e,aU 0]) (by simp[iP]) (aE _) (by decide) hd ?_;simp only[sz,simprocAttr,iP,lN];refine aM (CD (abc d) (j _) hn) λrc hrc=>?_;have c:=λg=>TJ (d:=d+1) (g:=g) (P:=ZX) (P2:=ZX) (k:=0) (k2:=max k d) (l:=IO n) (p:=x.Z9) (abc d) (hrc.sl g.h) (a.tree (h':=g.h) (ZV _)) hl (λp hp=>by rw[aX];exact hin p hp);simp only[sz,simprocAttr,o,hlt,q1,m];refine aM (c _) λr hr=>?_;simp only[sz,simprocAttr];obtain⟨w,hw,hs⟩:=hr;exact⟨_,w,hw,hs.tree (ZV _)⟩
theorem Gu[Z0]{P:Nat->Prop}(hd:0<d)(hv:ZT P k g.h l v):ae C0 d 30 [v] g=.val (Z_ (wK l)):=by have b:=Ow hv.ints;have:=Wi hd (Qq hv.ints) (by rw[b];exact hv.1);rwa [b]at this
theorem bz3[Z0]{P:Nat->Prop}(hd:0<d)(hm:Zl n P k g.h v)(hr:NR n):ae C0 d 93 [v] g=.val (Z_ (Dj n:Int)):=by have hl2:=hr.l2;obtain⟨v',e,cs,rfl,hc⟩:=nC (cH n) (by decide) d hm;have a:∀h,Zl n ZX (max k d) h (.agg cs):=λh=>⟨_,rfl,Rp.tree hc (ZV _)⟩;obtain⟨b,rfl,hN⟩:=fY.1 hc;rw[Zn];refine cz Dz (xs:=[.agg [Z_ n.Z8,b]]) (by simp only[aD,e]) (by simp[qa]) hd ?_;simp only[sz,simprocAttr,qa,tJ];refine aM (CD (abc d) (a _) (by omega)) λrc hrc=>?_;have hs:=λg=>Gu (d:=d+1) (g:=g) (P:=ZX) (k:=0) (abc d) (hrc.sl g.h);rw[CG hr.cs (by rw[aX];omega),<-hr.wl.2.2]at hs;simp only[sz,simprocAttr,hs]
theorem Gv[Z0]{P:Nat->Prop}{w:Nat}(hd:0<d)(hm:Zl n P k g.h v)(hr:NR n)(hw:w<2^63):∃r,ae C0 d 95 [v,Z_ (w:Int)] g=.val r/\IT 0 (EU (IO n) (w:Int)) r:=by have hl2:=hr.l2;obtain⟨v',e,cs,rfl,hc⟩:=nC (cH n) (by decide) d hm;have a:∀h,Zl n ZX (max k d) h (.agg cs):=λh=>⟨_,rfl,Rp.tree hc (ZV _)⟩;obtain⟨b,rfl,hN⟩:=fY.1 hc;rw[Zn];refine aI Dx (xs:=[.agg [Z_ n.Z8,b],Z_ (w:Int)]) (by simp only[aD,e,aU 0]) (by simp[pZ]) (aE _) (by decide) hd ?_;simp only[sz,simprocAttr,pZ,tG];refine aM (CD (abc d) (a _) (by omega)) λrc hrc=>?_;simp only[sz,simprocAttr];refine aM (Rg (d:=d+1) (P:=ZX) (k:=0) (l:=IO n) (h:=(w:Int)) (abc d) (hrc.sl _) (by rw[aX];omega) (λc hc=>by have:=hr.cs c hc;omega) ⟨Ws w,by omega⟩) λr hr2=>?_;simp only[sz,simprocAttr];obtain⟨w,hw,hs⟩:=hr2;exact⟨_,w,hw,hs.tree (ZV _)⟩
theorem bT(d:Nat)(hm:Zl n ZX 0 g.h v):∃b rows,v=.agg [Z_ n.Z8,b]/\Hx.ZS g.h d aw v=some v/\(∀h,Zl n ZX 0 h v)/\ZT ZX 0 .nil n.Z7 b/\(∀h,ak h 3 b=some rows)/\rows.length=n.Z7.length /\
  (∀(i:Nat) (x:Node),n.Z7[i]?=some x->∃pa ra,rows[i]?=some [Z_ x.Z5,pa,ra]/\i<rows.length/\ZT ZX 0 .nil x.Z9 pa/\ZT ZX 0 .nil x.rows ra)/\(0<n.Z7.length->nq b=true):=by
 have e:=jV d hm;obtain⟨cs,rfl,hc⟩:=hm;have c:=hc;obtain⟨b,rfl,hN⟩:=fY.1 hc;have hN:=hN.tree (h':=.nil) (ZV _);obtain⟨rows,j,f,l,m⟩:=hN.all;refine⟨b,rows,rfl,e,λh=>⟨_,rfl,Rp.tree c (ZV _)⟩,hN,j,f,λi x hx=>?_,m⟩;obtain⟨row,q1,q2⟩:=l i x hx;obtain⟨a',b',rfl,k,a⟩:=cM.1 q2;exact⟨a',b',q1,by rw[f];exact (tI.1 hx).1,k,a⟩
theorem Ek{l:List (List Int)}{b:AV}(hb:ZT ZX k .nil l b):∃rows:List (List AV),(∀h,ak h 1 b=some rows)/\rows.length=l.length/\(∀(i:Nat) (r:List Int),l[i]?=some r->∃z,rows[i]?=some [z]/\i<rows.length/\ZT ZX k .nil r z)/\(0<l.length->nq b=true):=by obtain⟨rows,c,a,d,e⟩:=hb.all;refine⟨rows,c,a,λi r hr=>?_,e⟩;obtain⟨row,q1,q2⟩:=d i r hr;obtain⟨z,rfl,hz⟩:=dW.1 q2;exact⟨z,q1,by rw[a];exact (tI.1 hr).1,hz⟩
theorem bz2[Z0]{r:List Int}{Z2:List Int}(hd:0<d)(hm:Zl n ZX 0 g.h v)(hr:NR n)(hx:n.Z7[i]?=some x)(hw:ZT P2 k2 g.h Z2 w)(hv:YZ (IO n) Z2)
  (hj:GX (G3 (IO n) x.Z9) (G3 Z2 x.Z9)=(j:Int)) (hrr:x.rows[j]?=some r):∃z,ae C0 d 127 [v,Z_ (i:Int),w] g=.val z/\IT 0 r z:=by
 obtain⟨w',B,u⟩:=aZ hw d;obtain⟨b,rows,rfl,e,q,hN,A,K,E,F⟩:=bT d hm;have o:=YH hx;obtain⟨pa,ra,q1,hlt,s,t⟩:=E i x hx;obtain⟨rr,H,L,I,J⟩:=Ek t;obtain⟨z,q2,f,hz⟩:=I j r hrr;have hl2:=hr.l2;have D:=my (hr.places x o) (by omega);have a:=hr.pin o;have C:=(tI.1 hx).1;have m:=F (by omega);have y:=J (by omega);rw[Zn];refine aI Jl (xs:=[.agg [Z_ n.Z8,b],Z_ (i:Int),w']) (by simp only[aD,e,B,aU 0]) (by simp[xz]) (aE _) (by decide) hd ?_;simp only[sz,simprocAttr,xz,zt,A,hlt,q1,m];refine aM (CC (abc d) (q _) (by omega) hx (by omega) (λp hp=>by have:=a p hp;rw[aX]at this;exact this)) λrc hrc=>?_;simp only[sz,simprocAttr,A,hlt,q1,m];refine aM (TJ (d:=d+1) (P:=ZX) (P2:=ZX) (k:=max k2 d) (k2:=0) (l:=Z2) (p:=x.Z9) (abc d) (u _) (s.tree (ZV _)) (by omega) (λp hp=>by have:=a p hp;rw[<-hv.len]at this;exact this)) λrv hrv=>?_;have c:=λg=>SP (d:=d+1) (g:=g) (P:=ZX) (P2:=ZX) (k:=0) (k2:=0) (Z1:=G3 (IO n) x.Z9) (Z2:=G3 Z2 x.Z9) (abc d) (hrc.sl g.h) (hrv.sl g.h) (by simp[G3];omega) (ct hr.cs a) (mw hv a);rw[hj]at c;simp only[sz,simprocAttr,c,H,q2,f];exact⟨_,z,rfl,hz.tree (ZV _)⟩
theorem bz1[Z0]{w:Nat}(hd:0<d)(hm:Zl n ZX 0 g.h v)(hr:NR n)(hw:w<2^63):ae C0 d 96 [v,Z_ (w:Int)] g=.val (Z_ (AS n (EU (IO n) (w:Int)))):=by
 obtain⟨b,rows,rfl,e,f,hN,H,I,J,K⟩:=bT d hm;have m:=Ay (λc hc=>(hr.cs c hc).1) (w:Int);have o:=vg (IO n) (w:Int);rw[aX]at o;have hl2:=hr.l2;rw[Zn];refine cz Dy (xs:=[.agg [Z_ n.Z8,b],Z_ (w:Int)]) (by simp only[aD,e,aU 0]) (by simp[p_]) hd ?_;simp only[sz,simprocAttr,p_,tH];refine aM (Gv (d:=d+1) (P:=ZX) (k:=0) (w:=w) (abc d) (f _) hr hw) λrv hrv=>?_;simp only[sz,simprocAttr,qW];generalize EU (IO n) (w:Int)=Z2 at *;refine bh n.Z7.length (by omega) (λj t df g=>df=[]/\St t [(2,ZZ 0),(5,rv),(6,Z_ (G5 ((List.range j).map (Ca n Z2))))]/\g.h.get 0=Z4 2 [[Z_ n.Z8,b]])
  ⟨rfl,by simp[St,sx,G5],by simp[sx]⟩ (by simp[sx]) (by decide) (by rintro j t df g v s (rfl|rfl|rfl)<;>simp[St,sx]) ?_ ?_ ?_
 ·rintro j t df g q ⟨rfl,⟨h2,h5,a,-⟩,hg⟩ h7;simp only[sz,simprocAttr,h2,h5,a,h7,hg,hN.len,St]
 ·rintro j t df g q ⟨rfl,⟨h2,h5,a,-⟩,hg⟩ h7;obtain⟨x,hx,-,-⟩:=ah q;obtain⟨i,r,c,y,f1,f2,u,A,B,F,l,p,-,-⟩:=Fx hr m hx;obtain⟨c,rfl⟩:=Wu B;rw[Ya]at l;have ri:=λh=>hrv.rows h;have C:j<(Z2.map ci).length:=by rw[Ju];omega
  have D:(Z2.map ci)[j]?=some (ci (c:Int)):=by rw[Zy,A];rfl
  have wb:=sM hr m (j:=j+1) (by omega);rw[Az,p]at wb;have w1:IntKind.wrap .i64 (G5 ((List.range j).map (Ca n Z2))*y)=G5 ((List.range (j+1)).map (Ca n Z2)):=by rw[Az,p,aq]
  simp only[sz,simprocAttr,h2,h5,a,h7,hg];refine aM (bz2 (d:=d+1) (P2:=ZX) (k2:=0) (i:=j) (abc d) (f _) hr hx (hrv.sl _) m f1 u) λz hz=>?_;have rz:=λh=>hz.rows h;have u3:c<(r.map ci).length:=by rw[Ju];exact (tI.1 l).1
  have E:(r.map ci)[c]?=some (ci y):=by rw[Zy,l];rfl
  simp only[sz,simprocAttr,h2,h5,h7,hg,ri,rz,C,D,u3,E,ci,St,w1]
 ·rintro t df g ⟨rfl,⟨h2,h5,a,-⟩,hg⟩;simp only[sz,simprocAttr,qX,a]
  rfl
theorem Gr[Z0]{e:List Int}(hd:0<d)(hm:Zl n ZX 0 g.h v)(hr:NR n)(he:ZT P2 k2 g.h e w)(hel:e.length=n.Z7.length):ae C0 d 61 [v,w] g=.val (Z_ (Dl n e)):=by
 obtain⟨w',m,i⟩:=aZ he d;obtain⟨b,rows,rfl,e1,c,hN,p,q,r,u⟩:=bT d hm;have hl2:=hr.l2;obtain⟨wl1,wl2,wl3⟩:=hr.wl;rw[Zn];refine cz Hh (xs:=[.agg [Z_ n.Z8,b],w']) (by simp only[aD,e1,m]) (by simp[uH]) hd ?_;simp only[sz,simprocAttr,uH,xy,vK,vL];refine bh (Dj n) (by omega) (λj t df g=>df=[]/\St t [(1,w'),(2,ZZ 0),(5,Z_ (GW n (λw=>B4 (EU (IO n) (w:Int)) e) j))]/\g.h.get 0=Z4 2 [[Z_ n.Z8,b]])
  ⟨rfl,by simp[St,sx,GW],by simp[sx]⟩ (by simp[sx]) (by decide) (by rintro j t df g v s (rfl|rfl|rfl)<;>simp[St,sx]) ?_ ?_ ?_
 ·rintro j t df g o ⟨rfl,⟨h1,h2,h5,-⟩,hg⟩ f;have hw:=λg=>bz3 (d:=d+1) (g:=g) (P:=ZX) (k:=0) (abc d) (c g.h) hr;simp only[sz,simprocAttr,h1,h2,h5,f,hg,hw,St]
 ·rintro j t df g o ⟨rfl,⟨h1,h2,h5,-⟩,hg⟩ f;simp only[sz,simprocAttr,h2,f,hg];refine aM (Gv (d:=d+1) (P:=ZX) (k:=0) (w:=j) (abc d) (c _) hr (by omega)) λrv hrv=>?_;have a:=λg=>bD_ (d:=d+1) (g:=g) (P:=ZX) (P2:=ZX) (k:=0) (k2:=max k2 d) (Z2:=EU (IO n) (j:Int)) (e:=e) (abc d) (hrv.sl g.h) (i g.h) (by rw[vg,aX,hel]);have sb:=jz hr (λw=>B4 (EU (IO n) (w:Int)) e) (j+1);cases hmt:B4 (EU (IO n) (j:Int)) e with
  | true =>
   have l:=λg=>bz1 (d:=d+1) (g:=g) (w:=j) (abc d) (c g.h) hr (by omega);rw[hmt]at a;have w1:IntKind.wrap .i64 (GW n (λw=>B4 (EU (IO n) (w:Int)) e) j+AS n (EU (IO n) (j:Int)))=GW n (λw=>B4 (EU (IO n) (w:Int)) e) (j+1):=by
    have e1:GW n (λw=>B4 (EU (IO n) (w:Int)) e) (j+1)=GW n (λw=>B4 (EU (IO n) (w:Int)) e) j+AS n (EU (IO n) (j:Int)):=by rw[GW,hmt];rfl
    rw[<-e1,aq]
   simp only[sz,simprocAttr,h1,h2,h5,f,hg,a,l,St,w1]
  | false =>
   rw[hmt]at a;have e1:GW n (λw=>B4 (EU (IO n) (w:Int)) e) (j+1)=GW n (λw=>B4 (EU (IO n) (w:Int)) e) j:=by rw[GW,hmt];simp
   simp only[sz,simprocAttr,h1,h2,h5,f,hg,a,St,e1]
 ·rintro t df g ⟨rfl,⟨h1,h2,h5,-⟩,hg⟩;simp only[sz,simprocAttr,vM,h5]
  rfl
theorem bz0[Z0]{P:Nat->Prop}{e:List Int}(hd:0<d)(hm:Zl n P k g.h v)(he:ZT P2 k2 g.h e w):ae C0 d 92 [v,w] g=.val (.bool (EQ n e)):=by
 obtain⟨w',A,f⟩:=aZ he d;obtain⟨v',e1,cs,rfl,hc⟩:=nC (cH n) (by decide) d hm;obtain⟨b,rfl,hN⟩:=fY.1 hc;obtain⟨rows,m,D,B,C⟩:=hN.all;have m:∀h',ak h' 3 b=some rows:=m;have n2:=λg=>(f .nil).len g;have rb:=λh=>(f h).ints;rw[Zn];refine dA A7 (xs:=[.agg [Z_ n.Z8,b],w']) (by simp only[aD,e1,A]) (by simp[iq]) hd ?_;have p:=he.1
 by_cases hl:e.length=n.Z7.length
 ·simp only[sz,simprocAttr,iq,jr,oC,n2,hN.len,hl];refine bh e.length p (λj t df g=>df=[]/\St t [(1,w'),(2,ZZ 0)]/\g.h.get 0=Z4 2 [[Z_ n.Z8,b]]/\((List.range j).all λv=>decide (-1<=e[v]?.getD 0)&&decide (e[v]?.getD 0<(IO n)[v]?.getD 0))=true)
   ⟨rfl,by simp[St,sx],by simp[sx],by simp⟩ (by simp[sx]) (by decide) (by rintro j t df g v s (rfl|rfl|rfl)<;>simp[St,sx]) ?_ ?_ ?_
  ·rintro j t df g i ⟨rfl,⟨h1,h2,-⟩,hg,ha⟩ h5;simp only[sz,simprocAttr,h1,h2,h5,hg,n2,St,ha]
  ·rintro j t df g i ⟨rfl,⟨h1,h2,-⟩,hg,ha⟩ h5;obtain⟨y,r,-,-⟩:=ah i;obtain⟨x,hx,-,-⟩:=ah (l:=n.Z7) (j:=j) (by omega);obtain⟨row,q1,q2⟩:=B j x hx;obtain⟨a',b',rfl,-,-⟩:=cM.1 q2;have hlt:j<rows.length:=by omega
   have c:=C (by omega);have u:j<(e.map ci).length:=by simpa using i
   have z:(e.map ci)[j]?=some (ci y):=by rw[Zy,r];rfl
   have a:(IO n)[j]?.getD 0=x.Z5:=by simp[IO,hx]
   have q:((List.range (j+1)).all λv=>decide (-1<=e[v]?.getD 0)&&decide (e[v]?.getD 0<(IO n)[v]?.getD 0))=(decide (-1<=y)&&decide (y<x.Z5)):=by rw[Ri,ae5,ha,a.symm];simp[r]
   have bad:(decide (-1<=y)&&decide (y<x.Z5))=false->EQ n e=false:=λh=>by
    rw[EQ];have:((List.range e.length).all λv=>decide (-1<=e[v]?.getD 0)&&decide (e[v]?.getD 0<(IO n)[v]?.getD 0))=false:=by rw[<-HF,Xw];intro h2;have:=h2 j (Q9.2 i);rw[r,Ns,a,h]at this;cases this
    rw[this,adS]
   by_cases c1:y < -1
   ·have:=bad (by simp;omega);simp only[sz,simprocAttr,h1,h5,rb,u,z,ci,c1,this]
   ·by_cases c2:x.Z5<=y
    ·have:=bad (by simp;omega);simp only[sz,simprocAttr,h1,h2,h5,hg,rb,m,hlt,q1,c,u,z,ci,c1,c2,this]
    ·simp only[sz,simprocAttr,h1,h2,h5,hg,rb,m,hlt,q1,c,u,z,ci,c1,c2,St,q];simp;omega
  ·rintro t df g ⟨rfl,⟨h1,h2,-⟩,hg,ha⟩;simp only[sz,simprocAttr,oD];rw[EQ,ha,hl];simp
 ·have o:¬((e.length:Int)=(n.Z7.length:Int)):=by omega
  simp only[sz,simprocAttr,iq,jr,n2,hN.len,o];rw[EQ];simp[hl]
section
variable {d:Nat}{b pa ra z:AV}{gr Z5:Int}{r:List Int}
def QS(v:Nat)(q:Nat):List (Nat×AV):=[(1,ZZ 0),(6,Z_ (v:Int)),(7,ZZ q)]
structure RJ1 (gr:Int) (r:List Int) (v q i j:Nat) (t:T):Prop where
 st:St t ((8,Z_ (i:Int))::QS v q)
 s9:ZY t 9=Z_ (r.take j).sum
 all:∀y∈r.take j,0<=y/\y<=gr
structure RJ4 (gr Z5:Int) (Zw:List (List Int)) (v q j:Nat) (t:T):Prop where
 st:St t (QS v q)
 all:∀r∈Zw.take j,Db gr Z5 r=true
structure RJ0 (n:Zv) (b:AV) (j:Nat) (t:T) (g:G):Prop where
 st:St t [(1,ZZ 0),(3,Z_ (G5 ((IO n).take j)))]
 hg:g.h.get 0=Z4 2 [[Z_ n.Z8,b]]
 nx:1<=g.nx
 all:∀x∈n.Z7.take j,zK n.Z7.length x=true
structure RJ6 (n:Zv) (b:AV) (j:Nat) (t:T) (g:G):Prop where
 st:St t [(1,ZZ 0)]
 hg:g.h.get 0=Z4 2 [[Z_ n.Z8,b]]
 nx:1<=g.nx
 all:∀x∈n.Z7.take j,r9 n x=true
theorem by_[Z0]{rr:List (List AV)}{v:Nat}(s1:∀h,ak h 1 ra=some rr)(s2:rr[i]?=some [z])(s3:i<rr.length)(s4:nq ra=true)(hz:ZT ZX 0 .nil r z)(hl:r.length<=4)(hg1:1<=gr/\gr<=60)
  (ht:St t ((8,Z_ (i:Int))::QS v q)) (h9:ZY t 9=Z_ 0) (h10:ZY t 10=Z_ 0) (e0:g.h.get 0=Z4 2 [[Z_ gr,b]]) (eq:g.h.get q=Z4 3 [[Z_ Z5,pa,ra]])
  (bad:∀t,(∃y∈r,¬(0<=y/\y<=gr))->ZY t 2=.bool false->Q .ret t [] g) (fin:∀t,(∀y∈r,0<=y/\y<=gr)->St t ((8,Z_ (i:Int))::QS v q)->ZY t 9=Z_ r.sum->Q (.exit 6) t [] g) :
  Uk (wp C0 d none mf) Q t [] g:=by
 have n1:=λg=>hz.len g;have rz:=λh=>(hz.tree (h':=h) (ZV 0)).ints;simp only[mf];refine bh r.length (by omega) (λj t df g'=>df=[]/\g'=g/\RJ1 gr r v q i j t)
  ⟨rfl,rfl,ht,by simp[h9],by simp⟩ h10 (by decide) (by rintro j t df g v s (rfl|rfl|rfl) ⟨a1,a2,⟨b1,b2,n,o,-⟩,p,u⟩<;>exact⟨a1,a2,by simp[St,QS,sx,b1,b2,n,o],by simp[sx,p],u⟩) ?_ ?_ ?_
 ·rintro j t df g' e ⟨rfl,rfl,⟨⟨h8,h1,c,h7,-⟩,h9,ha⟩⟩ h10;simp only[sz,simprocAttr,h7,h8,h10,eq,s1,s2,s3,n1];exact⟨by simp[St,QS,sx,h1,c,h7,h8],by simp[sx,h9],ha⟩
 ·rintro j t df g' e ⟨rfl,rfl,⟨⟨h8,h1,c,h7,-⟩,h9,ha⟩⟩ h10;obtain⟨y,B,a,hm⟩:=ah e;have f:j<(r.map ci).length:=by simpa using e
  have m:(r.map ci)[j]?=some (ci y):=by rw[Zy,B];rfl
  by_cases c1:y<0
  ·simp only[sz,simprocAttr,h7,h8,h10,eq,s1,s2,s3,rz,f,m,ci,c1];exact bad _ ⟨y,hm,by omega⟩ (by simp[sx])
  ·by_cases c2:gr<y
   ·simp only[sz,simprocAttr,h1,h7,h8,h10,e0,eq,s1,s2,s3,rz,f,m,ci,c1,c2];exact bad _ ⟨y,hm,by omega⟩ (by simp[sx])
   ·have k:∀x∈r.take (j+1),0<=x/\x<=gr:=λx hx=>by
     rw[a]at hx;rcases Tn.1 hx with h|h
     ·exact ha x h
     ·rw[Wa.1 h];omega
    have A:=IG (b:=60) (by decide) (l:=r.take (j+1)) λx hx=>by have:=k x hx;omega
    have w:(r.take (j+1)).length<=4:=by rw[Rk];omega
    have w1:IntKind.wrap .i64 ((r.take j).sum+y)=(r.take (j+1)).sum:=by
     have e1:(r.take (j+1)).sum=(r.take j).sum+y:=by rw[a,BF]
     rw[<-e1,aq]
    simp only[sz,simprocAttr,h1,h7,h8,h9,h10,e0,eq,s1,s2,s3,rz,f,m,ci,c1,c2,w1];exact⟨by simp[St,QS,sx,h1,c,h7,h8],by simp[sx],k⟩
 ·rintro t df g' ⟨rfl,rfl,⟨ht,h9,ha⟩⟩;rw[Xo]at h9 ha;exact fin t ha ht h9
theorem by9[Z0]{v:Nat}(hra:ZT ZX 0 .nil Zw ra)(hc:1<=Z5/\Z5<=4)(hg1:1<=gr/\gr<=60)
  (ht:St t (QS v q)) (h8:ZY t 8=Z_ 0) (e0:g.h.get 0=Z4 2 [[Z_ gr,b]]) (eq:g.h.get q=Z4 3 [[Z_ Z5,pa,ra]])
  (bad:∀t,(∃r∈Zw,Db gr Z5 r=false)->ZY t 2=.bool false->Q .ret t [] g) (fin:∀t,(∀r∈Zw,Db gr Z5 r=true)->St t (QS v q)->Q (.exit 4) t [] g) :
  Uk (wp C0 d none mg) Q t [] g:=by
 obtain⟨rr,i,w,p,u⟩:=Ek hra;have n1:=λg=>hra.len g;simp only[mg,tC];refine bh Zw.length hra.1 (λj t df g'=>df=[]/\g'=g/\RJ4 gr Z5 Zw v q j t)
  ⟨rfl,rfl,ht,by simp⟩ h8 (by decide) (by rintro j t df g v s (rfl|rfl|rfl) ⟨a1,a2,⟨b1,b2,m,-⟩,n⟩<;>exact⟨a1,a2,by simp[St,QS,sx,b1,b2,m],n⟩) ?_ ?_ ?_
 ·rintro j t df g' l ⟨rfl,rfl,⟨⟨h1,k,h7,-⟩,ha⟩⟩ h8;simp only[sz,simprocAttr,h7,h8,eq,n1];exact⟨by simp[St,QS,sx,h1,k,h7],ha⟩
 ·rintro j t df g' l ⟨rfl,rfl,⟨⟨h1,k,h7,-⟩,ha⟩⟩ h8;obtain⟨r,hr,e,hm⟩:=ah l;obtain⟨z,q2,q3,hz⟩:=p j r hr;have c:=u (by omega);have n2:=λg=>hz.len g
  by_cases c1:(r.length:Int)=Z5
  ·simp only[sz,simprocAttr,h7,h8,eq,i,q2,q3,n2,c1];refine by_ (v:=v) (q:=q) (b:=b) (pa:=pa) (Z5:=Z5) (gr:=gr) i q2 q3 c hz (by omega) hg1 (by simp[St,QS,sx,h1,k,h7,h8]) (by simp[sx]) (by simp[sx]) e0 eq ?_ ?_
   ·rintro t ⟨y,o,f⟩ h2;refine bad t ⟨r,hm,?_⟩ h2;rw[<-HF,Db];simp only[Zk,RY,Xw];rintro⟨⟨-,h⟩,-⟩;exact f (h y o)
   ·rintro t a ⟨h8,h1,k,h7,-⟩ h9
    by_cases c2:r.sum=gr
    ·simp only[sz,simprocAttr,mh,h1,h8,h9,e0,c2];refine⟨?_,λx hx=>?_⟩
     ·simp[St,QS,sx,h1,k,h7]
     ·rw[e]at hx;rcases Tn.1 hx with h|h
      ·exact ha x h
      ·rw[Wa.1 h,Db];simp only[Zk,RY,Xw];exact⟨⟨c1,a⟩,c2⟩
    ·simp only[sz,simprocAttr,mh,h1,h9,e0,c2];refine bad _ ⟨r,hm,?_⟩ (by simp[sx]);rw[Db];simp[c2]
  ·simp only[sz,simprocAttr,h7,h8,eq,i,q2,q3,n2,c1];refine bad _ ⟨r,hm,?_⟩ (by simp[sx]);rw[Db];simp[c1]
 ·rintro t df g' ⟨rfl,rfl,⟨ht,ha⟩⟩;rw[Xo]at ha;exact fin t ha ht
end
theorem by8[Z0]{d:Nat}(hd:0<d)(hm:Zl n ZX 0 g.h v):ae C0 d 91 [v] g=.val (.bool (Dm n)):=by
 obtain⟨b,rows,rfl,e,N,hN,U,r2,Z,r4⟩:=bT d hm;have bad:¬NR n->AV.bool false=AV.bool (Dm n):=λh=>by
  cases hn:Dm n with
  |true=>exact absurd (bU.1 hn) h
  |false=>rfl
 rw[Zn];refine dA Fq (xs:=[.agg [Z_ n.Z8,b]]) (by simp only[aD,e]) (by simp[rZ]) hd ?_;have nl:=λg=>hN.len g;simp only[sz,simprocAttr,rZ];obtain⟨g0,hg0⟩:∃g0,g0=G.empty.new (.cells [Z_ n.Z8,b].length [[Z_ n.Z8,b]] 0 false false):=⟨_,rfl⟩;have f0:g0.h.get 0=Z4 2 [[Z_ n.Z8,b]]:=by rw[hg0];simp[sx]
 have f1:1<=g0.nx:=by rw[hg0];simp[sx]
 rw[show (G.empty.new (Z4 2 [[Z_ n.Z8,b]]))=g0 from by rw[hg0];rfl];clear hg0;simp only[vN]
 by_cases c1:n.Z8<1
 ·simp only[sz,simprocAttr,f0,c1];exact bad λh=>by have:=h.g1;omega
 by_cases c2:60<n.Z8
 ·simp only[sz,simprocAttr,f0,c1,c2];exact bad λh=>by have:=h.g2;omega
 by_cases c3:(n.Z7.length:Int)<1
 ·simp only[sz,simprocAttr,f0,c1,c2,c3,nl];exact bad λh=>by have:=h.l1;omega
 by_cases c4:8<(n.Z7.length:Int)
 ·simp only[sz,simprocAttr,f0,c1,c2,c3,c4,nl];exact bad λh=>by have:=h.l2;omega
 refine gv (P:=λt' df g'=>df=[]/\g'=g0/\St t' [(1,ZZ 0)]) ?_ ?_
 ·simp only[sz,simprocAttr,f0,c1,c2,c3,c4,nl];simp[St,sx]
 rintro t df g1 ⟨rfl,rfl,h1,-⟩;simp only[sz,simprocAttr,tA];have h9:=r4 (by omega);refine bh n.Z7.length (by omega) (λj t df g=>df=[]/\RJ0 n b j t g)
  ⟨rfl,by simp[St,sx,h1,G5],f0,f1,by simp⟩ (by simp[sx]) (by decide) (by rintro j t df g v s (rfl|rfl|rfl) ⟨a1,⟨b1,b2,-⟩,V,W,X⟩<;>exact⟨a1,by simp[St,sx,b1,b2],V,W,X⟩) ?_ ?_ ?_
 ·rintro j t df g M ⟨rfl,⟨⟨h1,C,-⟩,hg,f,ha⟩⟩ h4;simp only[sz,simprocAttr,h1,h4,hg,nl];exact⟨by simp[St,sx,h1,C],hg,f,ha⟩
 ·rintro j t df g M ⟨rfl,⟨⟨h1,C,-⟩,hg,f,ha⟩⟩ h4;obtain⟨x,hx,J,i⟩:=ah M;obtain⟨pa,ra,q1,hlt,O,H⟩:=Z j x hx;have z:=λg=>Nw (d:=d+1) (g:=g) (P:=ZX) (k:=0) (l:=x.Z9) (n:=(n.Z7.length:Int)) (abc d) (O.tree (h':=g.h) (ZV 0));have m:¬(0=g.nx):=by omega
  have badn:zK n.Z7.length x=false->AV.bool false=AV.bool (Dm n):=λh=>bad λhr=>by have h1:=hr.Z5 x i;have h2:=hr.places x i;rw[zK,h2]at h;simp at h;omega
  by_cases d1:x.Z5<1
  ·simp only[sz,simprocAttr,h1,h4,hg,U,hlt,q1,d1];exact badn (by rw[zK];simp;omega)
  by_cases d2:4<x.Z5
  ·simp only[sz,simprocAttr,h1,h4,hg,U,hlt,q1,d1,d2];exact badn (by rw[zK];simp;omega)
  cases d3:AW x.Z9 n.Z7.length with
  | false =>rw[d3]at z;simp only[sz,simprocAttr,h1,h4,hg,U,hlt,q1,m,nl,z,d1,d2];exact badn (by rw[zK,d3];simp)
  | true =>
   rw[d3]at z;have Y:zK n.Z7.length x=true:=by rw[zK,d3];simp;omega
   have o:∀y∈n.Z7.take (j+1),zK n.Z7.length y=true:=λy B=>by
    rw[J]at B;rcases Tn.1 B with h|h
    ·exact ha y h
    ·rw[Wa.1 h];exact Y
   have F:∀c∈(IO n).take (j+1),1<=c/\c<=4:=λc hc=>by rw[IO,<-VX]at hc;obtain⟨y,B,rfl⟩:=YY.1 hc;have:=o y B;simp[zK]at this;omega
   have Q:=cD F;have h8:=fH (a:=((IO n).take (j+1)).length) (b:=8) (by rw[Rk];omega);have h5:(4:Int) ^ 8=65536:=by decide
   have e1:G5 ((IO n).take (j+1))=G5 ((IO n).take j)*x.Z5:=by
    rw[NA];have:(IO n)[j]?=some x.Z5:=by simp[IO,hx]
    rw[this];exact yK _ _
   have w1:IntKind.wrap .i64 (G5 ((IO n).take j)*x.Z5)=G5 ((IO n).take (j+1)):=by rw[<-e1,aq]
   simp only[sz,simprocAttr,h1,C,h4,hg,U,hlt,q1,m,nl,z,d1,d2,w1];refine⟨?_,?_,?_,o⟩
   ·simp[St,sx,h1]
   ·simp[Za,m,hg]
   ·first| (simp;done)| (simp;omega)
 rintro t df g ⟨rfl,⟨⟨h1,C,-⟩,hg,f,ha⟩⟩;rw[Xo]at ha;rw[U8 (by rw[aX];exact ZV _)]at C;have w:∀x∈n.Z7,1<=x.Z5/\x.Z5<=4:=λx hx=>by have:=ha x hx;simp[zK]at this;omega
 have A:∀x∈n.Z7,AW x.Z9 n.Z7.length=true:=λx hx=>by have:=ha x hx;simp[zK]at this;exact this.2
 have F:∀c∈IO n,1<=c/\c<=4:=λc hc=>by obtain⟨y,B,rfl⟩:=YY.1 hc;exact w y B
 simp only[tF]
 by_cases d1:1024<G5 (IO n)
 ·simp only[sz,simprocAttr,C,d1];exact bad λh=>by have:=h.worlds;omega
 have R:=λg=>bz4 (d:=d+1) (g:=g) (k:=0) (P:=ZX) (abc d) (N g.h) (by omega) λx hx y B=>by have:=fG (A x hx) y B;omega
 cases d2:AP (ET n) with
 | false =>simp only[sz,simprocAttr,h1,C,hg,d1];refine aM (R _) λrp hrp=>?_;have u:=λg=>C2 (d:=d+1) (g:=g) (P:=ZX) (k:=0) (p:=ET n) (abc d) (hrp.sl g.h);rw[d2]at u;simp only[sz,simprocAttr,u];exact bad λh=>by have:=h.YA;rw[d2]at this;cases this
 |true =>
 refine gv (P:=λt' df g'=>df=[]/\g'=g/\St t' [(1,ZZ 0)]/\AP (ET n)=true) ?_ ?_
 ·simp only[sz,simprocAttr,h1,C,hg,d1];refine aM (R _) λrp hrp=>?_;have u:=λg=>C2 (d:=d+1) (g:=g) (P:=ZX) (k:=0) (p:=ET n) (abc d) (hrp.sl g.h);rw[d2]at u;simp only[sz,simprocAttr,u];simp[St,sx,h1,d2]
 clear h1 C;rintro t df g ⟨rfl,rfl,⟨h1,-⟩,E⟩;simp only[sz,simprocAttr,tB,tD];refine bh n.Z7.length (by omega) (λj t df g=>df=[]/\RJ6 n b j t g)
  ⟨rfl,by simp[St,sx,h1],hg,f,by simp⟩ (by simp[sx]) (by decide) (by rintro j t df g v s (rfl|rfl|rfl) ⟨a1,⟨b1,-⟩,V,W,X⟩<;>exact⟨a1,by simp[St,sx,b1],V,W,X⟩) ?_ ?_ ?_
 ·rintro j t df g M ⟨rfl,⟨⟨h1,-⟩,hg,f,ha⟩⟩ K;simp only[sz,simprocAttr,h1,K,hg,nl];exact⟨by simp[St,sx,h1],hg,f,ha⟩
 ·rintro j t df g M ⟨rfl,⟨⟨h1,-⟩,hg,f,ha⟩⟩ K;obtain⟨x,hx,J,i⟩:=ah M;obtain⟨pa,ra,q1,hlt,O,H⟩:=Z j x hx;have m:¬(0=g.nx):=by omega
  have z:=my (A x i) (by omega);have D:∀p∈x.Z9,0<=p/\p<(n.Z7.length:Int):=fG (A x i);have Q:∀c∈G3 (IO n) x.Z9,1<=c/\c<=4:=ct F λp hp=>by rw[aX];exact D p hp
  have badn:r9 n x=false->AV.bool false=AV.bool (Dm n):=λh=>bad λhr=>by
   have h1:=hr.rows x i;have h2:=hr.row x i;have:r9 n x=true:=by simp only[r9,Db,Zk,RY,Xw];exact⟨h1,λr hr=>⟨⟨(h2 r hr).1,(h2 r hr).2.1⟩,(h2 r hr).2.2⟩⟩
   rw[h]at this;cases this
  simp only[sz,simprocAttr,h1,K,hg,U,hlt,q1,m,H.len];refine aM (CC (d:=d+1) (k:=0) (P:=ZX) (abc d) (N _) (by omega) hx (by omega) D) λrc hrc=>?_;have I:=λg=>Gu (d:=d+1) (g:=g) (P:=ZX) (k:=0) (abc d) (hrc.sl g.h);rw[CG Q (by simp[G3];omega)]at I
  by_cases d1:(x.rows.length:Int)=G5 (G3 (IO n) x.Z9)
  ·simp only[sz,simprocAttr,I,d1];refine by9 (v:=j) (q:=g.nx) (b:=b) (pa:=pa) (Z5:=x.Z5) (gr:=n.Z8) (Zw:=x.rows) H (w x i) (by omega) (by simp[St,QS,sx,h1,K]) (by simp[sx]) (by simp[Za,m,hg]) (by simp[Za]) ?_ ?_
   ·rintro t ⟨r,hr,T⟩ h2;simp only[sx,sy,h2];refine badn ?_;rw[r9];have:x.rows.all (Db n.Z8 x.Z5)=false:=by rw[<-HF,Xw];intro h;rw[h r hr]at T;cases T
    rw[this,adS]
   ·rintro t o ⟨h1,K,h7,-⟩;simp only[sx,sy,↓reduceIte,K];refine⟨?_,?_,?_,λy B=>?_⟩
    ·simp[St,h1]
    ·simp[Za,m,hg]
    ·first| (simp;done)| (simp;omega)
    ·rw[J]at B;rcases Tn.1 B with h|h
     ·exact ha y h
     ·rw[Wa.1 h,r9,Xw.2 o];simp[d1]
  ·simp only[sz,simprocAttr,I,d1];exact badn (by rw[r9];simp[d1])
 ·rintro t df g ⟨rfl,⟨⟨h1,-⟩,hg,f,L⟩⟩;rw[Xo]at L;simp only[sz,simprocAttr,tE];have:Dm n=true:=by unfold Dm;simp only[Zk,RY,Xw];exact⟨⟨⟨⟨⟨⟨⟨by omega,by omega⟩,by omega⟩,by omega⟩,ha⟩,by omega⟩,E⟩,L⟩
  rw[this]
section
variable {tl:List Int}
def Wz(g:G)(b id:Nat)(l tl:List Int):Prop:=b<=id/\id<g.nx/\g.h.get id=Z4 1 (l.map ci++tl.map ci)
theorem Wz.rows{id:Nat}(h:Wz g b id l tl):ak g.h 1 (.ZG id 0 0 l.length none)=some (l.map ci):=by rw[fX,h.2.2,dJ,ZN (by simp),XI,List.take_left' (by simp)]
theorem Wz.fr{g':G}{id:Nat}(h:Wz g b id l tl)(hn:g.nx<=g'.nx)(hf:g'.h.get id=g.h.get id):Wz g' b id l tl:=⟨h.1,Vd h.2.1 hn,by rw[hf,h.2.2]⟩
theorem by7{n:Nat}(hn:n<=1000)(hb:b<=g.nx)(k:∀g',Wz g' b g.nx [] (List.replicate n 0)->g'.nx=g.nx+1->(∀i,i<g.nx->g'.h.get i=g.h.get i)->K (.ZG g.nx 0 0 0 none) g') :
  (M9 1 8 [Z_ 0] (Z_ 0) (Z_ (n:Int)) g).sat K g D:=by
 have h1:n<=aQ:=by unfold aQ;omega
 have h2:n*8<=aQ:=by unfold aQ;omega
 have key:M9 1 8 [Z_ 0] (Z_ 0) (Z_ (n:Int)) g=.upd (.ZG g.nx 0 0 0 none) (g.new (Z4 1 (jb n [Z_ 0]))):=by
  show (match dU aQ (Z_ (.ofNat n)) with
   | some cn=>match dU cn (Z_ 0) with
    |some ln=>ap (Nat.ble (cn*8) aQ) (OR.upd (.ZG g.nx 0 0 ln none) (g.new (Z4 1 (jb cn [Z_ 0])))) .fail
    |none=>.fail
   |none=>.fail)=_
  have a1:dU aQ (Z_ (.ofNat n))=some n:=by show ap (Nat.ble n aQ) (some n) none=_;rw[aa,ZN (by simpa using h1)]
  have a2:dU n (Z_ 0)=some 0:=by show ap (Nat.ble 0 n) (some 0) none=_;rw[aa,ZN (by simp)]
  rw[a1];dsimp only;rw[a2];dsimp only;rw[aa,ZN (by simpa using h2)]
 rw[key];refine k _ ⟨hb,by simp,?_⟩ (by simp) (λi hi=>?_)
 ·simp[aY,jb,ci]
 ·rw[G.new_h,aF]
theorem by6{id:Nat}{x y:Int}(hv:Wz g b id l (y::tl))(hx:ak g.h 1 w=some [ci x])(hr:l.length<=1000)
  (k:∀g',Wz g' b id (l++[x]) tl->g'.nx=g.nx->(∀i,i≠id->g'.h.get i=g.h.get i)->K (.ZG id 0 0 (l++[x]).length none) g'):(eS 1 8 (.ZG id 0 0 l.length none) w g).sat K g D:=by
 unfold eS;rw[hx];obtain⟨h1,h2,d⟩:=hv;simp only[bK,G.get_eq,d,ax,aa,X_,U2,R1,Zk,Ku,XH,Fa,J6,Ju,V8,QO];rw[ZN ⟨by omega,by unfold aQ;omega⟩,i6];have a:lq false=true:=rfl;rw[ZN ⟨by omega,a⟩];have e:oV (l.map ci++(y::tl).map ci) l.length [ci x]=(l++[x]).map ci++tl.map ci:=by simp only[oV,jh];rw[K0,acq,Qv,X0 _ _ (by simp)];simp
 rw[e];have k:=k (g.put id (Z4 1 ((l++[x]).map ci++tl.map ci))) ⟨h1,by simpa using h2,by simp[aY]⟩ (by simp) (λi hi=>by rw[G.put_h,aF hi]);have c:l.length+1=(l++[x]).length:=by simp
 rw[c];exact k
def by5(p:List Nat):VS:=λP k h v=>∃o:List Int,True/\mQ (One o) (One (AP p)) P k h v
theorem by4[Z0]{P:Nat->Prop}{p:List Nat}(hd:0<d)(hv:ZT P k g.h p v)(hn:p.length<=8)(hp:∀x∈p,x<2 ^ p.length) :
  ∃z,ae C0 d 131 [v] g=.val z/\by5 p ZX 0 .nil z:=by
 obtain⟨v',e,r1⟩:=aZ hv d;have hlt:=uh hv;rw[Zn];refine aI Hc (xs:=[v']) (by simp only[aD,e]) (by simp[uC]) (o7 λo=>bM (m:=1) (aE _) (aE _) (by decide) (by decide)) (by decide) hd ?_;have vl:∀g,gz .slice v' g=.val (Z_ (p.length:Int)):=λg=>(r1 .nil).len g;simp only[sz,simprocAttr,uC,vl];refine by7 (b:=0) (n:=p.length) (by omega) (Jq _) λg1 hu hn1 hf1=>?_;obtain⟨id,J⟩:∃id,id=G.empty.nx:=⟨_,rfl⟩;rw[<-J]at hu ⊢;clear J hn1 hf1;simp only[sz,simprocAttr];refine gB (λn t df g=>df=[]/\∃(L:List Nat) (D:Nat) (tl:List Int),n=p.length - L.length/\L.length+tl.length=p.length/\PB p L/\Xn D L/\PA p D/\St t [(0,v'),(4,.ZG id 0 0 (L.map λi:Nat=>(i:Int)).length none),(5,ZW (D:Int))]/\Wz g 0 id (L.map λi:Nat=>(i:Int)) tl) p.length
  ⟨rfl,[],0,List.replicate p.length 0,by simp,by simp,⟨by simp,by simp⟩,⟨by decide,by simp⟩,Ig,by simp[sx,St],hu⟩ ?_
 rintro n t df g ⟨rfl,L,D,tl,rfl,I,O,f,hG,⟨h0,h4,h5,-⟩,hu⟩;have h8:=Tt O;have Z:∀g',gz .slice (.ZG id 0 0 (L.map λi:Nat=>(i:Int)).length none) g'=.val (Z_ (L.length:Int)):=λg'=>by rw[dq hu.rows];simp
 simp only[sz,simprocAttr,vD,h0,h4,vl,Z];refine ba (λhb=>?_) (λhb=>?_)
 ·have K:L.length<p.length:=by simpa using hb
  obtain⟨y,tl,rfl⟩:∃y tl',tl=y::tl':=by
   cases tl with
   |nil=>simp at I;omega
   |cons y tl=>exact⟨y,tl,rfl⟩
  simp only[sz,simprocAttr,h0,vl,vC];refine b_ (m:=p.length) (by omega) (λj t df g'=>df=[]/\g'=g/\St t [(0,v'),(16,v'),(4,.ZG id 0 0 (L.map λi:Nat=>(i:Int)).length none),(5,ZW (D:Int))]/\∀v,v<j->D.testBit v=true\/¬Wb (XQ p v) D)
   ⟨rfl,rfl,by simp[sx,St,h0,h4,h5],λv hv=>by omega⟩ (by simp[sx]) (by simp[sx]) (by decide) (by rintro j t df g v s (rfl|rfl|rfl)<;>simp[sx,St]) ?_ ?_
  ·rintro j t df g' V ⟨rfl,rfl,⟨h0,u,h4,h5,-⟩,c⟩ w H;obtain⟨x,hx,-,h7⟩:=ah V;have F:XQ p j=x:=by simp[XQ,hx]
   have h6:=hlt x h7;have C:j<(p.map cu).length:=by simpa using V
   have E:(p.map cu)[j]?=some (cu x):=by rw[Zy,hx];rfl
   have b1:=jX .i64 D j f.1;have R:D / 2 ^ j<2^64:=Nb (Y2 _ _) f.1;have b2:bN .and (ZW ((D / 2 ^ j:Nat):Int)) (ZW 1)=.val (ZW ((D / 2 ^ j &&& 1:Nat):Int)):=qK _ 1 R (by decide);have b3:=EF x D h6 f.1;have ra:=λh=>(r1 h).nats;have l:D.testBit j = !decide (((D / 2 ^ j &&& 1:Nat):Int)=0):=by
    rw[<-mM,AU];have h2:D / 2 ^ j &&& 1=(D / 2 ^ j) % 2:=afo _;rw[h2];have:=US (D / 2 ^ j) (show 0<2 by decide)
    by_cases h3:D / 2 ^ j % 2=0
    ·rw[h3];simp
    ·have h4:D / 2 ^ j % 2=1:=by omega
     rw[h4];simp
   have next:(D.testBit j=true\/¬Wb (XQ p j) D)->∀v,v<j+1->D.testBit v=true\/¬Wb (XQ p v) D:=λh v hv=>by
    by_cases e:v=j
    ·subst e;exact h
    ·exact c v (by omega)
   by_cases c1:((D / 2 ^ j &&& 1:Nat):Int)=0
   ·by_cases c2:((x ^^^ (x &&& D):Nat):Int)=0
    ·have Q:EN x D=0:=by simpa [EN] using c2
     have r:=H6.1 Q;have W:j ∉ L:=λh=>by have:=(f.2 j).2 h;rw[l,c1]at this;simp at this
     have h9:D ||| B7 j<2^64:=O2 f.1 (wG j);simp only[sz,simprocAttr,u,h4,h5,w,b1,b2,b3,ra,C,E,cu,c1,c2];refine by6 (x:=(j:Int)) (hu.fr (by simp) (by rw[G.new_h,aF (by have:=hu.2.1;omega)])) (by simp[sx,sy,ci]) (by simp;omega) λg2 hu2 n2 f2=>?_;have M:bN .shl (ZW 1) (Z_ (j:Int))=.val (ZW (B7 j:Int)):=mU .i64 j;have e1:(L.map λi:Nat=>(i:Int))++[(j:Int)]=(L++[j]).map λi:Nat=>(i:Int):=by simp
     rw[e1]at hu2 ⊢;simp only[sz,simprocAttr,h5,M,BQ _ _ f.1 (wG j)];refine⟨p.length - (L++[j]).length,by simp;omega,L++[j],D ||| B7 j,tl,rfl,by simp at I ⊢;omega,QD O W V λq hq=>?_,bE0 f (by omega),K7 hG (by omega) (by rw[F];exact r),by simp[sx,St,h0],hu2⟩;rw[F]at hq;exact (f.2 q).1 (r q hq)
    ·have X:¬Wb (XQ p j) D:=λh=>c2 (by
      have:=H6.2 h;rw[F]at this;simp[EN]at this;simp[this])
     simp only[sz,simprocAttr,h0,u,h4,h5,w,H,b1,b2,b3,ra,C,E,cu,c1,c2,St];exact next (.inr X)
   ·simp only[sz,simprocAttr,h0,u,h4,h5,w,H,b1,b2,ra,C,E,cu,c1,St];exact next (.inl (by rw[l,Vf c1];rfl))
  ·rintro t df g' ⟨rfl,rfl,-,c⟩;obtain⟨v0,h1,N⟩:=bE1 O K;have A:AP p=false:=by
    cases hc:AP p with
    |false=>rfl
    | true =>
     have:=bA6 hp hc (T:=D) (λv hv hb=>by
      rcases c v hv with h|h
      ·rw[h]at hb;cases hb
      ·exact h) v0 h1
     exact absurd ((f.2 v0).1 this) N
   simp only[sz,simprocAttr,vE];exact⟨λ_=>True,[],.Z6,.bool false,rfl,⟨.Z6,rfl,by show 0<2^63;decide,rfl⟩,cE.2 (by rw[A])⟩
 ·have U:p.length<=L.length:=by simp at hb;omega
  have Y:tl=[]:=R_ (by omega);subst Y;have B:=QC O U;have A:=AE hG λv hv=>(f.2 v).2 (B.1 v hv);simp only[sz,simprocAttr,vF,h4];refine⟨λ_=>True,L.map (λi:Nat=>(i:Int)),_,_,rfl,⟨_,rfl,by simp;omega,trivial,_,hu.rows,Y7 (λa=>ay.2 rfl) _⟩,cE.2 (by rw[A])⟩
end
section
variable {nt:Nat}
theorem by3{C:ZO}{id:Nat}{ps:List Nat}{assign body:Code}{a b:SC}{ZP:Nat}{args:List AV}{t':T}
  (hg:g.h.get id=.loop nt t ps assign body ZP .ready none) (ha:cx C nt assign=a) (hb:cx C nt body=b) (hp:dO t nt ps args=some t')
  (h:wp C d (some id) a (λe t1 df g1=>e=.norm/\df=[]/\g1=g /\
   wp C d (some id) b (λe _ df g2=>df=[]/\g2.h.get id=.loop nt t ps assign body ZP .busy none/\((e=.norm/\K (.bool true) (g2.put id (.loop nt t ps assign body ZP .ready none)))\/(e=.ret/\K (.bool false) (g2.put id (.loop nt t ps assign body ZP .done (some .ret))))))
    t1 [] (g.put id (.loop nt t ps assign body ZP .busy none))) t' [] g) :
  (dx (I C) d id args g).sat K g D:=by
 subst ha;subst hb;unfold dx;rw[show g.get id=_ from hg];dsimp only;rw[hp];dsimp only;have h1:=o9 h;cases hc:(I C).code nt d (some id) assign t' [] g with
 |fail=>rw[hc]at h1;exact h1.elim
 | ok e t1 df g1 =>
  rw[hc]at h1;obtain⟨rfl,rfl,rfl,h2⟩:=h1;dsimp only;rw[show g1.get id=_ from hg];dsimp only;have k:=o9 h2;cases hc2:(I C).code nt d (some id) body t1 [] (g1.put id (.loop nt t ps assign body ZP .busy none)) with
  |fail=>rw[hc2]at k;exact k.elim
  | ok e t2 df2 g2 =>rw[hc2]at k;obtain⟨rfl,h4,h5⟩:=k;dsimp only;rw[show g2.get id=_ from h4];rcases h5 with⟨rfl,h5⟩|⟨rfl,h5⟩<;>exact h5
theorem GR{C:ZO}{f:Od}{ps:List Nat}{a b:SC}{df:List ZU}{fn:Nat}{first cap:List AV}{s:SF}(hv:f.get t=.ZH fn first cap)(he:C.ext fn=none)(hs:ZE C fn=some s)
  (hl:(first++(.NH (g.nx+1)::cap)).length<=s.nt)
  (h:∀assign body,cx C nt assign=a->cx C nt body=b ->
   wp C d none s.code (Xs C d s.res λ_ g2=>∃nt' t' ps' as' bd' dfr',(g2.h.get (g.nx+1)=.loop nt' t' ps' as' bd' dfr' .ready none/\Q .norm t (.mark g.nx::df) (g2.put (g.nx+1) (.loop nt' t' ps' as' bd' dfr' .exhausted none))) \/
     (g2.h.get (g.nx+1)=.loop nt' t' ps' as' bd' dfr' .done (some .ret)/\Q .ret t (.mark g.nx::df) (g2.put (g.nx+1) (.loop nt' t' ps' as' bd' dfr' .exhausted (some .ret)))))
    (bk 0 (first++(.NH (g.nx+1)::cap)) .nil) [] ((g.new (.ZP true)).new (.loop nt t ps assign body g.nx .ready none))) :
  wp C d none (.Yv nt f ps a b) Q t df g:=by
 intro assign body ha hb;have h:=j5 hs hl (h assign body ha hb);show (cj C (I C) nt d none (f.get t) ps assign body t (.mark g.nx::df) g.nx (g.new (.ZP true))).sat Q;rw[hv];unfold cj;dsimp only;rw[he];show (match (I C).call d fn (first++(AV.NH (g.nx+1)::cap)) ((g.new (.ZP true)).new (.loop nt t ps assign body g.nx .ready none)) with
  |.ok _ g2=>dB (I C) nt d none (g.nx+1) t (.mark g.nx::df) g2
  |.fail=>.fail).sat Q
 cases hc:(I C).call d fn (first++(AV.NH (g.nx+1)::cap)) ((g.new (.ZP true)).new (.loop nt t ps assign body g.nx .ready none)) with
 |fail=>rw[hc]at h;exact h.elim
 | ok v g2 =>
  rw[hc]at h;obtain⟨nt',t',ps',as',bd',dfr',h⟩:=h;show (dB (I C) nt d none (g.nx+1) t (.mark g.nx::df) g2).sat Q;unfold dB;rcases h with⟨h1,h2⟩|⟨h1,h2⟩
  ·rw[show g2.get (g.nx+1)=_ from h1];exact h2
  ·rw[show g2.get (g.nx+1)=_ from h1];dsimp only;rw[IQ];exact h2
def RwV(x:Node):VS:=λP k h v=>∃p,v=.ZH 169 [] [p] /\
 ((∃id cs,p=ZZ id/\P id/\h.get id=Z4 3 [cs]/\Rp.rp P k h x cs)\/∃t cs,p=.ZR t 3 [cs] 0 0/\t<=k/\Rp.rp ZX k .nil x cs)
theorem by2(x:Node):Qx (RwV x) 2:=by
 refine⟨λ{P k h v n} d r hn=>?_,λ{k h v n} r hn=>?_⟩
 ·obtain⟨p,rfl,r⟩:=r;obtain⟨n,rfl⟩:∃q,n=q+2:=⟨n - 2,by omega⟩;rcases r with⟨id,cs,rfl,-,hg,r⟩|⟨t,cs,rfl,ht,r⟩
  ·obtain⟨cs',e,r'⟩:=Rp.ZS (n:=n) d r (by show (_:Nat)<=n;exact Y1 (show Rp.dp Node<=20 by decide) (by omega)) (by decide);obtain⟨m,a,l2⟩:=Rp.tag (n:=aw) r' (by decide);refine⟨.ZH 169 [] [.ZR (Nat.max d (Nat.max m 0)) 3 [cs'] 0 0],?_,_,rfl,.inr ⟨_,cs',rfl,?_,r'⟩⟩
   ·have:Hx.ZS h d (n+1) (ZZ id)=some (.ZR (Nat.max d (Nat.max m 0)) 3 [cs'] 0 0):=by simp only[Hx.ZS,hg,show Nat.beq 0 0=true from rfl,aD,e,it,jv,a]
    simp only[Hx.ZS,aD]at this ⊢;rw[this]
   ·show max d (max m 0)<=max k d;omega
  ·refine⟨.ZH 169 [] [.ZR t 3 [cs] 0 0],rfl,_,rfl,.inr ⟨t,cs,rfl,by omega,Rp.mono r (λi hi=>hi.elim) (by omega)⟩⟩
 ·obtain⟨p,rfl,r⟩:=r;obtain⟨n,rfl⟩:∃q,n=q+2:=⟨n - 2,by omega⟩;rcases r with⟨id,cs,rfl,b,-⟩|⟨t,cs,rfl,ht,r⟩
  ·exact b.elim
  ·exact⟨Nat.max t 0,rfl,by show max t 0<=k;omega⟩
theorem Gb[Z0](hd:0<d)(hm:Zl x ZX 0 g.h v) :
  ∃pa ra,ae C0 d 156 [v] g=.val (.ZH 169 [] [.ZR 0 3 [[Z_ x.Z5,pa,ra]] 0 0])/\ZT ZX 0 .nil x.Z9 pa/\ZT ZX 0 .nil x.rows ra:=by
 have e0:=jV d hm;obtain⟨cs,rfl,hc⟩:=hm;obtain⟨a,b,rfl,hR,hN⟩:=cM.1 hc;have key:∃r,ae C0 d 156 [.agg [Z_ x.Z5,a,b]] g=.val r/\RwV x ZX 0 .nil r:=by rw[Zn];refine aI KM (xs:=[.agg [Z_ x.Z5,a,b]]) (by simp only[aD,e0]) (by simp[Ab]) (by2 x) (by decide) hd ?_;simp only[sz,simprocAttr,Ab,Bc];exact⟨λ_=>True,_,rfl,.inl ⟨0,_,rfl,trivial,by simp[sx],Rp.tree hc (ZV _)⟩⟩
 obtain⟨r,h1,p,rfl,h2⟩:=key;rcases h2 with⟨id,cs,rfl,e,-⟩|⟨t,cs,rfl,ht,hr⟩
 ·exact e.elim
 ·have:t=0:=by omega
  subst this;obtain⟨a',b',rfl,c,k⟩:=cM.1 hr;exact⟨a',b',h1,c,k⟩
theorem Bg(fo l sz i off:Nat)(rows:List (List AV)):Sd fo (.ZR l sz rows i off)=.val (.ZR l sz rows i (off+fo)):=rfl
theorem by1[Z0]{id:Nat}{c:Int}(hra:ZT ZX 0 .nil Zw ra)(J:Nat->H->Prop)(E:G->Prop)
  (step:∀(j:Nat) (r:List Int) (z:AV) (g:G) (K':AV->G->Prop) (D:ZU->Prop),Zw[j]?=some r->ZT ZX 0 .nil r z->g0.nx<=g.nx->J j g.h ->
   (∀g',J (j+1) g'.h->g.nx<=g'.nx->K' (.bool true) g')->(∀g',E g'->K' (.bool false) g')->(dx (I C0) d id [Z_ (j:Int),z] g).sat K' g D)
  (h0:J 0 g0.h) (fin:∀g',J Zw.length g'.h->g0.nx<=g'.nx->K (.Zz []) g') (finE:∀g',E g'->K (.Zz []) g') :
  wp C0 d none io.code (Xs C0 d io.res K) (bk 0 [.NH id,.ZR 0 3 [[Z_ c,pa,ra]] 0 0] .nil) [] g0:=by
 obtain⟨rr,i,o,l,n⟩:=Ek hra;simp only[sz,simprocAttr,io,vB,Bg,jR,hra.len];refine b_ (m:=Zw.length) hra.1 (λj t df g=>df=[]/\St t [(0,.NH id),(6,ra)]/\J j g.h/\g0.nx<=g.nx) ⟨rfl,by simp[St,sx],h0,ZV _⟩ (by simp[sx]) (by simp[sx]) (by decide) (by rintro j t df g v s (rfl|rfl|rfl)<;>simp[St,sx]) ?_ ?_
 ·rintro j t df g e ⟨rfl,⟨h0,b,-⟩,a,k⟩ h8 h7;obtain⟨r,hr,-,-⟩:=ah e;obtain⟨z,q2,q3,hz⟩:=l j r hr;have f:=n (by omega);simp only[sz,simprocAttr,h0,b,h8,i,q2,q3];show (dx (I C0) d id [Z_ (j:Int),z] g).sat _ _ _;refine step j r z g _ _ hr hz k a (λg' hJ' hn'=>?_) λg' hE=>?_
  ·simp only[sz,simprocAttr,h7,h8];simp[St,sx,h0,b,hJ',Y1 k hn']
  ·simp only[sz,simprocAttr];exact finE g' hE
 ·rintro t df g ⟨rfl,-,a,k⟩;simp only[sx,↓reduceIte];exact fin g a k
theorem by0[Z0]:C0.ext 169=none:=by kernel_rfl
structure RowQ (b:Nat) (g2 g3:G) (e:Ex) (A B:Prop):Prop where
 nx:g2.nx<=g3.nx
 fr:∀i,b<=i->i<g2.nx->g3.h.get i=g2.h.get i
 st:(e=.norm/\A)\/(e=.ret/\B)
theorem LZ[Z0]{y p:Nat}{c:Int}{ca cb:SC}(hra:ZT ZX 0 .nil Zw ra)(hv:ZY t y=.ZH 169 [] [.ZR 0 3 [[Z_ c,pa,ra]] 0 0])(hp:p<nt)(hq:q<nt)
  (J:Nat->H->Prop) (E:H->Prop) (hJ:∀j h h',(∀i,i<g.nx->h'.get i=h.get i)->J j h->J j h') (hE:∀h h',(∀i,i<g.nx->h'.get i=h.get i)->E h->E h') (h0:J 0 g.h)
  (step:∀(j:Nat) (r:List Int) (z:AV) (g1:G),Zw[j]?=some r->ZT ZX 0 .nil r z->J j g1.h->g.nx+2<=g1.nx ->
   wp C0 d (some (g.nx+1)) ca (λe t1 df g1'=>e=.norm/\df=[]/\g1'=g1/\∀g2:G,g2.nx=g1.nx->(∀i,i≠g.nx+1->g2.h.get i=g1.h.get i) ->
    wp C0 d (some (g.nx+1)) cb (λe _ df g3=>df=[]/\RowQ g.nx g2 g3 e (J (j+1) g3.h) (E g3.h)) t1 [] g2)
    (f_ (f_ t p (Z_ (j:Int))) q z) [] g1)
  (fin:∀g',J Zw.length g'.h->g.nx+2<=g'.nx->g'.h.get g.nx=.ZP true->Q .norm t [.mark g.nx] g')
  (finE:∀g',E g'.h->g.nx+2<=g'.nx->g'.h.get g.nx=.ZP true->Q .ret t [.mark g.nx] g') :
  wp C0 d none (.Yv nt (.t y) [p,q] ca cb) Q t [] g:=by
 refine GR (fn:=169) (first:=[]) (cap:=[.ZR 0 3 [[Z_ c,pa,ra]] 0 0]) (s:=io) hv by0 Hb (by simp[io]) ?_;intro assign body ha hb;have e1:((g.new (.ZP true)).new (.loop nt t [p,q] assign body g.nx .ready none)).nx=g.nx+2:=by simp
 refine by1 (g0:=(g.new (.ZP true)).new (.loop nt t [p,q] assign body g.nx .ready none)) (id:=g.nx+1) hra
  (λj h=>J j h/\h.get g.nx=.ZP true/\h.get (g.nx+1)=.loop nt t [p,q] assign body g.nx .ready none)
  (λg'=>E g'.h/\g'.h.get g.nx=.ZP true/\g'.h.get (g.nx+1)=.loop nt t [p,q] assign body g.nx .done (some .ret)/\g.nx+2<=g'.nx) ?_ ?_ ?_ ?_
 ·rintro j r z g1 K' D hr hz k ⟨a1,a2,a⟩ kk kE;rw[e1]at k;refine by3 a ha hb (t':=f_ (f_ t p (Z_ (j:Int))) q z) ?_ ?_
  ·simp only[dO,aa,YD,ZN hp,ZN hq];rfl
  ·refine ch _ (step j r z g1 hr hz a1 (by omega)) ?_;rintro e t1 df g1' ⟨rfl,rfl,rfl,h⟩;refine⟨rfl,rfl,rfl,?_⟩;have hl:g.nx+1<g1'.nx:=by omega
   refine ch _ (h (g1'.put (g.nx+1) (.loop nt t [p,q] assign body g.nx .busy none)) (by simp) (λi hi=>by simp[Za,hi])) ?_;rintro e t2 df g3 ⟨rfl,⟨b2,b,b1⟩⟩;have l:g3.h.get (g.nx+1)=.loop nt t [p,q] assign body g.nx .busy none:=by rw[b _ (by omega) (by simpa using hl)];simp[Za]
   have f:g3.h.get g.nx=.ZP true:=by rw[b _ (by omega) (by simp;omega)];simp[Za,a2]
   refine⟨rfl,l,?_⟩;rcases b1 with⟨rfl,b1⟩|⟨rfl,b1⟩
   ·refine .inl ⟨rfl,kk _ ⟨hJ _ g3.h _ (λi hi=>by simp[Za,show ¬i=g.nx+1 by omega]) b1,?_,?_⟩ (by simpa using b2)⟩
    ·simp[Za,f]
    ·simp[Za]
   ·refine .inr ⟨rfl,kE _ ⟨hE g3.h _ (λi hi=>by simp[Za,show ¬i=g.nx+1 by omega]) b1,?_,?_,?_⟩⟩
    ·simp[Za,f]
    ·simp[Za]
    ·simp at b2 ⊢;omega
 ·refine⟨hJ 0 g.h _ (λi hi=>?_) h0,?_,?_⟩
  ·simp[Za,show ¬i=g.nx+1 by omega,show ¬i=g.nx by omega]
  ·simp[Za]
  ·simp[Za]
 ·rintro g' ⟨a1,a2,a⟩ k;rw[e1]at k;refine⟨_,_,_,_,_,_,.inl ⟨a,fin _ (hJ _ g'.h _ (λi hi=>by simp[Za,show ¬i=g.nx+1 by omega]) a1) (by simpa using k) ?_⟩⟩;simp[Za,a2]
 ·rintro g' ⟨a1,a2,a,k⟩;refine⟨_,_,_,_,_,_,.inr ⟨a,finE _ (hE g'.h _ (λi hi=>by simp[Za,show ¬i=g.nx+1 by omega]) a1) (by simpa using k) ?_⟩⟩;simp[Za,a2]
end
abbrev NwM:Type:=Zv×List Int×List Nat×List Int
theorem C6{P:Nat->Prop}{x:NwM}{cs:List AV}:Rp.rp P k h x cs↔∃a b c e,cs=[Z_ x.1.Z8,a,b,c,e]/\ZT P k h x.1.Z7 a/\ZT P k h x.2.1 b/\ZT P k h x.2.2.1 c/\ZT P k h x.2.2.2 e:=by
 constructor
 ·rintro⟨c1,d,rfl,h1,f,i,rfl,⟨b,rfl,hb⟩,j,l,rfl,⟨c,rfl,hc⟩,⟨e,rfl,he⟩⟩;obtain⟨a,rfl,ha⟩:=fY.1 h1;exact⟨a,b,c,e,rfl,ha,hb,hc,he⟩
 ·rintro⟨a,b,c,e,rfl,ha,hb,hc,he⟩;exact⟨[_,a],[b,c,e],rfl,fY.2 ⟨a,rfl,ha⟩,[b],[c,e],rfl,⟨b,rfl,hb⟩,[c],[e],rfl,⟨c,rfl,hc⟩,⟨e,rfl,he⟩⟩
theorem J1:∀{l:List Int},(∀x∈l,0<=x)->0<=l.sum
 |[],_=>by simp
 | x::l,h=>by have:=J1 (l:=l) λy hy=>h y (by simp[hy]);have:=h x (by simp);rw[TE];omega
theorem bx_(h:∀x∈l,0<=x)(j:Nat):(l.take j).sum<=l.sum:=by
 have:=J1 (l:=l.drop j) λx hx=>h x (R2 hx);have e:l.sum=(l.take j).sum+(l.drop j).sum:=by rw[<-ae7,IV]
 omega
theorem F7:∀{l:List Int},(∀x∈l,0<=x)->∀x∈l,x<=l.sum
 |[],_,x,hx=>by simp at hx
 | y::l,h,x,hx=>by
  have h1:=J1 (l:=l) λz hz=>h z (by simp[hz]);have h2:=h y (by simp);rw[TE];rcases Y0.1 hx with rfl|hx
  ·omega
  ·have:=F7 (l:=l) (λz hz=>h z (by simp[hz])) x hx;omega
def zG(gr:Int)(cs:List Int)(x:Node):Bool:=decide ((x.rows.length:Int)=G5 (G3 cs x.Z9))&&x.rows.all (Db gr x.Z5)
structure FJ (gr:Int) (r:List Int) (z:AV) (j:Nat) (t:T):Prop where
 st:St t [(2,ZZ 0),(3,ZZ 1),(4,ZZ 2),(9,z),(40,z),(10,Z_ (gr - (r.take j).sum))]
 nn:∀x∈r.take j,0<=x
 le:(r.take j).sum<=gr
theorem bx9[Z0]{rd:Option Nat}{r:List Int}{z:AV}(hz:ZT ZX 0 .nil r z)(hg1:1<=gr/\gr<=60)
  (ht:St t [(2,ZZ 0),(3,ZZ 1),(4,ZZ 2),(9,z),(40,z),(10,Z_ gr)]) (h42:ZY t 42=Z_ 0) (h41:ZY t 41=Z_ (r.length:Int)) (e2:g.h.get 2=Z4 1 [[.bool false]])
  (bad:∀t,(∀Z5,Db gr Z5 r=false)->Q .ret t [] (g.put 2 (Z4 1 [[.bool false]])))
  (fin:∀t,(∀x∈r,0<=x)->r.sum<=gr->St t [(2,ZZ 0),(3,ZZ 1),(4,ZZ 2),(9,z),(10,Z_ (gr - r.sum))]->Q (.exit 4) t [] g) :
  Uk (wp C0 d rd fj) Q t [] g:=by
 have rz:=λh=>(hz.tree (h':=h) (ZV 0)).ints;simp only[fj];refine b_ (m:=r.length) hz.1 (λj t df g'=>df=[]/\g'=g/\FJ gr r z j t) ⟨rfl,rfl,by simpa using ht,by simp,by simp;omega⟩ h42 h41 (by decide)
  (by rintro j t df g v s (rfl|rfl|rfl) ⟨a1,a2,⟨b1,b2,p,q,u,w,-⟩,A,B⟩<;>exact⟨a1,a2,by simp[St,sx,b1,b2,p,q,u,w],A,B⟩) ?_ ?_
 ·rintro j t df g' o ⟨rfl,rfl,⟨⟨h2,f,h4,h9,a,k,-⟩,b,e⟩⟩ h42 h41;obtain⟨y,D,c,hm⟩:=ah o;have i:j<(r.map ci).length:=by simpa using o
  have n:(r.map ci)[j]?=some (ci y):=by rw[Zy,D];rfl
  have C:=J1 b
  by_cases c1:y<0
  ·simp only[sz,simprocAttr,h4,a,h42,rz,i,n,ci,c1,e2];exact bad _ (λcard=>by rw[<-HF,Db];simp only[Zk,RY,Xw];rintro⟨⟨-,h⟩,-⟩;have:=h y hm;omega)
  ·by_cases c2:gr - (r.take j).sum<y
   ·simp only[sz,simprocAttr,h4,a,k,h42,rz,i,n,ci,c1,c2,e2];exact bad _ (λcard=>by rw[<-HF,Db];simp only[Zk,RY,Xw];rintro⟨⟨-,h⟩,hs⟩;have h1:=bx_ (l:=r) (λx hx=>(h x hx).1) (j+1);rw[c,BF]at h1;omega)
   ·have w1:IntKind.wrap .i64 (gr - (r.take j).sum - y)=gr - (r.take (j+1)).sum:=by rw[aq,c,BF];omega
    simp only[sz,simprocAttr,a,k,h42,h41,rz,i,n,ci,c1,c2,w1];refine⟨by simp[St,sx,h2,f,h4,h9,a],λx hx=>?_,by rw[c,BF];omega⟩;rw[c]at hx;rcases Tn.1 hx with h|h
    ·exact b x h
    ·rw[Wa.1 h];omega
 ·rintro t df g' ⟨rfl,rfl,⟨⟨h2,f,h4,h9,a,k,-⟩,b,e⟩⟩;rw[Xo]at b e k;exact fin t b e ⟨h2,f,h4,h9,k,trivial⟩
structure FlJ (cs1 cs2:List AV) (gr Z5:Int) (Zw:List (List Int)) (j:Nat) (h:H):Prop where
 a0:h.get 0=Z4 5 [cs1]
 a1:h.get 1=Z4 3 [cs2]
 a2:h.get 2=Z4 1 [[.bool false]]
 all:∀r∈Zw.take j,Db gr Z5 r=true
structure FlE (gr Z5:Int) (Zw:List (List Int)) (h:H):Prop where
 a2:h.get 2=Z4 1 [[.bool false]]
 ex:∃r∈Zw,Db gr Z5 r=false
theorem bx8[Z0]{k1:Nat}{P1:Nat->Prop}{m:NwM}(hd:0<d)(hm:Zl m P1 k1 g.h v)(hx:Zl x P2 k2 g.h w)(hk:k2=0/\P2=ZX)(hg1:1<=m.1.Z8/\m.1.Z8<=60)(hc:∀c∈m.2.1,1<=c/\c<=4)
  (hp:∀p∈x.Z9,0<=p/\p<m.2.1.length) (hpl:x.Z9.length<=8):ae C0 d 130 [v,w] g=.val (.bool (zG m.1.Z8 m.2.1 x)):=by
 obtain⟨rfl,rfl⟩:=hk;obtain⟨v',e1,cs,rfl,V⟩:=nC (cH m) (by decide) d hm;obtain⟨nb,cb,sb,ob,rfl,-,U,-,-⟩:=C6.1 V;have e2:=jV d hx;obtain⟨cs2,rfl,A⟩:=hx;obtain⟨pa,ra,rfl,N,F⟩:=cM.1 A;have B:∀h,Zl x ZX 0 h (.agg [Z_ x.Z5,pa,ra]):=λh=>⟨_,rfl,Rp.tree A (ZV _)⟩;have F:=F.tree (h':=.nil) (ZV 0);have rp:=λh=>(N.tree (h':=h) (ZV 0)).ints;have rc:=λh=>(U.tree (h':=h) (ZV _)).ints;have pl:=λg=>(N.tree (h':=.nil) (ZV 0)).len g;have rl:=λg=>F.len g;rw[Zn];refine dA ww (xs:=[.agg [Z_ m.1.Z8,nb,cb,sb,ob],.agg [Z_ x.Z5,pa,ra]]) (by simp only[aD,e1,e2]) (by simp[gW]) hd ?_;simp only[sz,simprocAttr,gW];obtain⟨g0,hg0⟩:∃g0,g0=((G.empty.new (Z4 5 [[Z_ m.1.Z8,nb,cb,sb,ob]])).new (Z4 3 [[Z_ x.Z5,pa,ra]])).new (Z4 1 [[.bool false]]):=⟨_,rfl⟩;rw[<-hg0];have f0:g0.h.get 0=Z4 5 [[Z_ m.1.Z8,nb,cb,sb,ob]]:=by rw[hg0];simp[sx,Za]
 have f1:g0.h.get 1=Z4 3 [[Z_ x.Z5,pa,ra]]:=by rw[hg0];simp[sx,Za]
 have f2:g0.h.get 2=Z4 1 [[.bool false]]:=by rw[hg0];simp[sx]
 have f3:g0.nx=3:=by rw[hg0];simp[sx]
 clear hg0;simp only[sz,simprocAttr,kN,f1,pl,jL];refine b_ (m:=x.Z9.length) (by omega) (λj t df g=>df=[]/\g=g0/\St t [(2,ZZ 0),(3,ZZ 1),(4,ZZ 2),(14,pa),(5,Z_ (G5 (G3 m.2.1 (x.Z9.take j))))])
  ⟨rfl,rfl,by simp[St,sx,G5,G3]⟩ (by simp[sx]) (by simp[sx]) (by decide) (by rintro j t df g v s (rfl|rfl|rfl)<;>simp[St,sx]) ?_ ?_
 ·rintro j t df g hj ⟨rfl,rfl,⟨h2,k,h4,n,h5,-⟩⟩ T R;obtain⟨p,X,I,W⟩:=ah hj;obtain⟨p0,p1⟩:=hp p W;obtain⟨p,rfl⟩:=Wu p0;have f:p<m.2.1.length:=by omega
  have u1:j<(x.Z9.map ci).length:=by simpa using hj
  have u2:(x.Z9.map ci)[j]?=some (ci (p:Int)):=by rw[Zy,X];rfl
  have u3:p<(m.2.1.map ci).length:=by simpa using f
  have u4:(m.2.1.map ci)[p]?=some (ci m.2.1[p]):=by rw[Zy,Zq f];rfl
  have e3:G5 (G3 m.2.1 (x.Z9.take (j+1)))=G5 (G3 m.2.1 (x.Z9.take j))*m.2.1[p]:=by rw[I,fW,uc];congr 1;simp[G3,G5,Zq f]
  have hb:=cD (l:=G3 m.2.1 (x.Z9.take (j+1))) (ct hc λq hq=>hp q (Xp hq));have ha:=fH (a:=(G3 m.2.1 (x.Z9.take (j+1))).length) (b:=8) (by simp[G3];omega);have h7:(4:Int) ^ 8=65536:=by decide
  have w1:IntKind.wrap .i64 (G5 (G3 m.2.1 (x.Z9.take j))*m.2.1[p])=G5 (G3 m.2.1 (x.Z9.take (j+1))):=by rw[<-e3,aq]
  simp only[sz,simprocAttr,h2,n,h5,T,R,f0,rp,rc,u1,u2,u3,u4,ci,w1];simp[St,sx,h2,k,h4,n]
 rintro t df g ⟨rfl,rfl,⟨h2,k,h4,n,h5,-⟩⟩;rw[Xo]at h5;simp only[jO]
 by_cases c1:(x.rows.length:Int)=G5 (G3 m.2.1 x.Z9)
 ·obtain⟨pa',ra',er,h6,O⟩:=Gb (d:=d+1) (g:=g) (abc d) (B g.h);refine gv (P:=λt' df g'=>df=[]/\g'=g/\St t' [(2,ZZ 0),(3,ZZ 1),(4,ZZ 2)]) ?_ ?_
  ·simp only[sz,simprocAttr,k,h5,f1,rl,c1];simp[St,sx,h2,k,h4]
  clear h2 k h4 h5 n;rintro t df g ⟨rfl,rfl,h2,k,h4,-⟩;rw[eO,eO];simp only[sz,simprocAttr,k,f1,er];refine LZ (c:=x.Z5) (pa:=pa') O (by simp[sx]) (by decide) (by decide)
   (FlJ [Z_ m.1.Z8,nb,cb,sb,ob] [Z_ x.Z5,pa,ra] m.1.Z8 x.Z5 x.rows)
   (FlE m.1.Z8 x.Z5 x.rows) ?_ ?_ ⟨f0,f1,f2,by simp⟩ ?_ ?_ ?_
  ·rintro j h h' L ⟨a0,a1,a2,u⟩;exact⟨by rw[L 0 (by omega),a0],by rw[L 1 (by omega),a1],by rw[L 2 (by omega),a2],u⟩
  ·rintro h h' L ⟨a2,u⟩;exact⟨by rw[L 2 (by omega),a2],u⟩
  ·rintro j r z g1 hr hz ⟨a0,a1,a2,u⟩ hn;obtain⟨r',o,I,H⟩:=ah (l:=x.rows) (j:=j) (tI.1 hr).1;rw[hr]at o;injection o with o;subst o;simp only[sz,simprocAttr,jK];intro g2 Z D;have Y:g2.h.get 0=Z4 5 [[Z_ m.1.Z8,nb,cb,sb,ob]]:=by rw[D 0 (by omega),a0]
   have b1:g2.h.get 1=Z4 3 [[Z_ x.Z5,pa,ra]]:=by rw[D 1 (by omega),a1]
   have b2:g2.h.get 2=Z4 1 [[.bool false]]:=by rw[D 2 (by omega),a2]
   simp only[sz,simprocAttr,jM,h2,Y,hz.len];refine bx9 (gr:=m.1.Z8) (r:=r) (z:=z) hz hg1 (by simp[St,sx,h2,k,h4]) (by simp[sx]) (by simp[sx]) b2 ?_ ?_
   ·rintro t Q;simp only[sx,sy];exact⟨by simp,λi h1 h2=>by simp[Za,show ¬i=2 by omega],.inr ⟨rfl,by simp[Za],r,H,Q _⟩⟩
   ·rintro t M h8 ⟨h2,k,h4,h9,K,-⟩;have J:=λg=>hz.len g
    by_cases c2:(r.length:Int)=x.Z5
    ·by_cases c3:m.1.Z8 - r.sum=0
     ·simp only[sz,simprocAttr,dl,k,h9,K,J,b1,c2,c3];refine⟨ZV _,λi _ _=>rfl,.inl ⟨rfl,Y,b1,b2,λy hy=>?_⟩⟩;rw[I]at hy;rcases Tn.1 hy with h|h
      ·exact u y h
      ·rw[Wa.1 h,Db];simp only[Zk,RY,Xw];exact⟨⟨c2,λq hq=>⟨M q hq,by have:=F7 M q hq;omega⟩⟩,by omega⟩
     ·have e:Db m.1.Z8 x.Z5 r=false:=by rw[Db];simp;intros;omega
      simp only[sz,simprocAttr,dl,k,h4,h9,K,J,b1,b2,c2,c3];exact⟨by simp,λi h1 h2=>by simp[Za,show ¬i=2 by omega],.inr ⟨rfl,by simp[Za],r,H,e⟩⟩
    ·have e:Db m.1.Z8 x.Z5 r=false:=by rw[Db];simp[c2]
     simp only[sz,simprocAttr,dl,k,h4,h9,J,b1,b2,c2];exact⟨by simp,λi h1 h2=>by simp[Za,show ¬i=2 by omega],.inr ⟨rfl,by simp[Za],r,H,e⟩⟩
  ·rintro g' ⟨a0,a1,a2,u⟩ hn C;rw[Xo]at u;have E:zG m.1.Z8 m.2.1 x=true:=by rw[zG,Xw.2 u];simp[c1]
   simp only[sz,simprocAttr,jN,h4,a2];refine jE (by simp[Za,show ¬g.nx=2 by omega,C]) ?_;simp only[sx,sy,↓reduceIte,Nat.reduceEqDiff,h4,E];simp[show ¬(2=g.nx) by omega]
   rfl
  ·rintro g' ⟨a2,r,hr,e⟩ hn C;have E:zG m.1.Z8 m.2.1 x=false:=by
    rw[zG];have:x.rows.all (Db m.1.Z8 x.Z5)=false:=by rw[<-HF,Xw];intro h;rw[h r hr]at e;cases e
    rw[this,adS]
   simp only[sx];refine jE C ?_;simp only[sx,sy,↓reduceIte,Nat.reduceEqDiff,h4,E];rw[bJ,a2]
   rfl
 ·simp only[sz,simprocAttr,k,h4,h5,f1,f2,rl,c1];rw[zG];simp[c1]
theorem Ed:∀{l:List Int} {v:Nat},(∀x∈l,0<=x/\x<64)->((Dn l).testBit v=true↔(v:Int)∈l):=by
 have key:∀(l:List Int) (s v:Nat),(∀x∈l,0<=x/\x<64)->((l.foldl (λs x=>s ||| B7 x.toNat) s).testBit v=true↔s.testBit v=true\/(v:Int)∈l):=by
  intro l
  induction l with
  |nil=>intro s v _;simp
  | cons x l ih =>
   intro s v h;have hx:=h x (by simp);rw[IS,ih _ _ λy hy=>h y (by simp[hy]),x_,EG (show x.toNat<64 by omega),T6,RY,Y0];constructor
   ·rintro ((h|h)|h)
    ·exact .inl h
    ·exact .inr (.inl (by omega))
    ·exact .inr (.inr h)
   ·rintro (h|h|h)
    ·exact .inl (.inl h)
    ·exact .inl (.inr (by omega))
    ·exact .inr h
 intro l v h;have:=key l 0 v h;simpa [Dn] using this
theorem bx7(hk:k<=64)(h:∀x∈l,0<=x/\x<k):Dn l<2 ^ k:=by
 have hb:∀i,k<=i->(Dn l).testBit i=false:=λi hi=>by rw[<-HF,Ed λx hx=>by have:=h x hx;omega];intro hm;have:=h _ hm;omega
 exact Nat.lt_pow_two_of_testBit _ λi hi=>hb i hi
structure Xx (n:Zv) (b cv sv:AV) (q:Nat) (X:List Int) (Y:List Nat) (g:G):Prop where
 h0:g.h.get 0=Z4 2 [[Z_ n.Z8,b]]
 h1:g.h.get 1=Z4 5 [[Z_ 0,.Z6,.Z6,.Z6,.Z6]]
 hq:g.h.get q=Z4 5 [[Z_ n.Z8,b,cv,sv,.Z6]]
 hc:Own g 2 cv 1 (X.map ci)
 hs:Own g 2 sv 1 (Y.map cu)
 q2:2<=q
 qn:q<g.nx
 d1:Zi cv≠some q
 d2:Zi sv≠some q
 d3:∀i,Zi cv=some i->Zi sv≠some i
theorem Xx.fr{n:Zv}{b cv sv:AV}{q:Nat}{X:List Int}{Y:List Nat}{g':G}(h:Xx n b cv sv q X Y g)(f:Fr g g'):Xx n b cv sv q X Y g' :=⟨by rw[f.2 0 (by have:=h.qn;have:=h.q2;omega),h.h0],by rw[f.2 1 (by have:=h.qn;have:=h.q2;omega),h.h1],by rw[f.2 q h.qn,h.hq],h.hc.step f,h.hs.step f,h.q2,Vd h.qn f.1,h.d1,h.d2,h.d3⟩
def hQ(n:Zv)(o:List Int):NwM:=if Dm n then (n,IO n,ET n,o) else (⟨0,[]⟩,[],[],[])
def Kf(n:Zv):VS:=λP k h v=>∃o:List Int,True/\mQ (Zl (hQ n o)) (One (if Dm n then (0:Int) else 50)) P k h v
section
variable {d:Nat}{n:Zv}{b cv sv:AV}{q:Nat}{rows:List (List AV)}
def X9(q:Nat):List (Nat×AV):=[(1,ZZ 0),(2,ZZ 1),(4,ZZ q)]
theorem bx6[Z0](hn:¬NR n)(h1:g.h.get 1=Z4 5 [[Z_ 0,.Z6,.Z6,.Z6,.Z6]])(t2:ZY t 2=ZZ 1)(t3:ZY t 3=Z_ 50) :
  Xs C0 d pK.res (λv g'=>∃P,Kf n P 0 g'.h v) .ret t [] g:=by
 have hf:Dm n=false:=by
  cases h:Dm n with
  |false=>rfl
  |true=>exact absurd (bU.1 h) hn
 simp only[pK,sx,sy,↓reduceIte,Nat.reduceAdd,Nat.reduceLeDiff,t2,t3,h1];refine⟨λ_=>True,[],trivial,_,_,rfl,⟨_,rfl,?_⟩,?_⟩
 ·rw[hQ,hf];exact C6.2 ⟨.Z6,.Z6,.Z6,.Z6,rfl,⟨by show 0<2^63;decide,rfl⟩,⟨by show 0<2^63;decide,rfl⟩,⟨by show 0<2^63;decide,rfl⟩,⟨by show 0<2^63;decide,rfl⟩⟩
 ·rw[hf];exact ay.2 rfl
structure Rd0 (n:Zv) (b cv sv:AV) (q j:Nat) (t:T) (g:G):Prop where
 st:St t ((48,b)::(5,Z_ (G5 ((IO n).take j)))::X9 q)
 hp:Xx n b cv sv q ((IO n).take j++List.replicate (n.Z7.length - j) 0) (List.replicate n.Z7.length 0) g
 ok:∀x∈n.Z7.take j,1<=x.Z5/\x.Z5<=4
theorem bx5[Z0](hl:n.Z7.length<=8)(hN:ZT ZX 0 .nil n.Z7 b)(r1:∀h,ak h 3 b=some rows)(r2:rows.length=n.Z7.length)
  (r3:∀(i:Nat) (x:Node),n.Z7[i]?=some x->∃pa ra,rows[i]?=some [Z_ x.Z5,pa,ra]/\i<rows.length/\ZT ZX 0 .nil x.Z9 pa/\ZT ZX 0 .nil x.rows ra) (r4:0<n.Z7.length->nq b=true)
  (h0:Rd0 n b cv sv q 0 t g) (h50:ZY t 50=Z_ 0) (h49:ZY t 49=Z_ (n.Z7.length:Int))
  (bad:∀t g,¬NR n->g.h.get 1=Z4 5 [[Z_ 0,.Z6,.Z6,.Z6,.Z6]]->ZY t 2=ZZ 1->ZY t 3=Z_ 50->Q .ret t [] g)
  (fin:∀t g,Rd0 n b cv sv q n.Z7.length t g->Q (.exit 0) t [] g):Uk (wp C0 d none rM) Q t [] g:=by
 simp only[rM];refine b_ (m:=n.Z7.length) (by omega) (λj t df g=>df=[]/\Rd0 n b cv sv q j t g) ⟨rfl,h0⟩ h50 h49 (by decide)
  (by rintro j t df g v s (rfl|rfl|rfl) ⟨a1,⟨b1,b2,N,O,R,-⟩,c1,u⟩<;>exact⟨a1,by simp[St,X9,sx,b1,b2,N,O,R],c1,u⟩) ?_ ?_
 ·rintro j t df g V ⟨rfl,⟨⟨f,h5,h1,h2,h4,-⟩,hp,H⟩⟩ h50 h49;obtain⟨x,hx,I,J⟩:=ah V;obtain⟨pa,ra,q1,hlt,Y,h3⟩:=r3 j x hx;have h8:=r4 (by omega);have q2:=hp.q2;have qn:=hp.qn;have o:¬(1=g.nx):=by omega
  have M:¬(q=g.nx):=by omega
  have f1:Fr g (g.new (Z4 3 [[Z_ 0,.Z6,.Z6]])):=Fr.new _ _;have badn:¬(1<=x.Z5/\x.Z5<=4)->¬NR n:=λh hr=>h (hr.Z5 x J)
  by_cases c1:x.Z5<1
  ·simp only[sz,simprocAttr,h2,f,h50,r1,hlt,q1,hp.h1,o,c1];exact bad _ _ (badn (by omega)) (by simp[Za]) (by simp[sx,h2]) (by simp[sx])
  ·by_cases u:4<x.Z5
   ·simp only[sz,simprocAttr,h2,f,h50,r1,hlt,q1,hp.h1,o,c1,u];exact bad _ _ (badn (by omega)) (by simp[Za]) (by simp[sx,h2]) (by simp[sx])
   ·have l:∀y∈n.Z7.take (j+1),1<=y.Z5/\y.Z5<=4:=λy w=>by
     rw[I]at w;rcases Tn.1 w with h|h
     ·exact H y h
     ·rw[Wa.1 h];omega
    have D:∀c∈(IO n).take (j+1),1<=c/\c<=4:=λc hc=>by rw[IO,<-VX]at hc;obtain⟨y,w,rfl⟩:=YY.1 hc;exact l y w
    have Z:=cD D;have X:=fH (a:=((IO n).take (j+1)).length) (b:=8) (by rw[Rk];omega);have L:(4:Int) ^ 8=65536:=by decide
    have E:(IO n)[j]?=some x.Z5:=by simp[IO,hx]
    have ets:(IO n).take (j+1)=(IO n).take j++[x.Z5]:=by rw[NA,E];rfl
    have e1:G5 ((IO n).take (j+1))=G5 ((IO n).take j)*x.Z5:=by rw[ets];exact yK _ _
    have w1:IntKind.wrap .i64 (G5 ((IO n).take j)*x.Z5)=G5 ((IO n).take (j+1)):=by rw[<-e1,aq]
    have r:((IO n).take j).length=j:=by rw[Rk,aX];omega
    have B:(((IO n).take j++List.replicate (n.Z7.length - j) 0).map ci)[j]?=some (ci 0):=by rw[Zy,Sl (by omega),r,Yp,adH,i6];rfl
    have A:j<(((IO n).take j++List.replicate (n.Z7.length - j) 0).map ci).length:=by simp[aX];omega
    have C:((IO n).take j++List.replicate (n.Z7.length - j) 0).set j x.Z5=(IO n).take (j+1)++List.replicate (n.Z7.length - (j+1)) 0:=by rw[X0 _ _ (by omega),r,Yp,ets,show n.Z7.length - j=(n.Z7.length - (j+1))+1 by omega,VZ,Va,acq];rfl
    have W:=hp.fr f1;obtain⟨g2,p⟩:∃g2,g2=(g.new (Z4 3 [[Z_ 0,.Z6,.Z6]])).put g.nx (Z4 3 [[Z_ x.Z5,pa,ra]]):=⟨_,rfl⟩;have f2:Fr g g2:=by rw[p];exact WP (by simp) λi hi=>by simp[Za,show ¬i=g.nx by omega]
    have k:=hp.fr f2;have K:g2.h.get g.nx=Z4 3 [[Z_ x.Z5,pa,ra]]:=by rw[p];simp[Za]
    refine eK (P:=λt' df g'=>df=[]/\g'=g2/\St t' ((48,b)::(5,Z_ (G5 ((IO n).take j)))::X9 q)/\ZY t' 6=Z_ (j:Int)/\ZY t' 7=ZZ g.nx/\ZY t' 50=Z_ (j:Int)/\ZY t' 49=Z_ (n.Z7.length:Int)) ?_ ?_
    ·simp only[sz,simprocAttr,f,h49,h50,r1,hlt,q1];rw[p];simp[St,X9,sx,h1,h2,h4,h5,f]
    clear h1 h2 h4 h5 f h49 h50;rintro t df g3 ⟨rfl,rfl,⟨f,h5,h1,h2,h4,-⟩,U,h7,h50,h49⟩;have F:=k.hc.rows;simp only[sz,simprocAttr,h4,U,h7,K,k.hq,F,A,c1,u];refine bZ (v:=cv) (sz:=1) (n:=1) (i:=j) (off:=0) (x:=Z_ x.Z5) (row':=ci x.Z5) k.hc B rfl rfl rfl λg4 hu4 n4 f4=>?_;rw[uQ,C]at hu4;have z:g4.h.get g.nx=Z4 3 [[Z_ x.Z5,pa,ra]]:=by rw[f4 _ λe=>by have:=(hp.hc.lt e).2;omega,K]
    simp only[sz,simprocAttr,h5,h7,h49,h50,z,w1];refine⟨by simp[St,X9,sx,h1,h2,h4,f],⟨?_,?_,?_,hu4,?_,q2,by rw[n4];exact k.qn,hp.d1,hp.d2,hp.d3⟩,l⟩
    ·rw[f4 0 λe=>by have:=(hp.hc.lt e).1;omega,k.h0]
    ·rw[f4 1 λe=>by have:=(hp.hc.lt e).1;omega,k.h1]
    ·rw[f4 q hp.d1,k.hq]
    ·exact k.hs.fr (by omega) λi hi=>f4 i λe=>hp.d3 i e hi
 ·rintro t df g ⟨rfl,h⟩;exact fin t g h
end
def mr(ps:List Int)(i:Nat):Int:=if i=0 then -1 else ps[i - 1]?.getD 0
theorem CX(h:ps[i]?=some p):mr ps (i+1)=p:=by unfold mr;rw[bJ,ad4,h];rfl
structure PlI (ps:List Int) (k:Int) (v i:Nat):Prop where
 Yv:∀(j:Nat) (p:Int),j<i->ps[j]?=some p->0<=p/\p<k/\p≠(v:Int)
 inc:∀(j:Nat) (p q:Int),j+1<i->ps[j]?=some p->ps[j+1]?=some q->p<q
theorem bx4{k:Int}{v:Nat}(h:PlI ps k v i)(hp:ps[i]?=some p)(h1:mr ps i<p)(h2:p<k)(h3:p≠(v:Int)):PlI ps k v (i+1):=by
 refine⟨λj q hj hq=>?_,λj a c hj ha hc=>?_⟩
 ·by_cases e:j=i
  ·subst e;rw[hp]at hq;injection hq with hq;subst hq;refine⟨?_,h2,h3⟩
   by_cases e0:j=0
   ·subst e0;unfold mr at h1;simp at h1;omega
   ·have b:j - 1<ps.length:=by have:=(tI.1 hp).1;omega
    have:=h.Yv (j - 1) ps[j - 1] (by omega) (Zq b);unfold mr at h1;rw[ZF e0,Zq b,Ns]at h1;omega
  ·exact h.Yv j q (by omega) hq
 ·by_cases e:j+1=i
  ·subst e;rw[hp]at hc;injection hc with hc;subst hc;rw[CX ha]at h1;exact h1
  ·exact h.inc j a c (by omega) ha hc
theorem bx3{k:Int}{v:Nat}(h:PlI ps k v ps.length):AW ps k=true:=by
 unfold AW;rw[Xw];intro i hi;have hi:=Q9.1 hi;have hp:ps[i]?=some ps[i]:=Zq hi;obtain⟨a,b,-⟩:=h.Yv i _ hi hp
 by_cases e:i=0
 ·subst e;simp only[zH,hp,Ns];simp;omega
 ·have hq:ps[i - 1]?=some ps[i - 1]:=Zq (by omega);have:=h.inc (i - 1) _ ps[i] (by omega) hq (by rw[show i - 1+1=i by omega];exact hp);simp only[zH,hp,hq,Ns];simp;omega
theorem NR.pl{n:Zv}(h:NR n){v:Nat}(hx:n.Z7[v]?=some x)(hp:x.Z9[i]?=some p):mr x.Z9 i<p/\p<n.Z7.length/\p≠(v:Int):=by
 have hm:=YH hx;have k:=h.places x hm;have h1:=fG k p (YH hp);have hl2:=h.l2;refine⟨?_,h1.2,λe=>?_⟩
 ·unfold mr
  split
  ·omega
  ·rename_i e;have b:=(tI.1 hp).1;have hq:x.Z9[i - 1]?=some x.Z9[i - 1]:=Zq (by omega);rw[hq,Ns];exact Aq k hq (by rw[show i - 1+1=i by omega];exact hp)
 ·have c:=(tI.1 hx).1;have ha:=AD.1 h.YA v (by simp[ET];exact c);have a:XQ (ET n) v=Dn x.Z9:=by simp[XQ,ET,hx]
  have hb:(XQ (ET n) v).testBit v=true:=by rw[a,Ed λy hy=>by have:=fG k y hy;omega,<-e];exact YH hp
  have:=Ev (p:=ET n) (s:=XQ (ET n) v) (ET n).length v hb;rw[this]at ha;cases ha
section
variable {d:Nat}{n:Zv}{b cv sv:AV}{q:Nat}{rows:List (List AV)}
def B3(n:Zv)(j:Nat)(m:Nat):List Nat:=(ET n).take j++m::List.replicate (n.Z7.length - (j+1)) 0
structure Rd1 (n:Zv) (x:Node) (b cv sv pa:AV) (q j p9 i:Nat) (t:T) (g:G):Prop where
 st:St t ((80,b)::(81,Z_ (n.Z7.length:Int))::(82,Z_ (j:Int))::(88,pa)::(8,Z_ (j:Int))::(9,ZZ p9)::(10,Z_ (mr x.Z9 i))::X9 q)
 hp:Xx n b cv sv q (IO n) (B3 n j (Dn (x.Z9.take i))) g
 ok:PlI x.Z9 n.Z7.length j i
theorem bx2[Z0]{p9:Nat}{c9:List AV}(hl:n.Z7.length<=8)(hN:ZT ZX 0 .nil n.Z7 b)(hx:n.Z7[j]?=some x)(hpa:ZT ZX 0 .nil x.Z9 pa)
  (h0:Rd1 n x b cv sv pa q j p9 0 t g) (h90:ZY t 90=Z_ 0) (h89:ZY t 89=Z_ (x.Z9.length:Int)) (e9:g.h.get p9=Z4 3 [c9]) (p9s:Zi sv≠some p9)
  (bad:∀t g,¬NR n->g.h.get 1=Z4 5 [[Z_ 0,.Z6,.Z6,.Z6,.Z6]]->ZY t 2=ZZ 1->ZY t 3=Z_ 50->Q .ret t [] g)
  (fin:∀t g',Rd1 n x b cv sv pa q j p9 x.Z9.length t g'->g'.h.get p9=Z4 3 [c9]->g.nx<=g'.nx->Q (.exit 4) t [] g'):Uk (wp C0 d none rN) Q t [] g:=by
 have h3:=(tI.1 hx).1;have nl:=λg=>hN.len g;have rp:=λh=>(hpa.tree (h':=h) (ZV 0)).ints;have y:(ET n).length=n.Z7.length:=by simp[ET]
 have z:((ET n).take j).length=j:=by rw[Rk,y];omega
 simp only[rN];refine b_ (m:=x.Z9.length) hpa.1 (λi t df g'=>df=[]/\Rd1 n x b cv sv pa q j p9 i t g'/\g'.h.get p9=Z4 3 [c9]/\g.nx<=g'.nx) ⟨rfl,h0,e9,ZV _⟩ h90 h89 (by decide)
  (by rintro i t df g v s (rfl|rfl|rfl) ⟨a1,⟨⟨b1,b2,R,U,V,W,X,Y,Z,I,-⟩,c1,A⟩,B⟩<;>exact⟨a1,⟨by simp[St,X9,sx,b1,b2,R,U,V,W,X,Y,Z,I],c1,A⟩,B⟩) ?_ ?_
 ·rintro i t df g hi ⟨rfl,⟨⟨c,f,l,k,h8,h9,a,h1,h2,h4,-⟩,hp,M⟩,e9,en⟩ h90 h89;obtain⟨p,r,O,-⟩:=ah hi;have F:i<(x.Z9.map ci).length:=by simpa using hi
  have H:(x.Z9.map ci)[i]?=some (ci p):=by rw[Zy,r];rfl
  have badn:¬(mr x.Z9 i<p/\p<n.Z7.length/\p≠(j:Int))->¬NR n:=λh hr=>h (hr.pl hx r);have q2:=hp.q2
  by_cases c1:p<=mr x.Z9 i
  ·simp only[sz,simprocAttr,h2,a,k,h90,rp,F,H,ci,hp.h1,c1];exact bad _ _ (badn (by omega)) (by simp[Za]) (by simp[sx,h2]) (by simp[sx])
  by_cases A:(n.Z7.length:Int)<=p
  ·simp only[sz,simprocAttr,h2,h4,a,k,h90,rp,F,H,ci,hp.hq,nl,hp.h1,c1,A];exact bad _ _ (badn (by omega)) (by simp[Za]) (by simp[sx,h2]) (by simp[sx])
  by_cases B:p=(j:Int)
  ·subst B;simp only[sz,simprocAttr,h2,h4,h8,a,k,h90,rp,F,H,ci,hp.hq,nl,hp.h1,c1,A,eq_self];exact bad _ _ (badn (by omega)) (by simp[Za]) (by simp[sx,h2]) (by simp[sx])
  have w:=bx4 M r (by omega) (by omega) B;obtain⟨p0,-,-⟩:=w.Yv i p (by omega) r;obtain⟨p,rfl⟩:=Wu p0;have C:((B3 n j (Dn (x.Z9.take i))).map cu)[j]?=some (cu (Dn (x.Z9.take i))):=by rw[Zy,B3,Sl (by omega),z,Yp];rfl
  have J:j<((B3 n j (Dn (x.Z9.take i))).map cu).length:=by simp[B3,y];omega
  have K:(B3 n j (Dn (x.Z9.take i))).set j (Dn (x.Z9.take (i+1)))=B3 n j (Dn (x.Z9.take (i+1))):=by simp only[B3];rw[X0 _ _ (by omega),z,Yp,Va]
  have em:Dn (x.Z9.take (i+1))=Dn (x.Z9.take i) ||| B7 p:=by rw[O,In];rfl
  have E:bN .shl (ZW 1) (Z_ (p:Int))=.val (ZW (B7 p:Int)):=mU .i64 p;have D:=BQ (Dn (x.Z9.take i)) (B7 p) (yE _) (wG p);rw[<-em]at D;have N:=hp.hs.rows;have L:=CX r;refine gv (P:=λt' df g'=>df=[]/\g'=g/\St t' ((80,b)::(81,Z_ (n.Z7.length:Int))::(82,Z_ (j:Int))::(88,pa)::(8,Z_ (j:Int))::(9,ZZ p9)::(10,Z_ (mr x.Z9 i))::X9 q)/\ZY t' 12=Z_ (p:Int)/\ZY t' 90=Z_ (i:Int)/\ZY t' 89=Z_ (x.Z9.length:Int)) ?_ ?_
  ·simp only[sz,simprocAttr,k,h90,rp,F,H,ci];simp[St,X9,sx,h1,h2,h4,h8,h9,a,c,f,l,k,h89]
  clear h1 h2 h4 h8 h9 a c f l k h89 h90;rintro t df g' ⟨rfl,rfl,⟨c,f,l,k,h8,h9,a,h1,h2,h4,-⟩,u,h90,h89⟩;refine gv (P:=λt' df g''=>df=[]/\g''=g'/\St t' ((80,b)::(81,Z_ (n.Z7.length:Int))::(82,Z_ (j:Int))::(88,pa)::(8,Z_ (j:Int))::(9,ZZ p9)::(10,Z_ (mr x.Z9 i))::X9 q)/\ZY t' 12=Z_ (p:Int)/\ZY t' 90=Z_ (i:Int)/\ZY t' 89=Z_ (x.Z9.length:Int)) ?_ ?_
  ·simp only[sz,simprocAttr,h4,h8,a,u,h89,h90,hp.hq,nl,c1,A,B];simp[St,X9,sx,h1,h2,h4,h8,h9,a,c,f,l,k]
  clear h1 h2 h4 h8 h9 a u c f l k h89 h90;rintro t df g'' ⟨rfl,rfl,⟨c,f,l,k,h8,h9,a,h1,h2,h4,-⟩,u,h90,h89⟩;simp only[sz,simprocAttr,sf,h4,h8,u,hp.hq,N,J,C,cu,E,D];refine bZ (v:=sv) (sz:=1) (n:=1) (i:=j) (off:=0) (x:=ZW (Dn (x.Z9.take (i+1)):Int)) (row':=cu (Dn (x.Z9.take (i+1)))) (hp.hs.fr (by simp;omega) λi _=>by simp) C rfl rfl rfl λg4 hu4 n4 f4=>?_;rw[show (((B3 n j (Dn (x.Z9.take i))).map cu).set j (cu (Dn (x.Z9.take (i+1)))))=(B3 n j (Dn (x.Z9.take (i+1)))).map cu from by rw[<-MO,K]]at hu4;have o:∀i,Zi sv≠some i->g4.h.get i=g''.h.get i:=λi hi=>by rw[f4 i hi];simp
  have h5:g''.nx<=g4.nx:=by rw[n4];simp;omega
  simp only[sx,sy,↓reduceIte,Nat.reduceEqDiff];refine⟨?_,⟨⟨?_,⟨?_,?_,?_,?_,?_,q2,?_,hp.d1,hp.d2,hp.d3⟩,w⟩,?_,?_⟩,h90,h89⟩
  ·simp only[I9,Nq,DI,ML];exact aK (false::(Zb (true::[]))) [] (by simp[ZL,am,aA]) (by decide) (by simp)
  ·rw[L];simp[St,X9,sx,h1,h2,h4,h8,h9,c,f,l,k]
  ·simp only[Zx];rw[o 0 λe=>by have:=(hp.hs.lt e).1;omega,hp.h0]
  ·simp only[Zx];rw[o 1 λe=>by have:=(hp.hs.lt e).1;omega,hp.h1]
  ·simp only[Zx];rw[o q hp.d2,hp.hq]
  ·exact hp.hc.fr (by simp;omega) λi hi=>by simp only[Zx];exact o i (hp.d3 i hi)
  ·exact hu4.fr (by simp) λi _=>by simp
  ·have:=hp.qn;simp;omega
  ·rw[o p9 p9s,e9]
  ·omega
 ·rintro t df g' ⟨rfl,h,e9,en⟩;exact fin t g' h e9 en
end
section
variable {d:Nat}{n:Zv}{b cv sv:AV}{q:Nat}{rows:List (List AV)}
structure Rd4 (n:Zv) (b cv sv:AV) (q j:Nat) (t:T) (g:G):Prop where
 st:St t ((80,b)::X9 q)
 hp:Xx n b cv sv q (IO n) ((ET n).take j++List.replicate (n.Z7.length - j) 0) g
 ok:∀x∈n.Z7.take j,AW x.Z9 n.Z7.length=true/\zG n.Z8 (IO n) x=true
theorem bx1(n:Zv)(j m:Nat)(hm:m<2^64):∀y∈B3 n j m,y<2^64:=λy hy=>by
 simp only[B3,Tn,Y0]at hy;rcases hy with hy|rfl|hy
 ·obtain⟨x,-,rfl⟩:=YY.1 (Xp hy);exact yE _
 ·exact hm
 ·rw[(adp.1 hy).2];decide
theorem Own.natsV{b:Nat}{l:List Nat}(h:Own g b v 1 (l.map cu))(hl:l.length<2^63)(hb:∀y∈l,y<2^64):ZT (λi=>Zi v=some i) 0 g.h l v :=
 Own.sl (α:=Nat) h hl (by
  have:∀l:List Nat,(∀y∈l,y<2^64)->ZL (Rp.rp (α:=Nat) (λi=>Zi v=some i) 0 g.h) l (l.map cu):=λl=>by
   induction l with
   |nil=>intro _;trivial
   |cons y l ih=>intro h;exact⟨nX.2 ⟨rfl,h y (by simp)⟩,ih λz hz=>h z (by simp[hz])⟩
  exact this l hb) λ_ h=>h
theorem Own.nats'{b:Nat}{l:List Nat}(h:Own g b v 1 (l.map cu))(hl:l.length<2^63)(hb:∀y∈l,y<2^64):ZT (λ_=>True) 0 g.h l v :=(h.natsV hl hb).wd λ_ _=>⟨trivial,rfl⟩
theorem Own.intsV{b:Nat}(h:Own g b v 1 (l.map ci))(hl:l.length<2^63):ZT (λi=>Zi v=some i) 0 g.h l v :=Own.sl (α:=Int) h hl (Y7 (λa=>ay.2 rfl) _) λ_ h=>h
theorem bx0{n:Zv}(h:NR n)(hx:x∈n.Z7):zG n.Z8 (IO n) x=true:=by simp only[zG,Db,Zk,RY,Xw];exact⟨h.rows x hx,λr hr=>⟨⟨(h.row x hx r hr).1,(h.row x hx r hr).2.1⟩,(h.row x hx r hr).2.2⟩⟩
theorem bw_[Z0](hd:0<d)(hl:n.Z7.length<=8)(hg1:1<=n.Z8/\n.Z8<=60)(hcard:∀c∈IO n,1<=c/\c<=4)(hN:ZT ZX 0 .nil n.Z7 b)(r1:∀h,ak h 3 b=some rows)(r2:rows.length=n.Z7.length)
  (r3:∀(i:Nat) (x:Node),n.Z7[i]?=some x->∃pa ra,rows[i]?=some [Z_ x.Z5,pa,ra]/\i<rows.length/\ZT ZX 0 .nil x.Z9 pa/\ZT ZX 0 .nil x.rows ra) (r4:0<n.Z7.length->nq b=true)
  (h0:Rd4 n b cv sv q 0 t g) (h82:ZY t 82=Z_ 0) (h81:ZY t 81=Z_ (n.Z7.length:Int))
  (bad:∀t g,¬NR n->g.h.get 1=Z4 5 [[Z_ 0,.Z6,.Z6,.Z6,.Z6]]->ZY t 2=ZZ 1->ZY t 3=Z_ 50->Q .ret t [] g)
  (fin:∀t g,Rd4 n b cv sv q n.Z7.length t g->Q (.exit 2) t [] g):Uk (wp C0 d none rO) Q t [] g:=by
 simp only[rO,zn];refine b_ (m:=n.Z7.length) (by omega) (λj t df g=>df=[]/\Rd4 n b cv sv q j t g) ⟨rfl,h0⟩ h82 h81 (by decide)
  (by rintro j t df g v s (rfl|rfl|rfl) ⟨a1,⟨b1,b2,R,U,-⟩,c1,V⟩<;>exact⟨a1,by simp[St,X9,sx,b1,b2,R,U],c1,V⟩) ?_ ?_
 ·rintro j t df g Y ⟨rfl,⟨⟨f,h1,h2,h4,-⟩,hp,E⟩⟩ h82 h81;obtain⟨x,hx,J,L⟩:=ah Y;obtain⟨pa,ra,q1,hlt,w,I⟩:=r3 j x hx;have h3:=r4 (by omega);have q2:=hp.q2;have qn:=hp.qn;have C:(ET n).length=n.Z7.length:=by simp[ET]
  have F:(ET n)[j]?=some (Dn x.Z9):=by simp[ET,hx]
  obtain⟨g2,u⟩:∃g2,g2=(g.new (Z4 3 [[Z_ 0,.Z6,.Z6]])).put g.nx (Z4 3 [[Z_ x.Z5,pa,ra]]):=⟨_,rfl⟩;have f2:Fr g g2:=by rw[u];exact WP (by simp) λi hi=>by simp[Za,show ¬i=g.nx by omega]
  have n2:g.nx<g2.nx:=by rw[u];simp
  have A:=hp.fr f2;have M:g2.h.get g.nx=Z4 3 [[Z_ x.Z5,pa,ra]]:=by rw[u];simp[Za]
  have eY:(ET n).take j++List.replicate (n.Z7.length - j) 0=B3 n j (Dn (x.Z9.take 0)):=by rw[B3,show n.Z7.length - j=(n.Z7.length - (j+1))+1 by omega,VZ];rfl
  have eY2:B3 n j (Dn x.Z9)=(ET n).take (j+1)++List.replicate (n.Z7.length - (j+1)) 0:=by rw[B3,NA,F,acq];rfl
  rw[eY]at A;refine eK (P:=λt' df g'=>df=[]/\g'=g2/\St t' ((80,b)::(81,Z_ (n.Z7.length:Int))::(82,Z_ (j:Int))::(8,Z_ (j:Int))::(9,ZZ g.nx)::X9 q)) ?_ ?_
  ·simp only[sz,simprocAttr,f,h82,r1,hlt,q1];rw[u];simp[St,X9,sx,h1,h2,h4,f,h81,h82]
  clear h1 h2 h4 f h81 h82;rintro t df g3 ⟨rfl,rfl,⟨f,h81,h82,h8,h9,h1,h2,h4,-⟩⟩;have pl:=λg=>w.len g;simp only[sz,simprocAttr,h9,M,pl];refine bx2 (j:=j) (p9:=g.nx) (x:=x) (pa:=pa) (b:=b) (cv:=cv) (sv:=sv) (q:=q) hl hN hx w ⟨by simp[St,X9,sx,mr,h1,h2,h4,h8,h9,f,h81,h82],A,⟨λi p hi=>by omega,λi p r hi=>by omega⟩⟩ (by simp[sx]) (by simp[sx]) M (λe=>by have:=(hp.hs.lt e).2;omega) ?_ ?_
  ·intro t g Z a1 a2 O;simp only[sx,sy];exact bad t g Z a1 a2 O
  ·rintro t D ⟨⟨f,h81,h82,X,h8,h9,W,h1,h2,h4,-⟩,k,H⟩ z n4;rw[Xo]at k;have o:=bx3 H;have B:∀p∈x.Z9,0<=p/\p<((IO n).length:Int):=λp hp=>by rw[aX];exact fG o p hp
   have N:=my o (by omega);have h5:(B3 n j (Dn x.Z9)).length<=8:=by simp[B3,C];omega
   have hm:Zl ((n,IO n,B3 n j (Dn x.Z9),[]):NwM) (λ_=>True) 0 D.h (.agg [Z_ n.Z8,b,cv,sv,.Z6]) :=⟨_,rfl,C6.2 ⟨b,cv,sv,.Z6,rfl,hN.wide (ZV 0),Own.sl (α:=Int) k.hc (by rw[aX];omega) (Y7 (λa=>ay.2 rfl) _) λ_ _=>trivial,k.hs.nats' (by omega) (bx1 n j _ (yE _)),⟨by show 0<2^63;decide,rfl⟩⟩⟩
   have K:Zl x ZX 0 D.h (.agg [Z_ x.Z5,pa,ra]):=⟨_,rfl,cM.2 ⟨pa,ra,rfl,w.tree (ZV 0),I.tree (ZV 0)⟩⟩;have l:=bx8 (d:=d) (g:=D) hd hm K ⟨rfl,rfl⟩ hg1 hcard B (by omega);have l:ae C0 d 130 [.agg [Z_ n.Z8,b,cv,sv,.Z6],.agg [Z_ x.Z5,pa,ra]] D=.val (.bool (zG n.Z8 (IO n) x)):=l;cases hf:zG n.Z8 (IO n) x with
   | false =>rw[hf]at l;simp only[sz,simprocAttr,rP,h2,h4,h9,k.hq,k.h1,z,l];refine bad _ _ (λhr=>?_) (by simp[Za]) (by simp[sx,h2]) (by simp[sx]);have:=bx0 hr L;rw[hf]at this;cases this
   | true =>
    rw[hf]at l;simp only[sz,simprocAttr,rP,h4,h9,k.hq,z,l];rw[eY2]at k;refine⟨⟨by simp[St,X9,sx,h1,h2,h4,f],k,λy hy=>?_⟩,by simp[h82],by simp[h81]⟩;rw[J]at hy;rcases Tn.1 hy with h|h
    ·exact E y h
    ·rw[Wa.1 h];exact⟨o,hf⟩
 ·rintro t df g ⟨rfl,h⟩;exact fin t g h
end
theorem bw9(n:Zv):Qx (Kf n) 2:=o7 λo=>bM (m:=2) (cH _) (aE _) (by decide) (by decide)
theorem JP[Z0]{d:Nat}{n:Zv}(hd:0<d)(hm:Zl n ZX 0 g.h v):∃r,ae C0 d 105 [v] g=.val r/\Kf n ZX 0 .nil r:=by
 obtain⟨b,rows,rfl,e,R,hN,L,M,N,O⟩:=bT d hm;rw[Zn];refine aI KL (xs:=[.agg [Z_ n.Z8,b]]) (by simp only[aD,e]) (by simp[pK]) (bw9 n) (by decide) hd ?_;have nl:=λg=>hN.len g;simp only[sz,simprocAttr,pK];obtain⟨g0,hg0⟩:∃g0,g0=(G.empty.new (Z4 2 [[Z_ n.Z8,b]])).new (Z4 5 [[Z_ 0,.Z6,.Z6,.Z6,.Z6]]):=⟨_,rfl⟩;rw[<-hg0];have f0:g0.h.get 0=Z4 2 [[Z_ n.Z8,b]]:=by rw[hg0];simp[sx,Za]
 have f1:g0.h.get 1=Z4 5 [[Z_ 0,.Z6,.Z6,.Z6,.Z6]]:=by rw[hg0];simp[sx]
 have f2:g0.nx=2:=by rw[hg0];simp[sx]
 clear hg0;obtain⟨Qf,m⟩:∃Qf,Qf=Xs C0 (d+1) [SR.cell true 5 2,SR.tm 3] (λv g'=>∃P,Kf n P 0 g'.h v):=⟨_,rfl⟩;have bad:∀(t:T) (g:G),¬NR n->g.h.get 1=Z4 5 [[Z_ 0,.Z6,.Z6,.Z6,.Z6]]->ZY t 2=ZZ 1->ZY t 3=Z_ 50->Qf .ret t [] g:=λt g C a1 a2 w=>by rw[m];exact bx6 C a1 a2 w
 rw[<-m];simp only[Bb]
 by_cases c1:n.Z8<1
 ·rw[eO];simp only[sz,simprocAttr,f0,f1,c1];exact bad _ _ (λh=>by have:=h.g1;omega) (by simp[Za]) (by simp[sx]) (by simp[sx])
 by_cases c2:60<n.Z8
 ·rw[eO];simp only[sz,simprocAttr,f0,f1,c1,c2];exact bad _ _ (λh=>by have:=h.g2;omega) (by simp[Za]) (by simp[sx]) (by simp[sx])
 by_cases c3:(n.Z7.length:Int)<1
 ·rw[eO];simp only[sz,simprocAttr,f0,f1,c1,c2,c3,nl];exact bad _ _ (λh=>by have:=h.l1;omega) (by simp[Za]) (by simp[sx]) (by simp[sx])
 by_cases c4:8<(n.Z7.length:Int)
 ·rw[eO];simp only[sz,simprocAttr,f0,f1,c1,c2,c3,c4,nl];exact bad _ _ (λh=>by have:=h.l2;omega) (by simp[Za]) (by simp[sx]) (by simp[sx])
 refine gv (P:=λt' df g'=>df=[]/\g'=g0/\St t' [(1,ZZ 0),(2,ZZ 1)]) ?_ ?_
 ·simp only[sz,simprocAttr,f0,c1,c2,c3,c4,nl];simp[St,sx]
 rintro t df g1 ⟨rfl,rfl,h1,h2,-⟩;have B:n.Z7.length<=8:=by omega
 refine gv (P:=λt' df g'=>df=[]/\∃cv sv q,St t' (X9 q)/\Xx n b cv sv q (List.replicate n.Z7.length 0) (List.replicate n.Z7.length 0) g') ?_ ?_
 ·simp only[sz,simprocAttr,sf,h1,f0,nl];refine qp (b:=2) (n:=n.Z7.length) (by unfold aQ;omega) (by unfold aQ;omega) (by first| (simp;done)| (simp;omega)) λcv g2 hcv n2 fr2 v2 lg2=>?_;simp only[sy]at n2 fr2 v2 lg2;have k0:g2.h.get 0=Z4 2 [[Z_ n.Z8,b]]:=by rw[fr2 0 (by omega),f0]
  simp only[sz,simprocAttr,sf,h1,k0,nl,lg2];refine qp (b:=2) (n:=n.Z7.length) (by unfold aQ;omega) (by unfold aQ;omega) (by first| (simp;done)| (simp;omega)) λsv g3 hsv n3 fr3 v3 lg3=>?_;simp only[sy]at n3 fr3 v3 lg3;simp only[sz,simprocAttr,sf,lg3,hcv.cell.1,hcv.cell.2,hsv.cell.1,hsv.cell.2];refine⟨?_,cv,sv,g3.nx+1+1,?_,?_⟩
  ·simp only[I9,Nq,DI,ML,G.new_lg,G.put_lg,X7];refine aK (JO (true::(false::(Vk (true::(false::(true::(true::[])))))))) [(0,4),(4,5),(4,6),(4,7),(0,8),(1,8),(2,8),(3,8),(4,8),(0,10),(1,10),(2,10),(3,10),(4,10),(5,10),(6,10),(7,10),(8,10),(9,10)] (by simp[ZL,am,aA]) (by decide) ?_;rintro p hp x y hx l;simp only[Y0,QA,TP]at hp;rcases hp with rfl|rfl|rfl|rfl|rfl|rfl|rfl|rfl|rfl|rfl|rfl|rfl|rfl|rfl|rfl|rfl|rfl|rfl|rfl<;>(simp at hx l;subst hx;subst l;refine dP rfl rfl rfl rfl ?_ ?_ ?_<;>simp[am,aA,an]<;>omega)
  ·simp[St,X9,sx,h1,h2]
  ·have fa:∀i,i<g2.nx->g3.h.get i=g2.h.get i:=λi hi=>by have:=fr3 i (by omega);simpa using this
   have fb:∀i,i<g1.nx->g2.h.get i=g1.h.get i:=λi hi=>by have:=fr2 i (by omega);simpa using this
   have A:Own g2 2 cv 1 ((List.replicate n.Z7.length (0:Int)).map ci):=by simpa [ci] using hcv
   have H:Own g3 2 sv 1 ((List.replicate n.Z7.length (0:Nat)).map cu):=by simpa [cu] using hsv
   have D:∀i,i<g3.nx->¬i=g3.nx+1+1:=λi hi=>by omega
   refine⟨?_,?_,?_,A.fr (by simp;omega) λi hi=>?_,H.fr (by simp;omega) λi hi=>?_,by omega,by first| (simp;done)| (simp;omega),λe=>?_,λe=>?_,λi hi hi2=>?_⟩
   ·simp[Za];rw[fa 0 (by omega),k0]
   ·simp[Za];rw[fa 1 (by omega),fb 1 (by omega),f1]
   ·simp[Za]
   ·have:=iv v2 hi;simp[Za,D i (by omega)];rw[fa i (by omega)]
   ·have:=iv v3 hi;simp[Za,D i (by omega)]
   ·have:=iv v2 e;omega
   ·have:=iv v3 e;omega
   ·have:=iv v2 hi;have:=iv v3 hi2;omega
 rintro t df g ⟨rfl,cv,sv,q,⟨h1,h2,h4,-⟩,hp⟩;clear f0 f1 f2;have nlen:=nl g;simp only[sz,simprocAttr,h4,hp.hq,nl];refine bx5 (b:=b) (cv:=cv) (sv:=sv) (q:=q) B hN L M N O ⟨by simp[St,X9,sx,G5,h1,h2,h4],by simpa using hp,by simp⟩ (by simp[sx]) (by simp[sx]) ?_ ?_
 ·intro t g C a1 a2 w;simp only[sx];exact bad t g C a1 a2 w
 clear h1 h2 h4 hp nlen;rintro t g ⟨⟨I,h5,h1,h2,h4,-⟩,hp,s⟩;rw[U8 (by rw[aX];exact ZV _)]at h5 hp;rw[Yp,adY,VM]at hp;rw[Xo]at s;have J:∀c∈IO n,1<=c/\c<=4:=λc hc=>by obtain⟨y,l,rfl⟩:=YY.1 hc;exact s y l
 simp only[sz,simprocAttr,zo]
 by_cases d1:1024<G5 (IO n)
 ·simp only[sz,simprocAttr,h2,h5,hp.h1,d1];exact bad _ _ (λh=>by have:=h.worlds;omega) (by simp[Za]) (by simp[sx,h2]) (by simp[sx])
 simp only[sz,simprocAttr,h4,h5,hp.hq,nl,d1];refine bw_ (b:=b) (cv:=cv) (sv:=sv) (q:=q) (abc d) B (by omega) J hN L M N O ⟨by simp[St,X9,sx,h1,h2,h4],by simpa using hp,by simp⟩ (by simp[sx]) (by simp[sx]) ?_ ?_
 ·intro t g C a1 a2 w;simp only[sx];exact bad t g C a1 a2 w
 clear h1 h2 h4 I h5 hp;rintro t g ⟨⟨Q,h1,h2,h4,-⟩,hp,k⟩;rw[U8 (by simp[ET])]at hp;rw[Yp,adY,VM]at hp;rw[Xo]at k;have F:(ET n).length=n.Z7.length:=by simp[ET]
 have j:∀y∈ET n,y<2^64:=λy l=>by obtain⟨x,-,rfl⟩:=YY.1 l;exact yE _
 have u:∀y∈ET n,y<2 ^ (ET n).length:=λy l=>by obtain⟨x,hx,rfl⟩:=YY.1 l;rw[F];exact bx7 (by omega) λz hz=>fG (k x hx).1 z hz
 obtain⟨z,ez,o,-,oz,az,rfl,f,a⟩:=by4 (d:=d+1) (g:=g) (abc d) (hp.hs.nats' (by omega) j) (by omega) u;have a:=cE.1 a;injection a with a;subst a;obtain⟨_,e1,f⟩:=f;injection e1 with e1;subst e1;cases hac:AP (ET n) with
 | false =>rw[hac]at ez;simp only[sz,simprocAttr,rQ,h2,h4,hp.hq,hp.h1,ez];exact bad _ _ (λh=>by have:=h.YA;rw[hac]at this;cases this) (by simp[Za]) (by simp[sx,h2]) (by simp[sx])
 | true =>
  rw[hac]at ez;have E:Dm n=true:=bU.2 ⟨by omega,by omega,by omega,by omega,s,λx hx=>(k x hx).1,by omega,hac,λx hx=>by
   have:=(k x hx).2;simp only[zG,Zk,RY]at this;exact this.1,λx hx r hr=>by
   have:=(k x hx).2;simp only[zG,Db,Zk,RY,Xw]at this;have:=this.2 r hr;exact⟨this.1.1,this.1.2,this.2⟩⟩
  have q2:=hp.q2;have K:¬(1=q):=by omega
  have U:¬(q=1):=by omega
  have oc:=f.cell;rw[m];simp only[sz,simprocAttr,rQ,h2,h4,hp.hq,hp.h1,ez,K,oc.1,oc.2];have fh:∀i,¬i=1->¬i=q->((g.h.put q (Z4 5 [[Z_ n.Z8,b,cv,sv,oz]])).put 1 (Z4 5 [[Z_ n.Z8,b,cv,sv,oz]])).get i=g.h.get i:=λi hi hi2=>by simp[Za,hi,hi2]
  refine⟨λ_=>True,o,trivial,_,_,rfl,⟨_,rfl,?_⟩,?_⟩
  ·rw[hQ,ZN E];refine C6.2 ⟨b,cv,sv,oz,rfl,hN.wide (ZV 0),(hp.hc.intsV (by rw[aX];omega)).wd λi hi=>⟨trivial,fh i (by have:=(hp.hc.lt hi).1;omega) λe=>hp.d1 (by rw[hi,e])⟩,(hp.hs.natsV (by omega) j).wd λi hi=>⟨trivial,fh i (by have:=(hp.hs.lt hi).1;omega) λe=>hp.d2 (by rw[hi,e])⟩,f.wide (ZV 0)⟩
  ·rw[ZN E];exact ay.2 rfl
theorem bw8{o:List Int}(h:Dm n=true):hQ n o=(n,IO n,ET n,o):=by rw[hQ,ZN h]
theorem yh{P:Nat->Prop}(hv:Kf n P k h v) :
  (Dm n=false/\∃cs,v=.Zz [.agg cs,Z_ 50]/\cs.length=5) \/
  (Dm n=true/\∃b cv sv oz o,v=.Zz [.agg [Z_ n.Z8,b,cv,sv,oz],Z_ 0]/\ZT P k h n.Z7 b/\ZT P k h (IO n) cv/\ZT P k h (ET n) sv/\ZT P k h (o:List Int) oz):=by
 obtain⟨o,-,a,c,rfl,⟨cs,rfl,hc⟩,hi⟩:=hv;have hi:=ay.1 hi;injection hi with hi;subst hi;cases hn:Dm n with
 | false =>
  refine .inl ⟨rfl,cs,rfl,?_⟩;obtain⟨a,b,c,e,rfl,-⟩:=C6.1 hc
  rfl
 | true =>rw[bw8 hn]at hc;obtain⟨a,b,c,e,rfl,h1,h2,d,h4⟩:=C6.1 hc;exact .inr ⟨rfl,a,b,c,e,o,rfl,h1,h2,d,h4⟩
theorem Kt[Z0]{e:List Int}(hd:0<d)(hm:Zl n ZX 0 g.h v)(he:ZT P2 k2 g.h e w):ae C0 d 76 [v,w] g=.val (Z_ (Di n e)):=by
 obtain⟨w',I,p⟩:=aZ he d;obtain⟨b,rows,rfl,e1,B,hN,N,O,P,Q⟩:=bT d hm;have n2:=λg=>(p .nil).len g;have rb:=λh=>(p h).ints;rw[Zn];refine cz wU (xs:=[.agg [Z_ n.Z8,b],w']) (by simp only[aD,e1,I]) (by simp[iJ]) hd ?_;have L:=he.1;simp only[sz,simprocAttr,iJ,lG,kI];obtain⟨z,ez,hz⟩:=JP (d:=d+1) (g:=G.empty.new (Z4 2 [[Z_ n.Z8,b]])) (abc d) (n:=n) (v:=.agg [Z_ n.Z8,b]) (B _);rcases yh hz with⟨i,cs,rfl,x⟩|⟨i,b',cv,sv,oz,o,rfl,hb,A,-,-⟩
 ·have hs:Di n e=50:=by rw[Di,i];rfl
  obtain⟨a1,a2,q,a4,r,rfl⟩:∃a1 a2 q a4 r,cs=[a1,a2,q,a4,r]:=by
   match cs,x with
   |[a1,a2,q,a4,r],_=>exact⟨a1,a2,q,a4,r,rfl⟩
  simp only[sz,simprocAttr,ez,hs,show ¬((50:Int)=0) from by decide]
 ·have nb:=λg=>(hb.tree (h':=g) (ZV 0)).len;have K:=hb.1;have rc:=λh=>(A.tree (h':=h) (ZV 0)).ints;have hcl:=aX n
  by_cases hl:e.length=n.Z7.length
  ·have f:(e.length:Int)=(n.Z7.length:Int):=by rw[hl]
   simp only[sz,simprocAttr,ez,n2,hb.len,hl];refine b_ (m:=n.Z7.length) (by omega) (λj t df g=>df=[]/\St t [(24,w'),(5,ZZ 1),(4,Z_ 0)]/\g.h.get 1=Z4 5 [[Z_ n.Z8,b',cv,sv,oz]]/\((List.range j).all λv=>decide (-1<=e[v]?.getD 0)&&decide (e[v]?.getD 0<(IO n)[v]?.getD 0))=true)
    ⟨rfl,by simp[St,sx],by simp[sx],by simp⟩ (by simp[sx]) (by simp[sx]) (by decide) (by rintro j t df g v s (rfl|rfl|rfl)<;>simp[St,sx]) ?_ ?_
   ·rintro j t df g M ⟨rfl,⟨k,h5,h4,-⟩,hg,ha⟩ a u;obtain⟨y,D,-,-⟩:=ah (l:=e) (j:=j) (by omega);obtain⟨c,hc,-,-⟩:=ah (l:=IO n) (j:=j) (by omega);have E:j<(e.map ci).length:=by simp;omega
    have F:(e.map ci)[j]?=some (ci y):=by rw[Zy,D];rfl
    have u3:j<((IO n).map ci).length:=by simp;omega
    have H:((IO n).map ci)[j]?=some (ci c):=by rw[Zy,hc];rfl
    have C:((List.range (j+1)).all λv=>decide (-1<=e[v]?.getD 0)&&decide (e[v]?.getD 0<(IO n)[v]?.getD 0))=(decide (-1<=y)&&decide (y<c)):=by rw[Ri,ae5,ha];simp[D,hc]
    have bad:(decide (-1<=y)&&decide (y<c))=false->Di n e=2:=λh=>by
     have h1:EQ n e=false:=by
      rw[EQ];have:((List.range e.length).all λv=>decide (-1<=e[v]?.getD 0)&&decide (e[v]?.getD 0<(IO n)[v]?.getD 0))=false:=by rw[<-HF,Xw];intro h2;have:=h2 j (Q9.2 (by omega));rw[D,hc,Ns,Ns,h]at this;cases this
      rw[this,adS]
     rw[Di,i,h1];rfl
    by_cases c1:y < -1
    ·have:=bad (by simp;omega);simp only[sz,simprocAttr,k,a,rb,E,F,ci,c1,this]
    ·by_cases c2:c<=y
     ·have:=bad (by simp;omega);simp only[sz,simprocAttr,k,h5,a,hg,rb,rc,E,F,u3,H,ci,c1,c2,this]
     ·have J:((List.range (j+1)).all λv=>decide (-1<=e[v]?.getD 0)&&decide (e[v]?.getD 0<(IO n)[v]?.getD 0))=true:=by rw[C];simp;omega
      simp only[sz,simprocAttr,k,h5,h4,a,u,hg,rb,rc,E,F,u3,H,ci,c1,c2,St,J]
   ·rintro t df g ⟨rfl,⟨k,h5,h4,-⟩,hg,ha⟩;have h1:EQ n e=true:=by rw[EQ,hl,Qe rfl,ha];rfl
    have hs:Di n e=0:=by rw[Di,i,h1];rfl
    simp only[sz,simprocAttr,kJ,hs]
  ·have f:¬((e.length:Int)=(n.Z7.length:Int)):=by omega
   have h1:EQ n e=false:=by rw[EQ,Vf hl];rfl
   have hs:Di n e=2:=by rw[Di,i,h1];rfl
   simp only[sz,simprocAttr,ez,n2,hb.len,f,hs]
section
variable {x:Int}
theorem bw7[Z0](hd:0<d):ae C0 d 172 [Z_ x] g=.val (.bool false):=by rw[Zn];refine dA Dq (xs:=[Z_ x]) (by simp only[aD,aU 0]) (by simp[pF]) hd ?_;simp only[sz,simprocAttr,pF]
theorem bw6[Z0](hd:0<d):ae C0 d 166 [Z_ x] g=.val (.bool false):=by rw[Zn];refine dA zZ (xs:=[Z_ x]) (by simp only[aD,aU 0]) (by simp[lj]) hd ?_;simp only[sz,simprocAttr,lj]
theorem bw5[Z0]{y:Int}(hd:0<d):ae C0 d 165 [Z_ x,Z_ y] g=.val (.bool (decide (x<y))):=by rw[Zn];refine dA Ff (xs:=[Z_ x,Z_ y]) (by simp only[aD,aU 0]) (by simp[rI]) hd ?_;simp only[sz,simprocAttr,rI,bw7 (abc d)]
theorem bw4(h:i+j<2^63):bN .shr (ZW ((i+j:Nat):Int)) (ZW 1)=.val (ZW (((i+j) / 2:Nat):Int)):=jX .u64 (i+j) 1 (by omega)
theorem bw3[Z0]{P:Nat->Prop}(hd:0<d)(hv:ZT P k g.h l v)(hl:l.length<=1000):∃(p:Nat) (b:Bool),p<=l.length/\ae C0 d 153 [v,Z_ x] g=.val (.Zz [Z_ (p:Int),.bool b]):=by
 obtain⟨v',e,q⟩:=aZ hv d;have nl:=λg=>(q .nil).len g;have rl:=λh=>(q h).ints;have key:∃r,ae C0 d 153 [v,Z_ x] g=.val r/\(λP k h v=>∃o:Nat×Bool,o.1<=l.length/\mQ (One (o.1:Int)) (One o.2) P k h v) ZX 0 .nil r:=by
  rw[Zn];refine aI nJ (xs:=[v',Z_ x]) (by simp only[aD,e,aU 0]) (by simp[dE]) (o7 λo=>bM (m:=1) (aE _) (aE _) (by decide) (by decide)) (by decide) hd ?_;simp only[sz,simprocAttr,dE,nl];refine gB (λm t df g=>df=[]/\∃i j:Nat,m=j - i/\i<=j/\j<=l.length/\St t [(0,v'),(1,Z_ x),(6,Z_ (l.length:Int)),(7,Z_ (i:Int)),(8,Z_ (j:Int))]) l.length
   ⟨rfl,0,l.length,rfl,Jq _,ZV _,by simp[St,sx]⟩ ?_
  rintro m t df g ⟨rfl,i,j,rfl,D,E,h0,h1,z,h7,h8,-⟩;simp only[sz,simprocAttr,fp,h7,h8];refine ba (λhb=>?_) (λhb=>?_)
  ·have hb:i<j:=by simpa using hb
   have w1:IntKind.wrap .i64 ((i:Int)+(j:Int))=((i+j:Nat):Int):=by rw[aq];simp
   have F:IntKind.wrap .u64 ((i+j:Nat):Int)=((i+j:Nat):Int):=du (by omega) (by omega);have hm:(i+j) / 2<l.length:=by omega
   have A:i<=(i+j) / 2:=by omega
   have B:(i+j) / 2<j:=by omega
   have n:=bw4 (i:=i) (j:=j) (by omega);generalize (i+j) / 2=c at hm A B n;have H:IntKind.wrap .i64 (c:Int)=(c:Int):=aq;have I:IntKind.wrap .i64 ((c:Int)+1)=((c+1:Nat):Int):=by rw[aq];simp
   obtain⟨y,C,-,-⟩:=ah (l:=l) (j:=c) hm;have u:c<(l.map ci).length:=by simpa using hm
   have w:(l.map ci)[c]?=some (ci y):=by rw[Zy,C];rfl
   simp only[sz,simprocAttr,h0,h1,h7,h8,w1,F,n,H,rl,u,w,ci,bw5 (abc d)];refine ba (λhb=>?_) (λhb=>?_)
   ·simp only[sz,simprocAttr,I];exact⟨j - (c+1),by omega,c+1,j,rfl,by omega,E,by simp[St,sx,h0,h1,z,h8]⟩
   ·simp only[sz,simprocAttr];exact⟨c - i,by omega,i,c,rfl,by omega,by omega,by simp[St,sx,h0,h1,z,h7]⟩
  ·simp only[sz,simprocAttr,fu,z,h7];have f:i<=l.length:=by omega
   by_cases c1:i<l.length
   ·obtain⟨y,C,-,-⟩:=ah (l:=l) (j:=i) c1;have u:i<(l.map ci).length:=by simpa using c1
    have w:(l.map ci)[i]?=some (ci y):=by rw[Zy,C];rfl
    have s:(i:Int)<(l.length:Int):=by omega
    cases hq:decide (y=x) with
    | true =>simp only[sz,simprocAttr,h0,h1,h7,s,rl,u,w,ci,hq];exact⟨λ_=>True,(i,true),f,_,_,rfl,ay.2 rfl,cE.2 rfl⟩
    | false =>simp only[sz,simprocAttr,h0,h1,h7,s,rl,u,w,ci,hq,bw6 (abc d)];exact⟨λ_=>True,(i,false),f,_,_,rfl,ay.2 rfl,cE.2 rfl⟩
   ·have s:¬((i:Int)<(l.length:Int)):=by omega
    simp only[sz,simprocAttr,s];exact⟨λ_=>True,(i,false),f,_,_,rfl,ay.2 rfl,cE.2 rfl⟩
 obtain⟨r,hr,⟨p,b⟩,hp,a,c,rfl,ha,hc⟩:=key;have ha:=ay.1 ha;have hc:=cE.1 hc;injection ha with ha;injection hc with hc;exact⟨p,b,hp,by rw[hr,ha,hc]⟩
theorem bw2[Z0](d:Nat)(xs:List AV)(g:G):ae C0 d 154 xs g=mL d xs g:=by kernel_rfl
end
def Yu(b:Nat)(l:List Int)(u:AV)(g:G):Prop:=(l=[]/\u=.Z6)\/∃id lo,b<=id/\id<g.nx/\u=.ZG id 0 0 l.length none/\g.h.get id=.cells 1 (l.map ci) 0 lo false/\(0<l.length->lo=true)/\(l.length=0->lo=false)
theorem Yu.fr{g':G}(h:Yu b l u g)(f:Fr g g'):Yu b l u g':=by
 rcases h with h|⟨id,lo,h1,h2,k,h4,h5⟩
 ·exact .inl h
 ·exact .inr ⟨id,lo,h1,Vd h2 f.1,k,by rw[f.2 id h2,h4],h5⟩
theorem bw1{id:Nat}{x:AV}(hx:ak g.h 1 x=some (l.map ci))(h3:g.h.get id=Z4 1 [])(hid:id<g.nx)(hr:l.length<=1000)
  (k:∀u g',Yu id l u g'->Fr g g'->K u g'):(eS 1 8 (.ZG id 0 0 0 none) x g).sat K g D:=by
 unfold eS;rw[hx];cases l with
 | nil =>simp only[bK,G.get_eq,h3,ax,aa,X_,U2,R1,Zk,MH,QO];rw[ZN ⟨by simp,by simp⟩,ZN (by simp)];exact k _ _ (.inr ⟨id,false,ZV _,hid,rfl,by simpa using h3,by simp,by simp⟩) (Fr.refl g)
 | cons y l =>simp only[bK,G.get_eq,h3,ax,aa,X_,U2,R1,Zk,Qv,V8,QO,Ju,Ku,XH,Fa];rw[ZN ⟨by omega,by unfold aQ;simp at hr;omega⟩,bJ,ZN (by rfl)];refine k _ _ (.inr ⟨g.nx,true,by omega,by simp,by simp,?_,by simp,by simp⟩) (Fr.new g _);simp[aY,bE,bu]
theorem bw0[Z0](hv:ZT ZX 0 .nil l v)(hl2:l.length<=1000)(kk:∀u g',Yu g.nx l u g'->Fr g g'->K u g') :
  (ae C0 d 155 [v] g).sat K g D:=by
 rw[sW];refine j9 wx (by simp[eG]) ?_
 by_cases hn:v=.Z6
 ·subst hn;have hl:l=[]:=by have h:=hv.2;unfold NJ at h;exact h
  have k:uz false .slice .Z6 .Z6=.val (.bool true):=rfl;simp only[sz,simprocAttr,eG,k];exact kk _ _ (.inl ⟨hl,rfl⟩) (Fr.refl g)
 ·have k:uz false .slice v .Z6=.val (.bool false):=by
   have h:=hv.2;unfold NJ at h
   split at h
   ·exact absurd rfl hn
   ·rfl
   ·rfl
   ·exact h.1.elim
   ·exact h.elim
  simp only[sz,simprocAttr,eG,k];refine bw1 (l:=l) ((hv.tree (ZV _)).ints) (by simp[Za]) (by simp) hl2 λu g1 hu f1=>?_;simp only[sz,simprocAttr];exact kk u g1 hu ((Fr.new g _).trans f1)
theorem yC(ps:List Int)(k:Nat)(v:Int)(hk:k<=ps.length):(Dh ps k v).length=ps.length+1:=by simp[Dh];omega
theorem bv_[Z0]{p id2 ep2:Nat}{x:Int}{lim:Option Nat}{lo fz:Bool}(hu:Yu b l u g)(hl:l.length<=1000)(hp:p<=l.length)(h2:g.h.get id2=.cells 1 [ci x] ep2 lo fz)(hne:∀i,Zi u=some i->i≠id2)(hb:b<=g.nx) :
  ∃w g',ae C0 d 154 [u,Z_ (p:Int),.ZG id2 ep2 0 1 lim] g=.upd w g'/\Own g' b w 1 ((Dh l p x).map ci)/\g.nx<=g'.nx/\(∀i,i<g.nx->Zi u≠some i->g'.h.get i=g.h.get i):=by
 rw[bw2];have e0:mL d [u,Z_ (p:Int),.ZG id2 ep2 0 1 lim] g=DO id2 p u [ci x] g:=by
  show (match g.get id2 with
   |.cells sz2 vrows ep2' _ _=>ap ((((Nat.beq sz2 1&&Nat.beq ep2 ep2')&&Nat.beq 0 0)&&Nat.beq 1 (bi vrows))&&Nat.ble 1 1) (DO id2 p u vrows g) .fail
   |_=>.fail)=_
  rw[G.get_eq,h2];dsimp only;rw[aa,ZN];simp[ax]
 rw[e0];have k:p=0->l=[]->∃w g',uO p [ci x] g=.upd w g'/\Own g' b w 1 ((Dh l p x).map ci)/\g.nx<=g'.nx/\(∀i,i<g.nx->Zi u≠some i->g'.h.get i=g.h.get i):=λh1 h2=>by
  subst h1;subst h2;refine⟨.ZG g.nx 0 0 1 none,g.new (.cells 1 [ci x] 0 true false),?_,.inr ⟨g.nx,0,true,hb,by simp,rfl,by simp[aY,Dh]⟩,by simp,λi hi _=>?_⟩
  ·unfold uO;rw[aa,ZN]
   ·rfl
   ·simp[ax]
  ·rw[G.new_h,aF]
 rcases hu with⟨rfl,rfl⟩|⟨id,lo2,f,h4,rfl,h5,j,h7⟩
 ·exact k (by simpa using hp) rfl
 ·cases l with
  | nil =>
   have e1:DO id2 p (.ZG id 0 0 ([]:List Int).length none) [ci x] g=uO p [ci x] g:=by rw[h7 rfl]at h5;simp only[DO,G.get_eq,h5,MH];rw[aa,ZN];simp
   rw[e1];exact k (by simpa using hp) rfl
  | cons y l =>
   rw[j (by simp)]at h5;have c:=hne id rfl;have e1:DO id2 p (.ZG id 0 0 (y::l).length none) [ci x] g=.upd (.ZG id 1 0 ((y::l).length+1) none) (g.put id (.cells 1 ((Dh (y::l) p x).map ci) 1 true false)):=by
    simp only[DO,G.get_eq,h5,Qv];rw[aa,ZN]
    ·simp[ax,bE,bu,Dh]
    ·rw[show Nat.beq 1 1=true from rfl];have a:Nat.beq id id2=false:=by rw[<-HF,aeH];exact c
     simp only[a,lq,ax,X_,Zk,R1,V8,Ju,QO,true_and,and_true];simp at hp hl
     (repeat' apply Z3)<;>first|omega| (simp;done)
   rw[e1];refine⟨_,_,rfl,.inr ⟨id,1,true,f,by simpa using h4,?_,by simp[aY]⟩,by simp,λi hi hv=>?_⟩
   ·rw[Ju,yC _ _ _ hp]
   ·rw[G.put_h,aF (λe=>hv (by rw[e];rfl))]
structure Wc (bx nd:List AV) (w u:AV) (ZI Z1:List Int) (beh:Int) (q:Nat) (g:G):Prop where
 h0:g.h.get 0=Z4 5 [bx]
 h1:g.h.get 1=Z4 3 [[.Z6,.Z6,.Z6]]
 h2:g.h.get 2=Z4 3 [nd]
 h8:g.h.get q=Z4 3 [[w,u,.Z6]]
 h9:g.h.get (q+1)=Z4 1 [[Z_ beh]]
 hw:Own g 3 w 1 (ZI.map ci)
 hu:Own g (q+2) u 1 (Z1.map ci)
 wq:∀i,Zi w=some i->i<q
 q3:3<=q
 qn:q+2<=g.nx
def rA(q:Nat):List (Nat×AV):=[(2,ZZ 0),(4,ZZ 1),(5,ZZ 2),(8,ZZ q),(9,ZZ (q+1))]
structure VG (gr:Int) (b cv sv oz:AV) (nd:List AV) (w:AV) (cs ZI:List Int) (pl q j:Nat) (t:T) (g:G):Prop where
 st:St t ((38,w)::(6,Z_ (pl:Int))::rA q)
 hp:∃u,Wc [Z_ gr,b,cv,sv,oz] nd w u ZI (G3 cs (ZI.take j)) (G5 (G3 cs ((ZI.take j).drop (pl+1)))) q g
theorem bv9(hp:l.take (j+1)=l.take j++[p])(hj:j<l.length)(h:k<j):(l.take (j+1)).drop (k+1)=(l.take j).drop (k+1)++[p]:=by rw[hp,List.drop_append_of_le_length (by simp;omega)]
theorem bv8(h:j<=k):(l.take (j+1)).drop (k+1)=(l.take j).drop (k+1):=by rw[adi (by simp;omega),adi (by simp;omega)]
theorem bv7[Z0]{pl:Nat}{b cv sv oz:AV}{nd:List AV}{cs ZI:List Int}(rc:∀h,ak h 1 cv=some (cs.map ci))(hvl:ZI.length<=16)(hvp:∀p∈ZI,0<=p/\p<cs.length)(hcb:∀c∈cs,1<=c/\c<=4)(hpl:pl<=1000)
  (h0:VG gr b cv sv oz nd w cs ZI pl q 0 t g) (h40:ZY t 40=Z_ 0) (h39:ZY t 39=Z_ (ZI.length:Int))
  (fin:∀t g,VG gr b cv sv oz nd w cs ZI pl q ZI.length t g->Q (.exit 0) t [] g):Uk (wp C0 d none fe) Q t [] g:=by
 simp only[fe,jH];refine b_ (m:=ZI.length) (by omega) (λj t df g=>df=[]/\VG gr b cv sv oz nd w cs ZI pl q j t g) ⟨rfl,h0⟩ h40 h39 (by decide)
  (by rintro j t df g v s (rfl|rfl|rfl) ⟨a1,⟨b1,b2,L,M,N,O,R,-⟩,c1⟩<;>exact⟨a1,by simp[St,rA,sx,b1,b2,L,M,N,O,R],c1⟩) ?_ ?_
 ·rintro j t df g E ⟨rfl,⟨k,o,h2,h4,h5,h8,h9,-⟩,u,hp⟩ h40 h39;obtain⟨p,F,D,H⟩:=ah E;obtain⟨Vh,Y⟩:=hvp p H;obtain⟨pn,rfl⟩:=Wu Vh;have A:pn<cs.length:=by omega
  have r:cs[pn]?=some cs[pn]:=Zq A;have B:=hcb _ (E_ A);generalize cs[pn]=c at r B;have Z:j<(ZI.map ci).length:=by simpa using E
  have u2:(ZI.map ci)[j]?=some (ci (pn:Int)):=by rw[Zy,F];rfl
  have u3:pn<(cs.map ci).length:=by simpa using A
  have K:(cs.map ci)[pn]?=some (ci c):=by rw[Zy,r];rfl
  have P7:=hp.hw.rows;have q3:=hp.q3;have qn:=hp.qn;have epc:G3 cs (ZI.take (j+1))=G3 cs (ZI.take j)++[c]:=by rw[D,fW];simp[G3,r]
  have V:(G3 cs (ZI.take j)).length<=16:=by simp[G3];omega
  have nq1:¬q=q+1:=by omega
  have nq2:¬q+1=q:=by omega
  refine eK (P:=λt' df g'=>df=[]/\g'=g/\St t' ((40,Z_ (j:Int))::(39,Z_ (ZI.length:Int))::(10,Z_ (j:Int))::(11,Z_ (pn:Int))::(38,w)::(6,Z_ (pl:Int))::rA q)) ?_ ?_
  ·simp only[sz,simprocAttr,k,h40,P7,Z,u2,ci];simp[St,rA,sx,k,o,h2,h4,h5,h8,h9,h40,h39]
  clear k o h2 h4 h5 h8 h9 h40 h39;rintro t df g1 ⟨rfl,rfl,⟨h40,h39,f,n,k,o,h2,h4,h5,h8,h9,-⟩⟩;refine gv (P:=λt' df g'=>df=[]/\St t' ((40,Z_ (j:Int))::(39,Z_ (ZI.length:Int))::(10,Z_ (j:Int))::(11,Z_ (pn:Int))::(38,w)::(6,Z_ (pl:Int))::rA q) /\
   ∃u,Wc [Z_ gr,b,cv,sv,oz] nd w u ZI (G3 cs (ZI.take (j+1))) (G5 (G3 cs ((ZI.take j).drop (pl+1)))) q g') ?_ ?_
  ·simp only[sz,simprocAttr,sf,h8,h2,n,hp.h8,hp.h0,rc,u3,K,ci];refine aP (b:=q+2) (rows:=(G3 cs (ZI.take j)).map ci) (new:=[[Z_ c]]) (hp.hu.fr (by simp;omega) λi hi=>?_) (by simp[sx,sy]) (by simp;omega) (by unfold aQ;simp;omega) λu' ga hu' n1 f1 vid1 lg1=>?_
   ·have:=(hp.hu.lt hi).2;simp[Za];omega
   simp only[sx,sy]at n1 f1 vid1 lg1;have I:ga.h.get q=Z4 3 [[w,u,.Z6]]:=by rw[f1 q (by omega) (λe=>by have:=(hp.hu.lt e).1;omega),bJ,hp.h8]
   simp only[sz,simprocAttr,sf,h8,I,hu'.cell.1,hu'.cell.2];refine⟨?_,?_,u',?_⟩
   ·simp only[I9,Nq,DI,ML];refine aK (false::(Vk (JO (true::(true::(false::(true::[]))))))) [(0,7),(1,7)] (by simp[ZL,am,aA]) (by decide) ?_;rintro p C x y hx J;simp only[Y0,QA,TP]at C;rcases C with rfl|rfl<;>(simp at hx J;subst hx;subst J;refine dP rfl rfl rfl rfl ?_ ?_ ?_<;>simp[am,aA,an]<;>omega)
   ·simp[St,rA,sx,k,o,h2,h4,h5,h8,h9,h40,h39,f,n]
   ·have keep:∀i,i<q+2->i≠q->(ga.h.put q (Z4 3 [[w,u',.Z6]])).get i=g1.h.get i:=λi hi hne=>by simp only[Za,ZF hne];rw[f1 i (by omega) (λe=>by have:=(hp.hu.lt e).1;omega),bJ]
    refine⟨(keep 0 (by omega) (by omega)).trans hp.h0,(keep 1 (by omega) (by omega)).trans hp.h1,(keep 2 (by omega) (by omega)).trans hp.h2,by simp[Za],(keep (q+1) (by omega) (by omega)).trans hp.h9,hp.hw.fr (by simp;omega) λi hi=>keep i (by have:=hp.wq i hi;omega) (by have:=hp.wq i hi;omega),?_,hp.wq,q3,by simp;omega⟩;rw[epc,K0];exact hu'.fr (by simp;omega) λi hi=>by have:=(hu'.lt hi).1;simp[Za,show ¬i=q by omega]
  clear hp qn P7 h40 h39 f n k o h2 h4 h5 h8 h9;rintro t df g ⟨rfl,⟨h40,h39,f,n,k,o,h2,h4,h5,h8,h9,-⟩,u,hp⟩
  by_cases hk:pl<j
  ·have z:(pl:Int)<(j:Int):=by omega
   have ed:G5 (G3 cs ((ZI.take (j+1)).drop (pl+1)))=G5 (G3 cs ((ZI.take j).drop (pl+1)))*c:=by rw[bv9 D E hk,fW,uc];simp[G3,r,G5]
   have X:=cD (l:=G3 cs ((ZI.take (j+1)).drop (pl+1))) (ct hcb λp hp=>hvp p (Xp (R2 hp)));have W:=fH (a:=(G3 cs ((ZI.take (j+1)).drop (pl+1))).length) (b:=16) (by simp[G3];omega);have U:(4:Int) ^ 16=4294967296:=by decide
   have w1:IntKind.wrap .i64 (G5 (G3 cs ((ZI.take j).drop (pl+1)))*c)=G5 (G3 cs ((ZI.take (j+1)).drop (pl+1))):=by rw[<-ed,aq]
   simp only[sz,simprocAttr,sf,f,o,z,h9,hp.h9,h2,hp.h0,n,rc,u3,K,ci,w1];refine⟨?_,⟨?_,u,?_⟩,h40,h39⟩
   ·simp only[I9,Nq,DI,ML];exact aK (false::(Vk (JO (true::[])))) [] (by simp[ZL,am,aA]) (by decide) (by simp)
   ·simp[St,rA,sx,k,o,h2,h4,h5,h8,h9]
   ·have qn:=hp.qn;have keep:∀i,i≠q+1->(g.h.put (q+1) (Z4 1 [[Z_ (G5 (G3 cs ((ZI.take (j+1)).drop (pl+1))))]])).get i=g.h.get i:=λi hne=>by simp only[Za,ZF hne]
    exact⟨(keep 0 (by omega)).trans hp.h0,(keep 1 (by omega)).trans hp.h1,(keep 2 (by omega)).trans hp.h2,(keep q (by omega)).trans hp.h8,by simp[Za],hp.hw.fr (by simp;omega) λi hi=>keep i (by have:=hp.wq i hi;omega),hp.hu.fr (by simp;omega) λi hi=>keep i (by have:=(hp.hu.lt hi).1;omega),hp.wq,q3,by simp;omega⟩
  ·have z:¬((pl:Int)<(j:Int)):=by omega
   have ed:(ZI.take (j+1)).drop (pl+1)=(ZI.take j).drop (pl+1):=bv8 (by omega);simp only[sz,simprocAttr,f,o,z];refine⟨⟨by simp[St,rA,sx,k,o,h2,h4,h5,h8,h9],u,?_⟩,h40,h39⟩;rw[ed];exact hp
 ·rintro t df g ⟨rfl,h⟩;exact fin t g h
section
variable {iw C:Nat}
def GH(h:H)(n:Nat):G:=⟨h,n,[]⟩
@[simp] theorem GH_h (h:H) (n:Nat):(GH h n).h=h:=rfl
@[simp] theorem GH_nx (h:H) (n:Nat):(GH h n).nx=n:=rfl
theorem Own.gh{sz:Nat}{rows:List (List AV)}(h:Own g b v sz rows)(hv:Zi v=some i):Own (GH g.h (i+1)) b v sz rows:=by
 rcases h with h|⟨id,ep,lo,h1,h2,rfl,k⟩
 ·exact .inl h
 ·injection hv with hv;subst hv;exact .inr ⟨id,ep,lo,h1,by simp,rfl,k⟩
structure Yk (g0:G) (iw:Nat) (W:AV) (Zw:List (List Int)) (B C t:Nat) (h:H):Prop where
 fr:∀i,i<g0.nx->i≠iw->h.get i=g0.h.get i
 ow:Own (GH h (iw+1)) 3 W 1 ((B6 Zw B C t).map ci)
theorem Yk.up{W:AV}{B t:Nat}{h':H}(hf:Yk g0 iw W Zw B C t h)(hv:Zi W=some iw)(hi:iw<g0.nx)(hh:∀i,i<g0.nx->h'.get i=h.get i):Yk g0 iw W Zw B C t h' :=⟨λi h1 h2=>by rw[hh i h1,hf.fr i h1 h2],hf.ow.fr (by simp) λi h=>by rw[hv]at h;injection h with h;subst h;exact hh _ hi⟩
structure LY (g0 g2:G) (iw:Nat) (W z:AV) (r:List Int) (Zw:List (List Int)) (B C q j i:Nat) (t:T) (g:G):Prop where
 st:St t ((78,z)::(12,Z_ (j:Int))::rA q)
 hp:Yk g0 iw W Zw B C (j*C+i) g.h
 nx:g2.nx<=g.nx
 fr:∀i,g0.nx<=i->i<g2.nx->g.h.get i=g2.h.get i
theorem bv6[Z0]{A B:Nat}{W z:AV}{r:List Int}{rd:Option Nat}{g2:G}(hz:ZT ZX 0 .nil r z)(hr:Zw[j]?=some r)(hrl:r.length=C)(hB:0<B)(hA:Zw.length=A*B)(hsz:Zw.length*C<=1000000)
  (e8:g0.h.get q=Z4 3 [[w,u,W]]) (e2:g0.h.get 2=Z4 3 [[Z_ (C:Int),pa,ra]]) (e9:g0.h.get (q+1)=Z4 1 [[Z_ (B:Int)]]) (hq:q+1<g0.nx) (hq3:3<=q) (hiw:iw<g0.nx) (hvw:Zi W=some iw) (hiq:q+1<iw) (hg2:g0.nx<=g2.nx)
  (h0:LY g0 g2 iw W z r Zw B C q j 0 t g) (h80:ZY t 80=Z_ 0) (h79:ZY t 79=Z_ (r.length:Int))
  (fin:∀t g,LY g0 g2 iw W z r Zw B C q j r.length t g->Q (.exit 4) t [] g):Uk (wp C0 d rd ff) Q t [] g:=by
 simp only[ff];refine b_ (m:=r.length) hz.1 (λi t df g=>df=[]/\LY g0 g2 iw W z r Zw B C q j i t g) ⟨rfl,h0⟩ h80 h79 (by decide)
  (by rintro j t df g v s (rfl|rfl|rfl) ⟨a1,⟨b1,b2,K,L,M,N,O,-⟩,c1,R,U⟩<;>exact⟨a1,by simp[St,rA,sx,b1,b2,K,L,M,N,O],c1,R,U⟩) ?_ ?_
 ·rintro i t df g hi ⟨rfl,⟨a,k,h2,h4,h5,h8,h9,-⟩,hp,Y,H⟩ h80 h79;obtain⟨x,hx,-,-⟩:=ah hi;have rz:=λh=>(hz.tree (h':=h) (ZV 0)).ints;have u1:i<(r.map ci).length:=by simpa using hi
  have u2:(r.map ci)[i]?=some (ci x):=by rw[Zy,hx];rfl
  have hj:=(tI.1 hr).1;have f:i<C:=by omega
  have o:=Jp (A:=A) (b:=B) (Z5:=C) (i:=j) (x:=i) hB (by omega) f;rw[<-hA]at o;have I:=bz8 (b:=B) (Z5:=C) (A:=A) (i:=j) (x:=i) hB hA hr f hx;have k8:g.h.get q=Z4 3 [[w,u,W]]:=by rw[hp.fr q (by omega) (by omega),e8]
  have k2:g.h.get 2=Z4 3 [[Z_ (C:Int),pa,ra]]:=by rw[hp.fr 2 (by omega) (by omega),e2]
  have k9:g.h.get (q+1)=Z4 1 [[Z_ (B:Int)]]:=by rw[hp.fr (q+1) (by omega) (by omega),e9]
  have p:=hp.ow.rows;rw[GH_h]at p;have X:j<1000001:=by have:Zw.length*1<=Zw.length*C:=adg _ (by omega);omega
  have q1:=Bu (x:=j) (y:=B) (by omega) hB;have q2:=Ej (x:=j) (y:=B) hB;have l1:j / B*C<=De B C j i:=by unfold De;have:(j / B*C+i)*1<=(j / B*C+i)*B:=adg _ hB;omega
  have l2:(j / B*C+i)<=De B C j i:=by unfold De;have:(j / B*C+i)*1<=(j / B*C+i)*B:=adg _ hB;omega
  have l3:(j / B*C+i)*B<=De B C j i:=by unfold De;omega
  have w1:IntKind.wrap .i64 (((j / B:Nat):Int)*(C:Int))=((j / B*C:Nat):Int):=by rw[<-QR,aq]
  have w2:IntKind.wrap .i64 (((j / B*C:Nat):Int)+(i:Int))=((j / B*C+i:Nat):Int):=by rw[aq];simp
  have w3:IntKind.wrap .i64 (((j / B*C+i:Nat):Int)*(B:Int))=(((j / B*C+i)*B:Nat):Int):=by rw[<-QR,aq]
  have w4:IntKind.wrap .i64 ((((j / B*C+i)*B:Nat):Int)+((j % B:Nat):Int))=((De B C j i:Nat):Int):=by rw[<-ad1];show IntKind.wrap .i64 ((De B C j i:Nat):Int)=_;rw[aq]
  have F:=KU Zw B C (j*C+i);have u3:De B C j i<((B6 Zw B C (j*C+i)).map ci).length:=by rw[Ju,F];exact o
  have J:((B6 Zw B C (j*C+i)).map ci)[De B C j i]?=some (((B6 Zw B C (j*C+i)).map ci)[De B C j i]):=Zq u3;have l:∃y:Int,((B6 Zw B C (j*C+i)).map ci)[De B C j i]=ci y:=⟨_,aei ..⟩;obtain⟨y,Z⟩:=l;rw[Z]at J;have V:g0.nx<=g.nx:=by omega
  refine eK (P:=λt' df g'=>df=[]/\g'=g/\St t' ((80,Z_ (i:Int))::(79,Z_ (r.length:Int))::(14,Z_ (i:Int))::(15,Z_ x)::(78,z)::(12,Z_ (j:Int))::rA q)) ?_ ?_
  ·simp only[sz,simprocAttr,a,h80,rz,u1,u2,ci];simp[St,rA,sx,a,k,h2,h4,h5,h8,h9,h80,h79]
  clear a k h2 h4 h5 h8 h9 h80 h79;rintro t df g1 ⟨rfl,rfl,⟨h80,h79,D,E,a,k,h2,h4,h5,h8,h9,-⟩⟩;simp only[sz,simprocAttr,sf,h8,k,h9,h5,D,E,k8,k2,k9,q1,q2,w1,w2,w3,w4,p,u3];refine bZ (v:=W) (sz:=1) (n:=1) (i:=De B C j i) (off:=0) (x:=Z_ x) (row':=ci x) ((hp.ow.fr (g':=g1) (by simp;omega) λi _=>rfl).fr (by simp;omega) λi _=>by simp) J rfl rfl rfl λg4 hu4 n4 f4=>?_;rw[<-MO,I]at hu4;have c:∀i,i≠iw->g4.h.get i=g1.h.get i:=λi hi=>by rw[f4 i (by rw[hvw];intro e;injection e with e;exact hi e.symm)];simp
  have h3:g1.nx<=g4.nx:=by rw[n4];simp;omega
  simp only[sx,sy,↓reduceIte,Nat.reduceEqDiff];refine⟨?_,⟨?_,⟨λi h1 h2=>?_,?_⟩,?_,λi h1 h2=>?_⟩,h80,h79⟩
  ·simp only[I9,Nq,DI,ML];exact aK (Vk (Zb (Zb (true::[])))) [] (by simp[ZL,am,aA]) (by decide) (by simp)
  ·simp[St,rA,sx,a,k,h2,h4,h5,h8,h9]
  ·simp only[Zx];rw[c i h2,hp.fr i h1 h2]
  ·exact hu4.gh hvw
  ·simp;omega
  ·simp only[Zx];rw[c i (by omega),H i h1 h2]
 ·rintro t df g ⟨rfl,h⟩;exact fin t g h
theorem bv5[Z0]{A B:Nat}{W pa' ra':AV}(hra:ZT ZX 0 .nil Zw ra')(hrl:∀r∈Zw,r.length=C)(hB:0<B)(hA:Zw.length=A*B)(hsz:Zw.length*C<=1000000)
  (h75:ZY t 75=.ZH 169 [] [.ZR 0 3 [[Z_ (C:Int),pa',ra']] 0 0])
  (e8:g0.h.get q=Z4 3 [[w,u,W]]) (e2:g0.h.get 2=Z4 3 [[Z_ (C:Int),pa,ra]]) (e9:g0.h.get (q+1)=Z4 1 [[Z_ (B:Int)]]) (hq:q+1<g0.nx) (hq3:3<=q) (hiw:iw<g0.nx) (hvw:Zi W=some iw) (hiq:q+1<iw)
  (ht:St t (rA q)) (hW:Own g0 3 W 1 ((List.replicate (Zw.length*C) (0:Int)).map ci))
  (fin:∀g',Yk g0 iw W Zw B C (Zw.length*C) g'.h->g0.nx+2<=g'.nx->g'.h.get g0.nx=.ZP true->Q .norm t [.mark g0.nx] g') :
  wp C0 d none (.Yv 105 (.t 75) [76,77] fd fg) Q t [] g0:=by
 obtain⟨h2,h4,h5,h8,h9,-⟩:=ht;refine LZ (c:=(C:Int)) (pa:=pa') hra h75 (by decide) (by decide) (λj h=>Yk g0 iw W Zw B C (j*C) h) (λ_=>False) ?_ ?_ ?_ ?_ fin ?_
 ·intro j h h' m hf;exact hf.up hvw hiw m
 ·intro h h' _ hf;exact hf
 ·refine⟨λi _ _=>rfl,?_⟩;rw[aeB,bz9];exact hW.gh hvw
 ·intro j r z g1 hr hz hf n;have k:=hrl r (YH hr);simp only[sz,simprocAttr,fd];intro g2 l e;have a:Yk g0 iw W Zw B C (j*C) g2.h:=hf.up hvw hiw λi hi=>e i (by omega);simp only[sz,simprocAttr,fg,hz.len];refine bv6 (g2:=g2) (A:=A) (q:=q) (iw:=iw) (w:=w) (u:=u) (W:=W) (z:=z) (r:=r) (Zw:=Zw) hz hr k hB hA hsz e8 e2 e9 hq hq3 hiw hvw hiq (by omega) ⟨by simp[St,rA,sx,h2,h4,h5,h8,h9],by simpa using a,ZV _,λ_ _ _=>rfl⟩ (by simp[sx]) (by simp[sx]) ?_;rintro t g ⟨-,hp,f,b⟩;simp only[sx,sy,↓reduceIte];refine⟨f,b,.inl ⟨rfl,?_⟩⟩;rw[k,show j*C+C=(j+1)*C by rw[UF,VT]]at hp;exact hp
 ·intro g' hf;exact hf.elim
end
def B0(n:Zv)(i:Nat)(x:Node)(p:Nat):Zj:=⟨Dh x.Z9 p (i:Int),G3 (IO n) (Dh x.Z9 p (i:Int)),n0 x.rows (G5 (G3 (IO n) (x.Z9.drop p))).toNat x.Z5.toNat⟩
def bv4(n:Zv)(i:Nat)(x:Node):VS:=λP k h v=>∃p:Nat,p<=x.Z9.length/\Zl (B0 n i x p) P k h v
theorem bv3{v:Int}(hk:k<=ps.length):(Dh ps k v).drop (k+1)=ps.drop k:=by
 have h1:Dh ps k v=(ps.take k++[v])++ps.drop k:=by simp[Dh]
 rw[h1,List.drop_left' (by simp;omega)]
theorem Own.low{b':Nat}{sz:Nat}{rows:List (List AV)}(h:Own g b v sz rows)(hb:b'<=b):Own g b' v sz rows:=by
 rcases h with h|⟨id,ep,lo,h1,h2⟩
 ·exact .inl h
 ·exact .inr ⟨id,ep,lo,by omega,h2⟩
theorem bv2(h:w.cells=[w])(h2:w.isTup=false):dX [.Z6,.Z6,.Z6] [((0,1),w)]=some [w,.Z6,.Z6]:=by
 simp[dX,h,h2,eJ]
 rfl
theorem bv1[Z0]{o:List Int}(hd:0<d)(hr:NR n)(hm:Zl ((n,IO n,ET n,o):NwM) ZX 0 g.h v)(hx:n.Z7[i]?=some x) :
  ∃r,ae C0 d 129 [v,Z_ (i:Int)] g=.val r/\bv4 n i x ZX 0 .nil r:=by
 have e0:=jV d hm;obtain⟨cs,rfl,hc⟩:=hm;obtain⟨b,cv,sv,oz,rfl,hN,K,-,-⟩:=C6.1 hc;have hN:ZT ZX 0 .nil n.Z7 b:=hN.tree (h':=.nil) (ZV 0);have K:ZT ZX 0 .nil (IO n) cv:=K.tree (h':=.nil) (ZV 0);obtain⟨rows,r1,r2,r3,r4⟩:=hN.all;obtain⟨row,q1,q2⟩:=r3 i x hx;obtain⟨pa,ra,rfl,F,H⟩:=cM.1 q2;have z:=YH hx;have ht:=(tI.1 hx).1;have hv:=hr.l2;have hlt:i<rows.length:=by omega
 have k5:=r4 (by omega);have k4:=my (hr.places x z) (by omega);have s:=hr.pin z;have r1:∀h',ak h' 3 b=some rows:=r1;have rc:=λh=>(K.tree (h':=h) (ZV 0)).ints;rw[Zn];refine aI wu (xs:=[.agg [Z_ n.Z8,b,cv,sv,oz],Z_ (i:Int)]) (by simp only[aD,e0,aU 0]) (by simp[gV]) (o7 λo=>cH _) (by decide) hd ?_;simp only[sz,simprocAttr,gV];obtain⟨g0,hg0⟩:∃g0,g0=(G.empty.new (Z4 5 [[Z_ n.Z8,b,cv,sv,oz]])).new (Z4 3 [[.Z6,.Z6,.Z6]]):=⟨_,rfl⟩;rw[<-hg0];have f0:g0.h.get 0=Z4 5 [[Z_ n.Z8,b,cv,sv,oz]]:=by rw[hg0];simp[sx,Za]
 have f1:g0.h.get 1=Z4 3 [[.Z6,.Z6,.Z6]]:=by rw[hg0];simp[sx]
 have f2:g0.nx=2:=by rw[hg0];simp[sx]
 clear hg0;simp only[kK];refine gv (P:=λt' df g'=>df=[]/\g'.nx=3/\g'.h.get 0=Z4 5 [[Z_ n.Z8,b,cv,sv,oz]]/\g'.h.get 1=Z4 3 [[.Z6,.Z6,.Z6]]/\g'.h.get 2=Z4 3 [[Z_ x.Z5,pa,ra]]/\St t' [(1,Z_ (i:Int)),(2,ZZ 0),(4,ZZ 1),(5,ZZ 2)]) ?_ ?_
 ·simp only[sz,simprocAttr,f0,r1,hlt,q1];simp[St,sx,f1,f2]
 rintro t df g1 ⟨rfl,n1,k0,k1,k2,h1,h2,h4,h5,-⟩;obtain⟨p,sb,hp,es⟩:=bw3 (d:=d+1) (g:=g1) (x:=(i:Int)) (abc d) (F.tree (ZV 0)) (by omega);refine gv (P:=λt' df g'=>df=[]/\g'=g1/\St t' [(1,Z_ (i:Int)),(2,ZZ 0),(4,ZZ 1),(5,ZZ 2),(6,Z_ (p:Int))]) ?_ ?_
 ·simp only[sz,simprocAttr,h5,h1,k2,es];simp[St,sx,h1,h2,h4,h5]
 clear h1 h2 h4 h5;rintro t df g2 ⟨rfl,rfl,h1,h2,h4,h5,D,-⟩;refine gv (P:=λt' df g'=>df=[]/\∃w q,w.cells=[w]/\Wc [Z_ n.Z8,b,cv,sv,oz] [Z_ x.Z5,pa,ra] w .Z6 (Dh x.Z9 p (i:Int)) [] 1 q (g'.new (Z4 1 [[Z_ 1]]))/\g'.nx=q+1/\St t' [(2,ZZ 0),(4,ZZ 1),(5,ZZ 2),(6,Z_ (p:Int)),(8,ZZ q)]) ?_ ?_
 ·simp only[sz,simprocAttr,h5,k2];refine bw0 (l:=x.Z9) F (by omega) λu ga hu fa=>?_;simp only[sz,simprocAttr,D,h1];have T:∀i,Zi u=some i->g2.nx<=i/\i<ga.nx:=λi hi=>by
   rcases hu with⟨-,rfl⟩|⟨id,lo,a1,a2,rfl,-⟩
   ·cases hi
   ·injection hi with hi;subst hi;exact⟨a1,a2⟩
  have fa1:=fa.1;obtain⟨w,g3,e3,hw,n3,f3⟩:=bv_ (d:=d+1) (b:=g2.nx) (p:=p) (id2:=ga.nx) (ep2:=0) (x:=(i:Int)) (lim:=none) (hu.fr (Fr.new ga (Z4 1 [[Z_ (i:Int)]]))) (by omega) hp (by simp[Za];exact⟨rfl,rfl,rfl⟩) (λj hj=>by have:=T j hj;omega) (by simp;omega);rw[e3];simp only[sz,simprocAttr,bv2 hw.cell.1 hw.cell.2];have k7:ga.nx+1<=g3.nx:=by simpa using n3
  have keep:∀j,j<3->g3.h.get j=g2.h.get j:=λj hj=>by rw[f3 j (by simp;omega) (λe=>by have:=T j e;omega),<-fa.2 j (by omega)];simp[Za,show ¬j=ga.nx by omega]
  have I:∀j,Zi w=some j->3<=j/\j<g3.nx:=λj hj=>by have:=hw.lt hj;omega
  have ne1:∀j,j<g3.nx->¬j=g3.nx/\¬j=g3.nx+1:=λj hj=>by omega
  refine⟨w,g3.nx,hw.cell.1,⟨?_,?_,?_,?_,?_,?_,?_,?_,?_,?_⟩,?_,?_⟩
  ·simp[Za,ne1 0 (by omega),keep 0 (by omega),k0,show ¬g3.nx=0 by omega]
  ·simp[Za,ne1 1 (by omega),keep 1 (by omega),k1,show ¬g3.nx=0 by omega]
  ·simp[Za,ne1 2 (by omega),keep 2 (by omega),k2]
  ·simp[Za]
  ·simp[Za]
  ·refine (Own.low hw (b':=3) (by omega)).fr (by simp;omega) λj hj=>?_;have:=ne1 j (I j hj).2;simp[Za,this]
  ·exact .inl ⟨rfl,rfl⟩
  ·exact λj hj=>(I j hj).2
  ·omega
  ·simp
  ·simp
  ·simp[St,sx,h2,h4,h5,D]
 clear h1 h2 h4 h5 D es;rintro t df g3 ⟨rfl,w,q,k6,m,Q,h2,h4,h5,D,h8,-⟩;have hs:=yC x.Z9 p (i:Int) hp;have fa:=m.hw.rows;refine gv (P:=λt' df g'=>df=[]/\g'=(g3.new (Z4 1 [[Z_ 0]])).put (q+1) (Z4 1 [[Z_ 1]])/\St t' ((6,Z_ (p:Int))::rA q)) ?_ ?_
 ·simp only[sz,simprocAttr,Q];simp[St,rA,sx,h2,h4,h5,D,h8]
 clear h2 h4 h5 D h8;rintro t df V ⟨rfl,L,D,h2,h4,h5,h8,h9,-⟩;have E:Wc [Z_ n.Z8,b,cv,sv,oz] [Z_ x.Z5,pa,ra] w .Z6 (Dh x.Z9 p (i:Int)) [] 1 q V:=by
  have e:∀j,V.h.get j=(g3.new (Z4 1 [[Z_ 1]])).h.get j:=λj=>by
   rw[L]
   by_cases hj:j=q+1<;>simp[Za,Q,hj]
  have en:V.nx=(g3.new (Z4 1 [[Z_ 1]])).nx:=by rw[L];simp
  exact⟨by rw[e,m.h0],by rw[e,m.h1],by rw[e,m.h2],by rw[e,m.h8],by rw[e,m.h9],m.hw.fr (by omega) λj _=>e j,m.hu.fr (by omega) λj _=>e j,m.wq,m.q3,by rw[en];exact m.qn⟩
 clear L m;have I:∀g,gz .slice w g=.val (Z_ (((Dh x.Z9 p (i:Int)).length:Nat):Int)):=λg=>by
  rcases E.hw with⟨-,e⟩|⟨id,ep,lo,-,-,rfl,-⟩
  ·have:((Dh x.Z9 p (i:Int)).map ci).length=0:=by rw[e];rfl
   rw[Ju]at this;omega
  ·rw[Ju];rfl
 simp only[sz,simprocAttr,h8,E.h8,I];refine bv7 (gr:=n.Z8) (b:=b) (cv:=cv) (sv:=sv) (oz:=oz) (nd:=[Z_ x.Z5,pa,ra]) (w:=w) (cs:=IO n) (ZI:=Dh x.Z9 p (i:Int)) (pl:=p) (q:=q) rc (by omega) ?_ hr.cs (by omega) ⟨by simp[St,rA,sx,h2,h4,h5,D,h8,h9],.Z6,by simpa [G3,G5] using E⟩ (by simp[sx]) (by simp[sx]) ?_
 ·intro y hy;simp only[Dh,Tn,Y0]at hy;rcases hy with hy|rfl|hy
  ·exact s y (Xp hy)
  ·rw[aX];omega
  ·exact s y (R2 hy)
 clear h2 h4 h5 D h8 h9 E;rintro t g ⟨⟨X,D,h2,h4,h5,h8,h9,-⟩,u,f⟩;rw[Xo,bv3 hp]at f;have hq:=hr.Z5 x z;have h3:∀c∈G3 (IO n) (x.Z9.drop p),1<=c/\c<=4:=ct hr.cs λp hp=>s p (R2 hp);have he:∀c∈G3 (IO n) (x.Z9.take p),1<=c/\c<=4:=ct hr.cs λp hp=>s p (Xp hp);have er:(x.rows.length:Int)=G5 (G3 (IO n) (x.Z9.take p))*G5 (G3 (IO n) (x.Z9.drop p)):=by
  rw[hr.rows x z]
  conv=>lhs;rw[<-IV p x.Z9,fW,uc]
 have ho:=pd λc hc=>(h3 c hc).1;have hl:=pd λc hc=>(he c hc).1;have k3:=cD (l:=G3 (IO n) x.Z9) (ct hr.cs s);have E:=fH (a:=(G3 (IO n) x.Z9).length) (b:=8) (by simp[G3];omega);have hk:(4:Int) ^ 8=65536:=by decide
 have ha:=hr.rows x z;obtain⟨B,Y⟩:=Wu (show 0<=G5 (G3 (IO n) (x.Z9.drop p)) by omega);obtain⟨A,hA⟩:=Wu (show 0<=G5 (G3 (IO n) (x.Z9.take p)) by omega);obtain⟨C,hC⟩:=Wu (show 0<=x.Z5 by omega);have N:x.rows.length=A*B:=by
  have:((x.rows.length:Nat):Int)=((A*B:Nat):Int):=by rw[er,QR,hA,Y]
  omega
 have hb:x.rows.length*C<=1000000:=by
  have h1:x.rows.length<=65536:=by omega
  have h2:C<=4:=by omega
  have:=Wn h1 h2;omega
 have rl:=λg=>(H.tree (h':=g) (ZV 0)).len;have rl:=λg=>(H).len g;have w1:IntKind.wrap .i64 ((x.rows.length:Int)*(C:Int))=((x.rows.length*C:Nat):Int):=by rw[<-QR,aq]
 rw[Y]at f;simp only[jJ,hC]at f ⊢;obtain⟨pa',ra',er',R,J⟩:=Gb (d:=d+1) (g:=.empty) (x:=x) (v:=.agg [Z_ (C:Int),pa,ra]) (abc d) ⟨_,rfl,cM.2 ⟨pa,ra,by rw[hC],F.tree (ZV 0),H.tree (ZV 0)⟩⟩;have q3:=f.q3;have qn:=f.qn;refine gv (P:=λt' df g'=>df=[]/\∃W,Zi W=some g.nx/\g'.nx=g.nx+1/\(∀i,i<g.nx->i≠q->g'.h.get i=g.h.get i)/\g'.h.get q=Z4 3 [[w,u,W]]/\Own g' 3 W 1 ((List.replicate (x.rows.length*C) (0:Int)).map ci)/\St t' (rA q)) ?_ ?_
 ·simp only[sz,simprocAttr,h5,f.h2,rl,w1];refine rf (b:=3) (n:=x.rows.length*C) (by unfold aQ;omega) (by unfold aQ;omega) (by omega) λW g1 hW n1 f1 vW=>?_;have U:g1.h.get q=Z4 3 [[w,u,.Z6]]:=by rw[f1 q (by omega),f.h8]
  simp only[sz,simprocAttr,h8,U,hW.cell.1,hW.cell.2];refine⟨W,vW,by simpa using n1,λi h1 h2=>?_,by simp[Za],?_,by simp[St,rA,sx,h2,h4,h5,h8,h9]⟩
  ·simp[h2];exact f1 i h1
  ·have Z:Own g1 3 W 1 ((List.replicate (x.rows.length*C) (0:Int)).map ci):=by simpa [ci] using hW
   exact Z.fr (by simp) λi hi=>by have:=iv vW hi;simp[Za,show ¬i=q by omega]
 clear X D h2 h4 h5 h8 h9;rintro t df g1 ⟨rfl,W,vW,n1,f1,U,hW,h2,h4,h5,h8,h9,-⟩;have k2:g1.h.get 2=Z4 3 [[Z_ (C:Int),pa,ra]]:=by rw[f1 2 (by omega) (by omega),f.h2]
 have k9:g1.h.get (q+1)=Z4 1 [[Z_ (B:Int)]]:=by rw[f1 (q+1) (by omega) (by omega),f.h9]
 have k1:g1.h.get 1=Z4 3 [[.Z6,.Z6,.Z6]]:=by rw[f1 1 (by omega) (by omega),f.h1]
 obtain⟨pa',ra',er',R,J⟩:=Gb (d:=d+1) (g:=g1) (x:=x) (v:=.agg [Z_ (C:Int),pa,ra]) (abc d) ⟨_,rfl,cM.2 ⟨pa,ra,by rw[hC],F.tree (ZV 0),H.tree (ZV 0)⟩⟩;rw[hC]at er';rw[eO,eO];simp only[sz,simprocAttr,h5,k2,er'];refine bv5 (A:=A) (B:=B) (C:=C) (q:=q) (iw:=g.nx) (w:=w) (u:=u) (W:=W) (pa:=pa) (ra:=ra) (pa':=pa') J (λr hrm=>by have:=(hr.row x z r hrm).1;omega) (by omega) N hb (by simp[sx]) U k2 k9 (by omega) q3 (by omega) vW (by omega) (by simp[St,rA,sx,h2,h4,h5,h8,h9]) hW ?_;intro g' hf hn h7;have hh:g'.h.get q=Z4 3 [[w,u,W]]:=by rw[hf.fr q (by omega) (by omega),U]
 have hg:g'.h.get 1=Z4 3 [[.Z6,.Z6,.Z6]]:=by rw[hf.fr 1 (by omega) (by omega),k1]
 simp only[sz,simprocAttr,jI,h8,hh,h4,hg];refine jE (by simp[Za,show ¬g1.nx=1 by omega,h7]) ?_;simp only[sx,sy,↓reduceIte,Nat.reduceEqDiff,h4];rw[bJ];simp only[sx,sy,↓reduceIte,Nat.reduceAdd,Nat.reduceLeDiff];have lw:=f.hw;have lu:=f.hu;have lW:=hf.ow;have M:∀i,i<g1.nx->i≠1->((g'.h.put 1 (Z4 3 [[w,u,W]])).put g1.nx (.ZP false)).get i=g'.h.get i:=λi h1 h2=>by simp[Za,h2,show ¬i=g1.nx by omega]
 have oW:Own (GH ((g'.h.put 1 (Z4 3 [[w,u,W]])).put g1.nx (.ZP false)) (g.nx+1)) 3 W 1 ((B6 x.rows B C (x.rows.length*C)).map ci):=lW.fr (by simp) λi hi=>by have:=iv vW hi;exact M i (by omega) (by omega)
 have ow:Own (GH ((g'.h.put 1 (Z4 3 [[w,u,W]])).put g1.nx (.ZP false)) (g.nx+1)) 3 w 1 ((Dh x.Z9 p (i:Int)).map ci):=lw.fr (by simp) λj hj=>by have:=f.wq j hj;have:=(lw.lt hj).1;show ((g'.h.put 1 (Z4 3 [[w,u,W]])).put g1.nx (.ZP false)).get j=_;rw[M j (by omega) (by omega),hf.fr j (by omega) (by omega),f1 j (by omega) (by omega)]
 have ou:Own (GH ((g'.h.put 1 (Z4 3 [[w,u,W]])).put g1.nx (.ZP false)) (g.nx+1)) (q+2) u 1 ((G3 (IO n) (Dh x.Z9 p (i:Int))).map ci):=lu.fr (by simp) λj hj=>by have:=lu.lt hj;show ((g'.h.put 1 (Z4 3 [[w,u,W]])).put g1.nx (.ZP false)).get j=_;rw[M j (by omega) (by omega),hf.fr j (by omega) (by omega),f1 j (by omega) (by omega)]
 have O:(B6 x.rows B C (x.rows.length*C))=n0 x.rows (G5 (G3 (IO n) (x.Z9.drop p))).toNat x.Z5.toNat:=by rw[Y,hC,Ya,Ya];exact bz7 (A:=A) (by omega) N
 refine⟨λ_=>True,p,hp,_,rfl,ud.2 ⟨w,u,W,rfl,?_,?_,?_⟩⟩
 ·obtain⟨_,e1,h⟩:=ow.ints (k:=0) (by omega);injection e1 with e1;subst e1;exact h
 ·obtain⟨_,e1,h⟩:=ou.ints (k:=0) (by simp[G3];omega);injection e1 with e1;subst e1;exact h
 ·rw[O]at oW;obtain⟨_,e1,h⟩:=oW.ints (k:=0) (by rw[<-O,KU];omega);injection e1 with e1;subst e1;exact h
def e6(n:Zv)(l:List Zj):Prop:=∀(i:Nat) (x:Node),i<l.length->n.Z7[i]?=some x->∃p,p<=x.Z9.length/\l[i]?=some (B0 n i x p)
def bv0(n:Zv):VS:=λP k h v=>∃l:List Zj,((Dm n=true->l.length=n.Z7.length)/\e6 n l)/\mQ (One l) (One (if Dm n then (0:Int) else 50)) P k h v
structure FasJ (n:Zv) (W b cv sv oz:AV) (j:Nat) (t:T) (g:G):Prop where
 st:St t [(4,ZZ 1),(6,W)]
 hg:g.h.get 1=Z4 5 [[Z_ n.Z8,b,cv,sv,oz]]
 hW:∃(rows:List (List AV)) (l:List Zj),Own g 2 W 3 rows/\rows.length=n.Z7.length/\l.length=j/\ZL (Rp.rp ZX 0 .nil) l (rows.take j)/\e6 n l/\∀i,j<=i->i<n.Z7.length->rows[i]?=some [.Z6,.Z6,.Z6]
theorem bu_[Z0](hd:0<d)(hm:Zl n ZX 0 g.h v):∃r,ae C0 d 104 [v] g=.val r/\bv0 n ZX 0 .nil r:=by
 obtain⟨b,rows,rfl,e1,R,hN,r1,r2,r3,r4⟩:=bT d hm;rw[Zn];refine aI Fi (xs:=[.agg [Z_ n.Z8,b]]) (by simp only[aD,e1]) (by simp[rL]) (o7 λo=>bM (m:=2) (aE _) (aE _) (by decide) (by decide)) (by decide) hd ?_;simp only[sz,simprocAttr,rL,vA];obtain⟨z,ez,hz⟩:=JP (d:=d+1) (g:=G.empty.new (Z4 2 [[Z_ n.Z8,b]])) (abc d) (n:=n) (v:=.agg [Z_ n.Z8,b]) (R _);rcases yh hz with⟨D,cs,rfl,w⟩|⟨D,b',cv,sv,oz,o,rfl,hb,P,X,U⟩
 ·obtain⟨a1,a2,c,a4,H,rfl⟩:∃a1 a2 c a4 H,cs=[a1,a2,c,a4,H]:=by
   match cs,w with
   |[a1,a2,c,a4,H],_=>exact⟨a1,a2,c,a4,H,rfl⟩
  simp only[sz,simprocAttr,ez,show ¬((50:Int)=0) from by decide];refine⟨ZX,[],⟨λh=>(by rw[D]at h;cases h),λi x hi=>(by simp at hi)⟩,_,_,rfl,⟨_,rfl,⟨by show 0<2^63;decide,rfl⟩⟩,?_⟩;rw[D];exact ay.2 rfl
 ·have hr:=bU.1 D;have h5:=hr.l2;simp only[sz,simprocAttr,ez,hb.len];refine rf (b:=2) (n:=n.Z7.length) (by unfold aQ;omega) (by unfold aQ;omega) (by simp) λW g1 hW n1 f1 vW=>?_;have k1:g1.h.get 1=Z4 5 [[Z_ n.Z8,b',cv,sv,oz]]:=by rw[f1 1 (by simp)];simp[Za]
  have K:∀(g:G) (rows:List (List AV)),rows.length=n.Z7.length->Own g 2 W 3 rows->gz .slice W g=.val (Z_ (n.Z7.length:Int)):=λg rows h1 h=>by
   rcases h with⟨rfl,e⟩|⟨id,ep,lo,-,-,rfl,-⟩
   ·cases vW
   ·rw[h1];rfl
  have Q:=K g1 _ (by simp) hW;have h3:nq W=true:=by
   rcases hW with⟨rfl,e⟩|⟨id,ep,lo,-,-,rfl,-⟩
   ·cases vW
   ·rfl
  simp only[sz,simprocAttr,Q];simp only[tc];refine b_ (m:=n.Z7.length) (by omega) (λj t df g=>df=[]/\FasJ n W b' cv sv oz j t g) ⟨rfl,by simp[St,sx],k1,_,[],hW,by simp,rfl,trivial,λi x hi=>(by simp at hi),λi _ hi=>by simp[hi]⟩ (by simp[sx]) (by simp[sx]) (by decide)
   (by rintro j t df g v s (rfl|rfl|rfl) ⟨a1,⟨b1,b2,-⟩,c1,c2⟩<;>exact⟨a1,by simp[St,sx,b1,b2],c1,c2⟩) ?_ ?_
  ·rintro j t df g Z ⟨rfl,⟨h4,I,-⟩,hg,rows',l,hW,E,u,q,A,k⟩ B J;obtain⟨x,hx,-,-⟩:=ah Z;have T:Zl ((n,IO n,ET n,o):NwM) ZX 0 g.h (.agg [Z_ n.Z8,b',cv,sv,oz]):=⟨_,rfl,C6.2 ⟨b',cv,sv,oz,rfl,hb.tree (ZV 0),P.tree (ZV 0),X.tree (ZV 0),U.tree (ZV 0)⟩⟩;obtain⟨f,ef,p,hp,cs,rfl,w⟩:=bv1 (d:=d+1) (g:=g) (i:=j) (abc d) hr T hx;obtain⟨a1,a2,c,rfl,M,N,O⟩:=ud.1 w;have V:=k j (ZV _) Z;have L:=hW.rows;have C:j<rows'.length:=by omega
   simp only[sz,simprocAttr,B,I,h4,hg,ef,L,C];refine bZ (v:=W) (sz:=3) (n:=3) (i:=j) (off:=0) (x:=.agg [a1,a2,c]) (row':=[a1,a2,c]) hW V (by rfl) rfl ?_ λg4 hW4 n4 f4=>?_
   ·rfl
   have Y:(rows'.set j [a1,a2,c]).take (j+1)=rows'.take j++[[a1,a2,c]]:=by
    rw[NA,afk (ZV _),J5 C]
    rfl
   simp only[sx,sy,↓reduceIte,Nat.reduceEqDiff];refine⟨⟨by simp[St,sx,h4,I],?_,_,l++[B0 n j x p],hW4,by simpa using E,by simp[u],?_,?_,λi h1 h2=>by rw[TS (by omega),k i (by omega) h2]⟩,B,J⟩
   ·rw[f4 1 λe=>by have:=(hW.lt e).1;omega,hg]
   ·rw[Y];exact q.append ⟨ud.2 ⟨a1,a2,c,rfl,M,N,O⟩,trivial⟩
   ·intro i y hi F
    by_cases hij:i<l.length
    ·rw[QJ hij];exact A i y hij F
    ·have hi:i=j:=by simp at hi;omega
     subst hi;rw[hx]at F;injection F with F;subst F;exact⟨p,hp,by rw[Sl (by omega),u];simp⟩
  ·rintro t df g ⟨rfl,⟨h4,I,-⟩,hg,rows',l,hW,E,u,q,A,k⟩;rw[U8 (by omega)]at q;simp only[sz,simprocAttr,td,I];refine⟨λ_=>True,l,⟨λ_=>u,A⟩,_,_,rfl,⟨W,rfl,Own.sl (α:=Zj) hW (by omega) (q.mono λa b r=>Rp.tree r (ZV 0)) λ_ _=>trivial⟩,?_⟩;rw[D];exact ay.2 rfl
abbrev Qi:Type:=Zv×List Zj×List (List Int)
theorem Bz{P:Nat->Prop}{x:Qi}{cs:List AV}:Rp.rp P k h x cs↔∃a b c,cs=[Z_ x.1.Z8,a,b,c]/\ZT P k h x.1.Z7 a/\ZT P k h x.2.1 b/\ZT P k h x.2.2 c:=by
 constructor
 ·rintro⟨c1,d,rfl,h1,e,f,rfl,⟨b,rfl,hb⟩,⟨c,rfl,hc⟩⟩;obtain⟨a,rfl,ha⟩:=fY.1 h1;exact⟨a,b,c,rfl,ha,hb,hc⟩
 ·rintro⟨a,b,c,rfl,ha,hb,hc⟩;exact⟨[_,a],[b,c],rfl,fY.2 ⟨a,rfl,ha⟩,[b],[c],rfl,⟨b,rfl,hb⟩,⟨c,rfl,hc⟩⟩
theorem bu9(h:NR n)(hx:n.Z7[k]?=some x):(k:Int) ∉ x.Z9:=λhm=>by
 have hk:=(tI.1 hx).1;have hl:=h.l2;have h1:=AD.1 h.YA k (by simp[ET];exact hk);have h2:XQ (ET n) k=Dn x.Z9:=by simp[XQ,ET,hx]
 have a:(Dn x.Z9).testBit k=true:=(Ed λy hy=>by have:=fG (h.places x (YH hx)) y hy;omega).2 hm;have h4:=Ev (p:=ET n) (s:=XQ (ET n) k) (ET n).length k (by rw[h2];exact a);rw[h1]at h4;cases h4
theorem bu8{k:Int}(h:AW l k=true):l.Nodup:=by rw[List.Nodup,acZ];intro i j hi b a e;have:=bA3 h (Zq hi) (Zq b) a;omega
theorem bu7(h:NR n)(hx:n.Z7[k]?=some x)(p:Nat):(Dh x.Z9 p (k:Int)).Nodup:=by unfold Dh;rw[List.perm_middle.nodup_iff,IV,ae6];exact⟨bu9 h hx,bu8 (h.places x (YH hx))⟩
theorem FE(h:NR n)(hx:n.Z7[k]?=some x)(p:Nat):∀y∈Dh x.Z9 p (k:Int),0<=y/\y<n.Z7.length:=λy hy=>by
 have hk:=(tI.1 hx).1;have hp:=fG (h.places x (YH hx));simp only[Dh,Tn,Y0]at hy;rcases hy with hy|rfl|hy
 ·exact hp y (Xp hy)
 ·omega
 ·exact hp y (R2 hy)
theorem Ap(cs ps:List Int):(G3 cs ps).length=ps.length:=by simp[G3]
theorem bu6(h:NR n)(hx:n.Z7[k]?=some x)(p:Nat):∀c∈(B0 n k x p).Z1,1<=c/\c<=4 :=ct h.cs λy hy=>by rw[aX];exact FE h hx p y hy
def j7(m:Nat)(f:Zj)(i:Nat)(R:List Int):Prop:=R.length=m/\∀(j:Nat) (y:Int),i<=j->f.ZI[j]?=some y->R[y.toNat]?=some (G5 (f.Z1.drop (j+1)))
theorem bu5{m:Nat}{f:Zj}{R:List Int}{y:Int}(h:j7 m f (i+1) R)(hnd:f.ZI.Nodup)(hin:∀y∈f.ZI,0<=y/\y<m)(hy:f.ZI[i]?=some y):j7 m f i (R.set y.toNat (G5 (f.Z1.drop (i+1)))):=by
 refine⟨by simp[h.1],λj z hij hz=>?_⟩;have a:=hin y (YH hy);have b:=hin z (YH hz)
 by_cases e:j=i
 ·subst e;rw[hy]at hz;injection hz with hz;subst hz;rw[J5 (by rw[h.1];omega)]
 ·rw[TS]
  ·exact h.2 j z (by omega) hz
  ·intro c;have k:y=z:=by omega
   subst k;exact e ((afw (tI.1 hz).1 hnd).1 (by rw[hz,hy]))
structure SE (n:Zv) (y:Qi):Prop where
 net:y.1=n
 fl:y.2.1.length=n.Z7.length
 fs:e6 n y.2.1
 sl:y.2.2.length=n.Z7.length
 st:∀(k:Nat) (f:Zj) (R:List Int),y.2.1[k]?=some f->y.2.2[k]?=some R->j7 n.Z7.length f 0 R
def wM(n:Zv)(ls:List (List Int)):Int:=if Dm n then (if ls.all (EQ n) then 0 else 2) else 50
def UL(n:Zv)(ls:List (List Int)):VS:=λP k h v=>∃y:Qi,(wM n ls=0->SE n y)/\mQ (Zl y) (One (wM n ls)) P k h v
def Ke(fl:AV)(m q k:Nat):List (Nat×AV):=[(11,ZZ q),(2,ZZ 0),(4,ZZ 1),(45,fl),(46,Z_ (m:Int)),(47,Z_ (k:Int))]
structure VE (fl:AV) (m q k:Nat) (g0:G) (iR:Nat) (R:AV) (f:Zj) (fb j:Nat) (t:T) (g:G):Prop where
 st:St t ((13,ZZ fb)::(12,Z_ (k:Int))::(14,Z_ (G5 (f.Z1.drop j)))::Ke fl m q k)
 nx:g0.nx<=g.nx
 fr:∀i,i<g0.nx->i≠iR->g.h.get i=g0.h.get i
 ow:∃X:List Int,Own g 2 R 1 (X.map ci)/\j7 m f j X
theorem bu4[Z0]{m fb iR:Nat}{va ca wa S_ R b fl fl':AV}{f:Zj}{rowsS:List (List AV)}(hva:ZT ZX 0 .nil f.ZI va)(hca:ZT ZX 0 .nil f.Z1 ca)(hcl:f.Z1.length=f.ZI.length)(hvl:f.ZI.length<=16)(hcb:∀c∈f.Z1,1<=c/\c<=4)(hnd:f.ZI.Nodup)(hin:∀y∈f.ZI,0<=y/\y<m)
  (e11:g0.h.get q=Z4 4 [[Z_ gr,b,fl',S_]]) (e13:g0.h.get fb=Z4 3 [[va,ca,wa]]) (hS:Own g0 2 S_ 1 rowsS) (hk:rowsS[k]?=some [R]) (vR:Zi R=some iR) (vS:Zi S_≠some iR) (n1:q≠iR/\fb≠iR) (n2:q<g0.nx/\fb<g0.nx/\iR<g0.nx)
  (h0:VE fl m q k g0 iR R f fb f.ZI.length t g) (h15:ZY t 15=Z_ ((f.ZI.length:Int) - 1))
  (fin:∀t g,VE fl m q k g0 iR R f fb 0 t g->Q (.exit 4) t [] g):Uk (wp C0 d none pH) Q t [] g:=by
 have rva:=λh=>(hva.tree (h':=h) (ZV 0)).ints;have rca:=λh=>(hca.tree (h':=h) (ZV 0)).ints;simp only[pH];refine uf (m:=f.ZI.length) (by omega) (λj t df g=>df=[]/\VE fl m q k g0 iR R f fb j t g) ⟨rfl,h0⟩ h15 (by decide)
  (by rintro j t df g v s (rfl|rfl|rfl|rfl|rfl) ⟨a1,⟨b1,b2,Y,Z,b5,b6,b7,b8,b9,-⟩,c1,c2,c3⟩<;>exact⟨a1,by simp[St,Ke,sx,b1,b2,Y,Z,b5,b6,b7,b8,b9],c1,c2,c3⟩) ?_ ?_
 ·rintro j t df g V ⟨rfl,⟨u,A,B,z,h2,h4,K,L,M,-⟩,O,o,X,hX,F⟩ h15;obtain⟨y,W,-,H⟩:=ah V;obtain⟨P,H⟩:=hin y H;obtain⟨yn,rfl⟩:=Wu P;have D:f.Z1[j]?=some f.Z1[j]:=Zq (by omega);have C:=hcb _ (E_ (show j<f.Z1.length by omega));have E:f.Z1.drop j=f.Z1[j]::f.Z1.drop (j+1):=Tg (by omega);generalize f.Z1[j]=c at D C E;have u1:j<(f.ZI.map ci).length:=by simpa using V
  have u2:(f.ZI.map ci)[j]?=some (ci (yn:Int)):=by rw[Zy,W];rfl
  have u3:j<(f.Z1.map ci).length:=by simp;omega
  have u4:(f.Z1.map ci)[j]?=some (ci c):=by rw[Zy,D];rfl
  have h5:=F.1;have r:yn<X.length:=by omega
  have u5:yn<(X.map ci).length:=by simpa using r
  have u6:(X.map ci)[yn]?=some (ci X[yn]):=by rw[Zy,Zq r];rfl
  have U:g.h.get q=Z4 4 [[Z_ gr,b,fl',S_]]:=by rw[o q n2.1 n1.1,e11]
  have I:g.h.get fb=Z4 3 [[va,ca,wa]]:=by rw[o fb n2.2.1 n1.2,e13]
  have N:Own g 2 S_ 1 rowsS:=hS.fr O λi hi=>o i (hS.lt hi).2 λe=>vS (by rw[hi,e]);have rS:=N.rows;have rX:=hX.rows;have kl:k<rowsS.length:=(tI.1 hk).1;have w0:G5 (f.Z1.drop j)=G5 (f.Z1.drop (j+1))*c:=by rw[E,dN,PM]
  have h7:=cD (l:=f.Z1.drop j) λc hc=>hcb c (R2 hc);have h6:=fH (a:=(f.Z1.drop j).length) (b:=16) (by simp;omega);have h3:(4:Int) ^ 16=4294967296:=by decide
  have w1:IntKind.wrap .i64 (G5 (f.Z1.drop (j+1))*c)=G5 (f.Z1.drop j):=by rw[<-w0,aq]
  have p:=bu5 F hnd hin W;rw[Ya]at p;simp only[sz,simprocAttr,sf,z,A,u,B,h15,U,I,rva,u1,u2,rS,kl,hk,rX,u5,ci];refine bZ (v:=R) (sz:=1) (n:=1) (i:=yn) (off:=0) (x:=Z_ (G5 (f.Z1.drop (j+1)))) (row':=ci (G5 (f.Z1.drop (j+1)))) (hX.fr (by simp;omega) λi _=>by simp) u6 rfl rfl rfl λg4 hu4 n4 f4=>?_;rw[<-MO]at hu4;have w:∀i,i≠iR->g4.h.get i=g.h.get i:=λi hi=>by rw[f4 i (by rw[vR];intro e;injection e with e;exact hi e.symm)];simp
  have h8:g.nx<=g4.nx:=by rw[n4];simp;omega
  simp only[sz,simprocAttr];refine⟨?_,?_⟩
  ·simp only[I9,Nq,DI,ML];exact aK (JO (Zb (true::[]))) [] (by simp[ZL,am,aA]) (by decide) (by simp)
  have J:g4.h.get fb=Z4 3 [[va,ca,wa]]:=by rw[w fb n1.2,I]
  simp only[sz,simprocAttr,u,B,h15,J,rca,u3,u4,ci,w1];refine⟨by simp[St,Ke,sx,u,A,z,h2,h4,K,L,M],?_,λi h1 h2=>?_,_,hu4.fr (by simp) λi _=>by simp,p⟩
  ·simp;omega
  ·simp only[Zx];rw[w i h2,o i h1 h2]
 ·rintro t df g ⟨rfl,h⟩;exact fin t g h
structure FOk (m:Nat) (f:Zj):Prop where
 cl:f.Z1.length=f.ZI.length
 vl:f.ZI.length<=16
 cb:∀c∈f.Z1,1<=c/\c<=4
 nd:f.ZI.Nodup
 vr:∀y∈f.ZI,0<=y/\y<m
theorem Sa(h:NR n)(hx:n.Z7[k]?=some x){p:Nat}(hp:p<=x.Z9.length):FOk n.Z7.length (B0 n k x p):=by have h1:=my (h.places x (YH hx)) (by omega);have h2:=h.l2;have a:=yC x.Z9 p (k:Int) hp;exact⟨Ap _ _,by show (Dh x.Z9 p (k:Int)).length<=16;omega,bu6 h hx p,bu7 h hx p,FE h hx p⟩
structure AskH (gr:Int) (b fl S_:AV) (m q:Nat) (fs:List Zj) (k:Nat) (g:G):Prop where
 h0:g.h.get 0=Z4 2 [[Z_ gr,b]]
 h1:g.h.get 1=Z4 4 [[Z_ 0,.Z6,.Z6,.Z6]]
 hq:g.h.get q=Z4 4 [[Z_ gr,b,fl,S_]]
 q2:2<=q/\q<g.nx
 sq:∀i,Zi S_=some i->i<q
 hS:∃(Vs:List AV) (l:List (List Int)),Own g 2 S_ 1 (Vs.map λv=>[v])/\Vs.length=m/\l.length=k/\ZL (λX v=>Own g (q+1) v 1 (X.map ci)) l (Vs.take k)/\∀(i:Nat) (f:Zj) (X:List Int),fs[i]?=some f->l[i]?=some X->j7 m f 0 X
structure Q2 (gr:Int) (b fl S_:AV) (m q:Nat) (fs:List Zj) (k:Nat) (t:T) (g:G):Prop where
 st:St t [(11,ZZ q),(2,ZZ 0),(4,ZZ 1),(45,fl)]
 hp:AskH gr b fl S_ m q fs k g
theorem bu3[Z0]{m:Nat}{b fl S_:AV}{fs:List Zj}(hb:∀g,gz .slice b g=.val (Z_ (m:Int)))(hm:m<=8)(hfl:ZT ZX 0 .nil fs fl)(hfm:fs.length=m)(hok:∀(i:Nat) (f:Zj),fs[i]?=some f->FOk m f)
  (h0:Q2 gr b fl S_ m q fs 0 t g) (h47:ZY t 47=Z_ 0) (h46:ZY t 46=Z_ (m:Int))
  (fin:∀t g,Q2 gr b fl S_ m q fs m t g->Q (.exit 2) t [] g):Uk (wp C0 d none pI) Q t [] g:=by
 obtain⟨rows,r1,r2,r3,r4⟩:=hfl.all;have r1:∀h',ak h' 3 fl=some rows:=r1;simp only[pI,xf];refine b_ (m:=m) (by omega) (λk t df g=>df=[]/\Q2 gr b fl S_ m q fs k t g) ⟨rfl,h0⟩ h47 h46 (by decide)
  (by rintro j t df g v s (rfl|rfl|rfl) ⟨a1,⟨b1,b2,b3,b4,-⟩,c1⟩<;>exact⟨a1,by simp[St,sx,b1,b2,b3,b4],c1⟩) ?_ ?_
 ·rintro k t df g hk ⟨rfl,⟨a,h2,h4,c,-⟩,hp⟩ h47 h46;obtain⟨f,hf,-,-⟩:=ah (l:=fs) (j:=k) (by omega);obtain⟨row,q1,q2⟩:=r3 k f hf;obtain⟨va,ca,wa,rfl,L,Z,hh⟩:=ud.1 q2;have E:=hok k f hf;have hlt:k<rows.length:=by omega
  have he:=r4 (by omega);obtain⟨Vs,l,hS,V,J,Y,h6⟩:=hp.hS;obtain⟨h8,h9⟩:=hp.q2;have ne0:∀i,i<g.nx->¬i=g.nx:=λi hi=>by omega
  refine eK (P:=λt' df g'=>df=[]/\g'=(g.new (Z4 3 [[.Z6,.Z6,.Z6]])).put g.nx (Z4 3 [[va,ca,wa]])/\St t' ((13,ZZ g.nx)::(12,Z_ (k:Int))::Ke fl m q k)) ?_ ?_
  ·simp only[sz,simprocAttr,c,h47,r1,hlt,q1];simp[St,Ke,sx,a,h2,h4,c,h47,h46]
  clear a h2 h4 c h47 h46;rintro t df g1 ⟨rfl,D,⟨u,o,a,h2,h4,c,h46,h47,-⟩⟩;have f1:∀i,i<g.nx->g1.h.get i=g.h.get i:=λi hi=>by rw[D];simp[Za,ne0 i hi]
  have n1:g1.nx=g.nx+1:=by rw[D];simp
  have k1:g1.h.get g.nx=Z4 3 [[va,ca,wa]]:=by rw[D];simp[Za]
  clear D;have e0:g1.h.get 0=Z4 2 [[Z_ gr,b]]:=by rw[f1 0 (by omega),hp.h0]
  have eq:g1.h.get q=Z4 4 [[Z_ gr,b,fl,S_]]:=by rw[f1 q (by omega),hp.hq]
  have C:Own g1 2 S_ 1 (Vs.map λv=>[v]):=hS.fr (by omega) λi hi=>f1 i (hS.lt hi).2;have rS:=C.rows;have h5:k<(Vs.map λv=>[v]).length:=by simp;omega
  have h3:(Vs.map λv=>[v])[k]?=some [Vs[k]'(by omega)]:=by rw[Zy,gEE];rfl
  refine gv (P:=λt' df g'=>df=[]/\St t' ((13,ZZ g.nx)::(12,Z_ (k:Int))::Ke fl m q k)/\g1.nx<g'.nx/\∃R iR,Zi R=some iR/\g1.nx<=iR/\iR<g'.nx/\Own g' 2 S_ 1 ((Vs.set k R).map λv=>[v])/\Own g' (q+1) R 1 ((List.replicate m (0:Int)).map ci)/\∀i,i<g1.nx->Zi S_≠some i->g'.h.get i=g1.h.get i) ?_ ?_
  ·simp only[sz,simprocAttr,sf,a,h2,o,e0,eq,hb];refine qp (b:=q+1) (n:=m) (by unfold aQ;omega) (by unfold aQ;omega) (by simp;omega) λR g2 hR n2 f2 vR lg2=>?_;simp only[sy]at n2 f2 vR lg2;have z:Own g2 2 S_ 1 (Vs.map λv=>[v]):=C.fr (by omega) λi hi=>by have:=C.lt hi;rw[f2 i (by omega)]
   have rS2:=z.rows;simp only[sz,simprocAttr,sf,rS2,h5];refine bZ (v:=S_) (sz:=1) (n:=1) (i:=k) (off:=0) (x:=R) (row':=[R]) (z.fr (by simp;omega) λi _=>by simp) h3 (by rw[hR.cell.1];rfl) hR.cell.2 (by rw[hR.cell.1];rfl) λg4 hu4 n4 f4=>?_;rw[show (Vs.map λv=>[v]).set k [R]=(Vs.set k R).map λv=>[v] from by rw[MO]]at hu4;have H:∀i,Zi S_≠some i->g4.h.get i=g2.h.get i:=λi hi=>by rw[f4 i hi];simp
   have hl:g2.nx<=g4.nx:=by rw[n4];simp;omega
   simp only[sy,lg2];refine⟨?_,?_,?_,R,g1.nx+6,vR,by omega,?_,?_,?_,λi h1 h2=>?_⟩
   ·simp only[I9,Nq,DI,ML];refine aK (Vk (JO (true::(false::(true::[]))))) [(0,6),(1,6),(2,6)] (by simp[ZL,am,aA]) (by decide) ?_;rintro p K x y hx M;simp only[Y0,QA,TP]at K;rcases K with rfl|rfl|rfl<;>(simp at hx M;subst hx;subst M;refine dP rfl rfl rfl rfl ?_ ?_ ?_<;>simp[am,aA,an]<;>omega)
   ·simp[St,Ke,sx,u,o,a,h2,h4,c,h46,h47]
   ·omega
   ·omega
   ·exact hu4.fr (by simp) λi _=>by simp
   ·have O:Own g2 (q+1) R 1 ((List.replicate m (0:Int)).map ci):=by simpa [ci] using hR
    refine O.fr (by simp;omega) λi hi=>?_;have:=iv vR hi;simp only[Zx];exact H i λe=>by have:=C.lt e;omega
   ·rw[H i h2,f2 i (by omega)]
  clear u o a h2 h4 c h46 h47;rintro t df g2 ⟨rfl,⟨u,o,a,h2,h4,c,h46,h47,-⟩,n2,R,iR,vR,hd,ha,z,hR,f2⟩;have F:g2.h.get g.nx=Z4 3 [[va,ca,wa]]:=by rw[f2 g.nx (by omega) (λe=>by have:=hp.sq _ e;omega),k1]
  have N:g2.h.get q=Z4 4 [[Z_ gr,b,fl,S_]]:=by rw[f2 q (by omega) (λe=>by have:=hp.sq _ e;omega),eq]
  have lva:=L.len;have hg:=E.vl;have U:Own g2 2 R 1 ((List.replicate m (0:Int)).map ci):=Own.low hR (by omega);have w1:IntKind.wrap .i64 ((f.ZI.length:Int) - 1)=(f.ZI.length:Int) - 1:=aq;have I:((Vs.set k R).map λv=>[v])[k]?=some [R]:=by rw[Zy,J5 (by omega)];rfl
  simp only[sz,simprocAttr,u,F,lva,w1];refine bu4 (g0:=g2) (fl:=fl) (fl':=fl) (m:=m) (q:=q) (k:=k) (fb:=g.nx) (iR:=iR) (R:=R) (S_:=S_) (b:=b) (gr:=gr) (va:=va) (ca:=ca) (wa:=wa) (f:=f) (rowsS:=(Vs.set k R).map λv=>[v]) L Z E.cl E.vl E.cb E.nd E.vr N F z I vR (λe=>by have:=hp.sq _ e;omega) ⟨by omega,by omega⟩ ⟨by omega,by omega,by omega⟩
   ⟨by simp[St,Ke,sx,u,o,a,h2,h4,c,h46,h47,G5,adi (show f.Z1.length<=f.ZI.length by rw[E.cl];exact ZV _)],ZV _,λ_ _ _=>rfl,List.replicate m 0,U,by simp,λj y hj M=>?_⟩ (by simp[sx]) ?_
  ·have:=(tI.1 M).1;omega
  clear u o a h2 h4 c h46 h47;rintro t g3 ⟨⟨u,o,hc,a,h2,h4,c,h46,h47,-⟩,n3,f3,X,hX,W⟩;simp only[sx,sy,↓reduceIte];have w:∀i,i<g.nx->Zi S_≠some i->g3.h.get i=g.h.get i:=λi h1 h2=>by rw[f3 i (by omega) (by omega),f2 i (by omega) h2,f1 i h1]
  refine⟨⟨by simp[St,a,h2,h4,c],?_⟩,h47,h46⟩;have ZG:∀i,i<2\/i=q->Zi S_≠some i:=λi hi e=>by have:=hp.sq i e;have:=(hS.lt e).1;omega
  refine⟨by rw[w 0 (by omega) (ZG 0 (by omega)),hp.h0],by rw[w 1 (by omega) (ZG 1 (by omega)),hp.h1],by rw[w q h9 (ZG q (by omega)),hp.hq],⟨h8,by omega⟩,hp.sq,Vs.set k R,l++[X],z.fr n3 λi hi=>f3 i (z.lt hi).2 λe=>by have:=hp.sq i hi;omega,by simpa using V,by simp[J],?_,?_⟩
  ·have h7:(Vs.set k R).take (k+1)=Vs.take k++[R]:=by
    rw[NA,afk (ZV _),J5 (by omega)]
    rfl
   rw[h7];refine (Y.mono λX' v r=>?_).append ⟨?_,trivial⟩
   ·exact r.fr (by omega) λi hi=>by have:=r.lt hi;exact w i this.2 λe=>by have:=hp.sq i e;omega
   ·rcases hX with h|⟨id,ep,lo,p1,p2,rfl,p4⟩
    ·exact .inl h
    ·injection vR with vR;exact .inr ⟨id,ep,lo,by omega,p2,rfl,p4⟩
  ·intro i f' X' B A
   by_cases hi:i<l.length
   ·rw[QJ hi]at A;exact h6 i f' X' B A
   ·have h1:=(tI.1 A).1;have:i=k:=by simp at h1;omega
    subst this;rw[hf]at B;injection B with B;subst B;rw[Sl (by omega),J,Yp]at A;simp at A;subst A;exact W
 ·rintro t df g ⟨rfl,h⟩;exact fin t g h
end
end Hx
