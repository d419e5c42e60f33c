/- A part of the proof. -/
import Derived.OpenShut
import Derived.DataReads
import Derived.Test.YtikpmbiklokdiaaGreatHx14
set_option linter.all false
set_option maxRecDepth 20000
set_option maxHeartbeats 8000000
namespace Hx
open Go
noncomputable section
variable {g:G}{ks d k:Nat}
section
set_option linter.unusedSimpArgs false
def yV(s j:Nat):Nat:=((List.range j).filter λi=>s.testBit i).length
theorem HZ(s j:Nat):yV s (j+1)=yV s j+if s.testBit j=true then 1 else 0:=by
 rw[yV,yV,Ri,ad3,J6,aeh,aes]
 split<;>rfl
theorem be0(s j:Nat):yV s j<=j:=Y1 (TQ _ _) (by simp)
theorem bd_[Z0]{s:Nat}(hd:0<d)(hs:s<2^64):ae C0 d 88 [ZW (s:Int)] g=.val (Z_ (EO s:Int)):=by
 rw[Zn];refine cz Hn (xs:=[ZW (s:Int)]) (by simp only[aD,aU]) (by simp[uM]) hd ?_;simp only[sz,simprocAttr,uM,wg,wh];refine bh 8 (by omega) (λj t df g=>df=[]/\St t [(0,ZW (s:Int)),(3,Z_ (yV s j:Int))]) ⟨rfl,by simp[St,sx,yV]⟩ (by simp[sx]) (by decide)
  (by rintro j t df g v s (rfl|rfl|rfl)<;>simp[St,sx]) ?_ ?_ ?_
 ·rintro j t df g k ⟨rfl,h0,h,-⟩ h4;simp only[sz,simprocAttr,h0,h,h4,St]
 ·rintro j t df g k ⟨rfl,h0,h,-⟩ h4;have ki:=λg:G=>Ov (d:=d+1) (g:=g) (s:=s) (v:=j) (by omega) hs (by omega);have hc:=be0 s j;have hb:bN .add (Z_ (yV s j:Int)) (Z_ 1)=.val (Z_ ((yV s j+1:Nat):Int)):=by rw[AJ,aq];rfl
  by_cases c:s.testBit j=true
  ·have c':AU s j=true:=by rw[mM,c]
   have hk:yV s (j+1)=yV s j+1:=by rw[HZ,ZN c]
   simp only[sz,simprocAttr,h0,h,h4,ki,c',hb];simp[St,sx,h0,h4,hk]
  ·have c':AU s j=false:=by rw[mM];simpa using c
   have hk:yV s (j+1)=yV s j:=by rw[HZ,ZF c];rfl
   simp only[sz,simprocAttr,h0,h,h4,ki,c'];simp[St,sx,h0,h,h4,hk]
 ·rintro t df g ⟨rfl,h0,h,-⟩;simp only[sz,simprocAttr,wi,h]
  rfl
def l0(ks k j:Nat):List Nat:=(List.range j).filter λs=>decide (EN s ks=0)&&decide (EO s=k)
theorem BU(ks k j:Nat):l0 ks k (j+1)=l0 ks k j++if (decide (EN j ks=0)&&decide (EO j=k))=true then [j] else []:=by rw[l0,l0,Ri,ad3,aeh,aes]
def um(ks k:Nat):List Nat:=(List.range k).flatMap (m0 ks)
theorem Mf(ks k:Nat):um ks (k+1)=um ks k++m0 ks k:=by rw[um,um,Ri,afj];simp
theorem Kk(ks k j:Nat):(l0 ks k j).length<=j:=Y1 (TQ _ _) (by simp)
theorem bd9(ks k:Nat):(um ks k).length<=k*(ks+1):=by
 induction k with
 |zero=>simp[um]
 | succ k ih =>rw[Mf,J6];have:(m0 ks k).length<=ks+1:=Kk ks k (ks+1);rw[Nat.succ_mul];omega
theorem bd8(a b:Nat):bN .leq (ZW (a:Int)) (ZW (b:Int))=.val (.bool (decide (a<b+1))):=by rw[IX];congr 2;rw[Yj,decide_eq_true_iff,decide_eq_true_iff];omega
theorem Rq{j:Nat}(h:j<2^63):bN .add (ZW (j:Int)) (ZW 1)=.val (ZW ((j+1:Nat):Int)):=by rw[AJ,du (by omega) (by omega)];rfl
theorem bd7[Z0]{u0:AV}{Q:QT}{t:T}(hks:ks<256)(hk:k<9)(h0:St t [(0,ZW (ks:Int)),(4,Z_ (k:Int)),(5,ZW 0),(3,u0)])(ho:Own g 0 u0 1 ((um ks k).map cu))
  (fin:∀t g u,St t [(0,ZW (ks:Int)),(4,Z_ (k:Int)),(3,u)]->Own g 0 u 1 ((um ks (k+1)).map cu)->Q (.exit 2) t [] g):Uk (wp C0 (d+1) none nU) Q t [] g:=by
 unfold nU;refine J8 (m:=ks+1) (λj t df g=>df=[]/\St t [(0,ZW (ks:Int)),(4,Z_ (k:Int)),(5,ZW (j:Int))]/\∃u,ZY t 3=u/\Own g 0 u 1 ((um ks k++l0 ks k j).map cu)) ⟨rfl,?_,u0,?_,?_⟩ ?_ ?_ ?_
 ·obtain⟨a1,a2,c,a4,-⟩:=h0;simp[St,a1,a2,c]
 ·exact h0.2.2.2.1
 ·simpa [l0] using ho
 ·rintro j t df g e ⟨rfl,⟨h0,h4,h5,-⟩,u,a,hu⟩;simp only[sz,simprocAttr,h0,h4,h5,bd8];refine⟨by simp[sx];omega,by simp[St,sx,h0,h4,h5],u,by simp[sx,a],hu⟩
 ·rintro j t df g e ⟨rfl,⟨h0,h4,h5,-⟩,u,a,hu⟩;have kn:=D1 (m:=j) (n:=ks) (by omega) (by omega);have kz:=λg:G=>bd_ (d:=d+1) (g:=g) (s:=j) (by omega) (by omega);have f:=bd9 ks k;have l:=Kk ks k j;have hm:k*(ks+1)<=9*256:=Wn (by omega) (by omega);have o:=O5 j
  by_cases c1:EN j ks=0
  ·have e1:((EN j ks:Nat):Int)=0:=by omega
   by_cases c2:EO j=k
   ·have b:((EO j:Nat):Int)=(k:Int):=by omega
    have h:=BU ks k j;rw[Qe c1,Qe c2]at h;simp only[XE,if_true]at h;simp only[sz,simprocAttr,h0,a,h4,h5,kn,kz,e1,b];refine aP (new:=[cu j]) (hu.fr (by simp) λi hi=>by have:=(hu.lt hi).2;simp[Za];omega) (by simp[sx,sy,cu]) (by simp) (by simp[aQ];omega) λv2 g2 hv2 n2 f2 _ l2=>?_;simp only[sz,simprocAttr,jg,h5,Rq (show j<2^63 by omega)];refine⟨by simp[St,sx,h0,h4],v2,by simp[sx],?_⟩;rw[h,<-acq,K0];exact hv2
   ·have b:¬((EO j:Nat):Int)=(k:Int):=by omega
    have h:=BU ks k j;rw[Qe c1,Vf c2]at h;simp only[adS,Uc,if_false,VM]at h;simp only[sz,simprocAttr,h0,a,h4,h5,kn,kz,e1,b];simp only[sz,simprocAttr,jg,h5,Rq (show j<2^63 by omega)];refine⟨by simp[St,sx,h0,h4],u,by simp[sx,a],by rw[h];exact hu⟩
  ·have e1:¬((EN j ks:Nat):Int)=0:=by omega
   have h:=BU ks k j;rw[Vf c1]at h;simp only[afb,Uc,if_false,VM]at h;simp only[sz,simprocAttr,h0,a,h4,h5,kn,kz,e1];simp only[sz,simprocAttr,jg,h5,Rq (show j<2^63 by omega)];refine⟨by simp[St,sx,h0,h4],u,by simp[sx,a],by rw[h];exact hu⟩
 ·rintro t df g ⟨rfl,⟨h0,h4,h5,-⟩,u,a,hu⟩;exact fin t g u (by simp[St,h0,h4,a]) (by rw[Mf];exact hu)
theorem bd6(ks:Nat):um ks 9=Do ks:=rfl
theorem J2(h:ks<256):(Do ks).length<=256:=by rw[(GJ h).length_eq];exact Jb ks
theorem NM(h:ks<256):∀y∈Do ks,y<256:=λy hy=>J0 (Bp.1 hy) h
theorem L3[Z0](hd:0<d)(hks:ks<256):∃r,ae C0 d 49 [ZW (ks:Int)] g=.val r/\One (Do ks) ZX 0 .nil r:=by
 rw[Zn];refine aI Hm (xs:=[ZW (ks:Int)]) (by simp only[aD,aU]) (by simp[uL]) (aE _) (by decide) hd ?_;simp only[sz,simprocAttr,uL,v8,v_];refine bh 9 (by omega) (λk t df g=>df=[]/\ZY t 0=ZW (ks:Int)/\∃u,ZY t 3=u/\Own g 0 u 1 ((um ks k).map cu)) ⟨rfl,by simp[sx],.Z6,by simp[sx],.inl ⟨rfl,rfl⟩⟩ (by simp[sx]) (by decide)
  (by rintro j t df g v s (rfl|rfl|rfl)<;>simp[sx]) ?_ ?_ ?_
 ·rintro j t df g a ⟨rfl,h0,u,h,hu⟩ h4;simp only[sz,simprocAttr,h0,h,h4];refine⟨?_,⟨u,rfl,hu⟩⟩;simp;omega
 ·rintro j t df g a ⟨rfl,h0,u,h,hu⟩ h4;simp only[sz,simprocAttr,h0,h,h4];refine bd7 (k:=j) (u0:=u) hks a (by simp[St,sx,h0,h,h4]) hu λt g u2 ht hu2=>?_;obtain⟨h0,h4,h,-⟩:=ht;simp only[sz,simprocAttr];exact⟨⟨h0,u2,h,hu2⟩,h4⟩
 ·rintro t df g ⟨rfl,h0,u,h,hu⟩;simp only[sz,simprocAttr,we,h];rw[bd6]at hu;exact⟨_,u,rfl,hu.nats' (Nb (J2 hks) (by decide)) λy hy=>ae2 (NM hks y hy) (by decide)⟩
end
section
set_option linter.unusedSimpArgs false
def V_(x:Bool):List AV:=[.bool x]
theorem ZT.bools{P:Nat->Prop}{h:H}{l:List Bool}{v:AV}(r:ZT P k h l v):ak h 1 v=some (l.map V_):=by obtain⟨rows,h1,h2⟩:=r.rows;rw[show (1:Nat)=Rp.sz Bool from rfl,h1,h2.eq_map (f:=V_) λa b r=>cE.1 r]
theorem Own.boolsV{g:G}{b:Nat}{v:AV}{l:List Bool}(h:Own g b v 1 (l.map V_))(hl:l.length<2^63):ZT (λi=>Zi v=some i) 0 g.h l v :=Own.sl (α:=Bool) h hl (Y7 (λa=>cE.2 rfl) _) λ_ h=>h
def lY(L:List Nat)(R:Nat->Bool)(s j:Nat):Bool:=R s&&(L.take j).all λt=>decide (t=s) || !(decide (EN t s=0)) || !R t
theorem bd5{L:List Nat}{R:Nat->Bool}{s j y:Nat}(h:L[j]?=some y):lY L R s (j+1)=(lY L R s j&&(decide (y=s) || !(decide (EN y s=0)) || !R y)):=by rw[lY,lY,mC h,ae5,Bool.and_assoc];congr 2;simp
section
variable {d:Nat}{L:List Nat}{R:Nat->Bool}{v w u:AV}{Q:QT}{t:T}{g:G}{i s:Nat}
theorem bd4[Z0](hLl:L.length<2^63)(hL:∀x∈L,x<256)(hv:∀h,ak h 1 v=some (L.map cu))(hw:∀h,ak h 1 w=some ((L.map R).map V_))(hvl:∀g,gz .slice v g=.val (Z_ (L.length:Int)))(hs:L[i]?=some s)
  (h0:St t [(0,v),(1,w),(5,u),(6,Z_ (i:Int)),(7,.bool (R s))]) (h8:ZY t 8=Z_ 0)
  (fin:∀t,St t [(0,v),(1,w),(5,u),(6,Z_ (i:Int)),(7,.bool (yW L R s))]->Q (.exit 2) t [] g):Uk (wp C0 (d+1) none mj) Q t [] g:=by
 unfold mj tR;have z:i<L.length:=(tI.1 hs).1;have B:=hL s (YH hs);have o:i<(L.map cu).length:=by simpa using z
 have p:(L.map cu)[i]?=some (cu s):=by rw[Zy,hs];rfl
 refine bh L.length hLl (λj t df g'=>df=[]/\g'=g/\St t [(0,v),(1,w),(5,u),(6,Z_ (i:Int)),(7,.bool (lY L R s j))]) ⟨rfl,rfl,?_⟩ h8 (by decide) ?_ ?_ ?_ ?_
 ·obtain⟨a1,a2,q,a4,r,-⟩:=h0;simp[St,a1,a2,q,a4,r,lY]
 ·rintro j t df g v s (rfl|rfl|rfl) ⟨a0,A,a1,a2,q,a4,r,-⟩<;>exact⟨a0,A,by simp[St,sx,a1,a2,q,a4,r]⟩
 ·clear h0 h8;rintro j t df g' c ⟨rfl,rfl,h0,h1,h5,k,h7,-⟩ h8;simp only[sz,simprocAttr,h0,h1,h5,k,h7,h8,hvl];simp[St,sx,h0,h1,h5,k,h7]
 ·clear h0 h8;rintro j t df g' c ⟨rfl,rfl,h0,h1,h5,k,h7,-⟩ h8;obtain⟨y,e,-,-⟩:=ah c;have C:=hL y (YH e);have f:j<(L.map cu).length:=by simpa using c
  have l:(L.map cu)[j]?=some (cu y):=by rw[Zy,e];rfl
  have u3:j<((L.map R).map V_).length:=by simpa using c
  have a:((L.map R).map V_)[j]?=some (V_ (R y)):=by rw[Zy,Zy,e];rfl
  have kn:=D1 (m:=y) (n:=s) (by omega) (by omega);have hk:=bd5 (R:=R) (s:=s) e
  by_cases c1:y=s
  ·subst c1;rw[Qe rfl,U4,U4,Qh]at hk;simp only[sz,simprocAttr,h0,h1,h5,k,h7,h8,hv,hw,f,l,o,p,u3,a,cu,V_];simp[St,sx,h0,h1,h5,k,h7,h8,hk]
  ·have e1:¬(y:Int)=(s:Int):=by omega
   rw[Vf c1,aek]at hk
   by_cases c2:EN y s=0
   ·have b:((EN y s:Nat):Int)=0:=by omega
    rw[Qe c2,Q_,aek]at hk;cases hR:R y with
    | true =>rw[hR,Q_,adS]at hk;rw[hR]at a;simp only[sz,simprocAttr,h0,h1,h5,k,h7,h8,hv,hw,f,l,o,p,u3,a,cu,V_,e1,kn,b];simp[St,sx,h0,h1,h5,k,h7,h8,hk]
    | false =>rw[hR,SM,Qh]at hk;rw[hR]at a;simp only[sz,simprocAttr,h0,h1,h5,k,h7,h8,hv,hw,f,l,o,p,u3,a,cu,V_,e1,kn,b];simp[St,sx,h0,h1,h5,k,h7,h8,hk]
   ·have b:¬((EN y s:Nat):Int)=0:=by omega
    rw[Vf c2,SM,U4,Qh]at hk;simp only[sz,simprocAttr,h0,h1,h5,k,h7,h8,hv,hw,f,l,o,p,u3,a,cu,V_,e1,kn,b];simp[St,sx,h0,h1,h5,k,h7,h8,hk]
 ·rintro t df g' ⟨rfl,rfl,ht⟩;refine fin t ?_;rw[lY,Xo]at ht;exact ht
end
theorem It[Z0]{d k2:Nat}{P P2:Nat->Prop}{g:G}{L:List Nat}{R:Nat->Bool}{v w:AV}(hd:0<d)(hv:ZT P k g.h L v)(hw:ZT P2 k2 g.h (L.map R) w)(hL:∀x∈L,x<256)(hl:L.length<=1000) :
  ∃r,ae C0 d 50 [v,w] g=.val r/\One (L.filter (yW L R)) ZX 0 .nil r:=by
 obtain⟨v',e1,c⟩:=aZ hv d;obtain⟨w',m,e⟩:=aZ hw d;have rv:=λh=>(c h).nats;have rw':=λh=>(e h).bools;have nv:=λg=>(c .nil).len g;have nw:=λg=>(e .nil).len g;rw[Zn];refine aI Fw (xs:=[v',w']) (by simp only[aD,e1,m]) (by simp[sn]) (aE _) (by decide) hd ?_;simp only[sz,simprocAttr,sn,tQ,tT];refine bh L.length (by omega) (λj t df g=>df=[]/\St t [(0,v'),(1,w')]/\∃u,ZY t 5=u/\Own g 0 u 1 (((L.take j).filter (yW L R)).map cu)) ⟨rfl,by simp[St,sx],.Z6,by simp[sx],.inl ⟨rfl,rfl⟩⟩ (by simp[sx]) (by decide)
  (by rintro j t df g v s (rfl|rfl|rfl) ⟨a0,⟨a1,a2,-⟩,u,l,a4⟩<;>exact⟨a0,by simp[St,sx,a1,a2],u,by simp[sx,l],a4⟩) ?_ ?_ ?_
 ·rintro j t df g f ⟨rfl,⟨h0,h1,-⟩,u,h5,hu⟩ a;simp only[sz,simprocAttr,h0,h1,h5,a,nv];exact⟨by simp[St,sx,h0,h1],u,rfl,hu⟩
 ·rintro j t df g f ⟨rfl,⟨h0,h1,-⟩,u,h5,hu⟩ a;obtain⟨y,b,-,-⟩:=ah f;have o:j<(L.map cu).length:=by simpa using f
  have p:(L.map cu)[j]?=some (cu y):=by rw[Zy,b];rfl
  have u3:j<((L.map R).map V_).length:=by simpa using f
  have q:((L.map R).map V_)[j]?=some (V_ (R y)):=by rw[Zy,Zy,b];rfl
  have n:((L.take j).filter (yW L R)).length<=1000:=Y1 (TQ _ _) (by rw[Rk];omega);have hk:(L.take (j+1)).filter (yW L R)=(L.take j).filter (yW L R)++if yW L R y=true then [y] else []:=by rw[mC b,ad3,aeh,aes]
  simp only[sz,simprocAttr,h0,h1,h5,a,rw',u3,q,V_];refine bd4 (L:=L) (R:=R) (v:=v') (w:=w') (u:=u) (i:=j) (s:=y) (by omega) hL rv rw' nv b (by simp[St,sx,h0,h1,h5,a]) (by simp[sx]) λt ht=>?_;obtain⟨h0,h1,h5,a,h7,-⟩:=ht;simp only[sz,simprocAttr,tS];cases hR:yW L R y with
  | false =>rw[hR]at h7;rw[hR]at hk;simp only[Uc,if_false,VM]at hk;simp only[sz,simprocAttr,h0,h1,h5,a,h7];exact⟨by simp[St,sx,h0,h1],u,rfl,by rw[hk];exact hu⟩
  | true =>rw[hR]at h7;rw[hR]at hk;simp only[if_true]at hk;simp only[sz,simprocAttr,h0,h1,h5,a,h7,rv,o,p,cu];refine aP (new:=[cu y]) (hu.fr (by simp) λi hi=>by have:=(hu.lt hi).2;simp[Za];omega) (by simp[sx,sy,cu]) (by simp) (by simp[aQ];omega) λv2 g2 hv2 n2 f2 _ l2=>?_;simp only[sz,simprocAttr];refine⟨⟨by simp[St,sx,h0,h1],v2,by simp[sx],?_⟩,by simp[sx,a]⟩;rw[hk,K0];exact hv2
 ·rintro t df g ⟨rfl,⟨h0,h1,-⟩,u,h5,hu⟩;simp only[sz,simprocAttr,tU,h5];rw[Xo]at hu;exact⟨_,u,rfl,hu.nats' (Nb (TQ _ _) (by omega)) λy b=>ae2 (hL y (adO.1 b).1) (by decide)⟩
end
section
set_option linter.unusedSimpArgs false
theorem bd3(a b:Nat):EN a b<=a:=by
 have:EN a b=a &&& EN a b:=by apply adb;intro i;simp only[EN,ad2,aeu];cases a.testBit i<;>cases b.testBit i<;>rfl
 rw[this];exact Nat.and_le_left
theorem OO{R:Nat->Bool}(h:ks<256):(Do ks).filter (yW (Do ks) R)=rD R ks:=by rw[rD];refine List.filter_congr λs hs=>bg1 h (Bp.1 hs)
section
variable {d k:Nat}{P:Nat->Prop}{g:G}{n:Zv}{e:List Int}{v a bn bd:Int}{u w:AV}
theorem bd2[Z0](hd:0<d)(hm:Zl n ZX 0 g.h u)(he:ZT P k g.h e w) :
  ∃r,ae C0 d 12 [u,w,Z_ v,Z_ a,.agg [Z_ bn,Z_ bd]] g=.val r/\mQ (One (zI n e v a bn bd)) (One (GU n e v a bn bd)) ZX 0 .nil r:=by
 obtain⟨w',i,b⟩:=aZ he d;obtain⟨bb,rows,rfl,e1,c,hN,o,p,q,s⟩:=bT d hm;rw[Zn];refine aI Ft (xs:=[.agg [Z_ n.Z8,bb],w',Z_ v,Z_ a,.agg [Z_ bn,Z_ bd]]) (by simp only[aD,e1,i,aU,wF]) (by simp[se]) (bM (m:=1) (aE _) (aE _) (by decide) (by decide)) (by decide) hd ?_;simp only[sz,simprocAttr,se,vQ,ja];generalize hg0:G.new _ _=g0;have f0:g0.h.get 0=Z4 2 [[Z_ n.Z8,bb]]:=by rw[<-hg0];simp[Za,sx]
 have fb:g0.h.get 1=Z4 2 [[Z_ bn,Z_ bd]]:=by rw[<-hg0];simp[Za,sx]
 clear hg0;have ldn:aO (Z4 2 [[Z_ n.Z8,bb]]) 0 0 true 2 0=.val (.agg [Z_ n.Z8,bb]):=rfl;have ke:=λg:G=>JQ (d:=d+1) (g:=g) (n:=n) (e:=e) (v:=v) (a:=a) (bn:=bn) (bd:=bd) (u:=.agg [Z_ n.Z8,bb]) (by omega) (c _) (b g.h)
 by_cases hE:GU n e v a bn bd=0
 rotate_left
 ·have f:zI n e v a bn bd=false:=by rw[zI,Vf hE,afb]
  simp only[sz,simprocAttr,f0,fb,ldn,uP,ke,hE];rw[f];exact⟨ZX,_,_,rfl,cE.2 rfl,ay.2 rfl⟩
 obtain⟨vn,kn,rfl,rfl,hR⟩:=Gt hE;have kk:=λg:G=>Nt (d:=d+1) (g:=g) (by omega) (b g.h) (Y1 hR.l (by decide));have kh:=λg:G=>Gq (d:=d+1) (g:=g) (u:=.agg [Z_ n.Z8,bb]) (by omega) (c _) (b g.h) hR (Ec (e:=e) (j:=e.length) (Y1 hR.l (by decide)));rw[hE]at ke;have f:zI n e vn kn bn bd=BZ n e (EP e e.length) vn kn bn bd:=by rw[zI,Qe hE,U2];rfl
 simp only[sz,simprocAttr,f0,fb,ldn,uP,ke,kk,kh];rw[f,hE];exact⟨ZX,_,_,rfl,cE.2 rfl,ay.2 rfl⟩
theorem bd1[Z0](hd:0<d)(hm:Zl n ZX 0 g.h u)(he:ZT P k g.h e w) :
  ∃r,ae C0 d 14 [u,w,Z_ v,Z_ a,.agg [Z_ bn,Z_ bd]] g=.val r/\mQ (One (AN n e v a bn bd)) (One (GU n e v a bn bd)) ZX 0 .nil r:=by
 obtain⟨w',W,z⟩:=aZ he d;obtain⟨bb,rows,rfl,e1,H,hN,r1,r2,r3,r4⟩:=bT d hm;rw[Zn];refine aI DC (xs:=[.agg [Z_ n.Z8,bb],w',Z_ v,Z_ a,.agg [Z_ bn,Z_ bd]]) (by simp only[aD,e1,W,aU,wF]) (by simp[qd]) (bM (m:=1) (aE _) (aE _) (by decide) (by decide)) (by decide) hd ?_;simp only[sz,simprocAttr,qd,tK,ja];generalize hg0:G.new _ _=g0;have f0:g0.h.get 0=Z4 2 [[Z_ n.Z8,bb]]:=by rw[<-hg0];simp[Za,sx]
 have fb:g0.h.get 1=Z4 2 [[Z_ bn,Z_ bd]]:=by rw[<-hg0];simp[Za,sx]
 have fn:2<=g0.nx:=by rw[<-hg0];simp[sx]
 clear hg0;have ldn:aO (Z4 2 [[Z_ n.Z8,bb]]) 0 0 true 2 0=.val (.agg [Z_ n.Z8,bb]):=rfl;have ke:=λg:G=>JQ (d:=d+1) (g:=g) (n:=n) (e:=e) (v:=v) (a:=a) (bn:=bn) (bd:=bd) (u:=.agg [Z_ n.Z8,bb]) (by omega) (H _) (z g.h)
 by_cases hE:GU n e v a bn bd=0
 rotate_left
 ·have K:AN n e v a bn bd=[]:=ZF hE;simp only[sz,simprocAttr,f0,fb,ldn,uP,ke,hE];rw[K];exact⟨ZX,_,_,rfl,⟨_,rfl,by show 0<_;decide,rfl⟩,ay.2 rfl⟩
 obtain⟨vn,kn,rfl,rfl,hR⟩:=Gt hE;have f:=Cz hR.l;have kk:=λg:G=>Nt (d:=d+1) (g:=g) (by omega) (z g.h) (Y1 hR.l (by decide));rw[hE]at ke;obtain⟨ks,o⟩:∃ks,ks=EP e e.length:=⟨_,rfl⟩;obtain⟨F,N⟩:∃F:Nat->Bool,F=sV n e vn kn bn bd:=⟨_,rfl⟩;have K:AN n e vn kn bn bd=(Do ks).filter (yW (Do ks) F):=by rw[AN,ZN hE,<-o,OO (by rw[o];exact f),N]
 rw[K,hE];rw[<-o]at kk f;simp only[sz,simprocAttr,f0,fb,ldn,uP,ke,kk];refine aM (L3 (by omega) f) λrs hrs=>?_;obtain⟨w1,A,q1⟩:=hrs;injection A with A;subst A;have C:∀h,ZT ZX 0 h (Do ks) rs:=λh=>q1.tree (ZV 0);have rs1:=λh=>(C h).nats;have ns1:=λg=>(C .nil).len g;have ZG:=J2 f;have J:=NM f;simp only[sz,simprocAttr,qY];refine bh (Do ks).length (by omega) (λj t df g=>df=[]/\St t [(1,w'),(2,Z_ (vn:Int)),(3,Z_ (kn:Int)),(5,ZZ 0),(9,ZZ 1),(13,rs)]/\2<=g.nx/\g.h.get 0=Z4 2 [[Z_ n.Z8,bb]]/\g.h.get 1=Z4 2 [[Z_ bn,Z_ bd]]/\∃u,ZY t 14=u/\Own g 2 u 1 ((((Do ks).map F).take j).map V_)) ⟨rfl,by simp[St,sx],fn,f0,fb,.Z6,by simp[sx],.inl ⟨rfl,rfl⟩⟩ (by simp[sx]) (by decide)
  (by rintro j t df g v s (rfl|rfl|rfl) ⟨a0,⟨a1,a2,O,a4,Q,T,-⟩,b1,b2,q,u,U,V⟩<;>exact⟨a0,by simp[St,sx,a1,a2,O,a4,Q,T],b1,b2,q,u,by simp[sx,U],V⟩) ?_ ?_ ?_
 ·rintro j t df g M ⟨rfl,⟨h1,h2,D,h5,h9,b,-⟩,b1,b2,q,u,c,hu⟩ p;simp only[sz,simprocAttr,h1,h2,D,h5,h9,b,p,ns1,c];exact⟨by simp[St,sx,h1,h2,D,h5,h9,b],b1,b2,q,u,rfl,hu⟩
 ·rintro j t df g M ⟨rfl,⟨h1,h2,D,h5,h9,b,-⟩,b1,b2,q,u,c,hu⟩ p;obtain⟨y,E,-,-⟩:=ah M;have Y:=J y (YH E);have Z:j<((Do ks).map cu).length:=by simpa using M
  have u2:((Do ks).map cu)[j]?=some (cu y):=by rw[Zy,E];rfl
  have kh:=λg:G=>Gq (d:=d+1) (g:=g) (s:=y) (u:=.agg [Z_ n.Z8,bb]) (by omega) (H _) (z g.h) hR (by omega);rw[show BZ n e y vn kn bn bd=F y by rw[N];rfl]at kh;have hk:((Do ks).map F).take (j+1)=((Do ks).map F).take j++[F y]:=by rw[<-VX,<-VX,mC E,K0];rfl
  simp only[sz,simprocAttr,sf,h1,h2,D,h5,h9,b,c,p,b2,q,ldn,uP,rs1,Z,u2,cu,kh];refine aP (new:=[V_ (F y)]) (hu.fr (g':=_) (by simp;omega) λi hi=>?_) (by simp[sx,sy,V_]) (by simp) (by simp[aQ];omega) λv2 g2 hv2 n2 f2 _ l2=>?_
  ·have:=(hu.lt hi).2;simp[Za];omega
  simp only[sz,simprocAttr,sf];have X:g.nx<=g2.nx:=by simp at n2;omega
  refine⟨?_,⟨by simp[St,sx,h1,h2,D,h5,h9,b],?_,?_,_,rfl,?_⟩,p⟩
  ·simp only[I9,Nq,DI,ML];refine aK (false::(Vk (Zb (true::(true::(false::[])))))) [(0,11)] (by simp[ZL,am,aA,tW,tV]) (by decide) ?_;intro pp I x y hx E;simp only[Y0,QA,TP]at I;subst I;simp only[adc,Vb,P5]at hx E;subst hx;subst E;exact jB rfl rfl rfl λi hi hc=>by simp[aA]at hc
  ·rw[f2 0 (by simp) (λe=>by have:=(hu.lt e).1;omega)];simp[Za,b2]
  ·rw[f2 1 (by simp) (λe=>by have:=(hu.lt e).1;omega)];simp[Za,q]
  ·rw[hk,K0];exact hv2.fr (by simp;omega) λi _=>by simp
 ·rintro t df g ⟨rfl,⟨h1,h2,D,h5,h9,b,-⟩,b1,b2,q,u,c,hu⟩;rw[show ((Do ks).map F).take (Do ks).length=(Do ks).map F by rw[<-VX,Xo]]at hu;simp only[sz,simprocAttr,qZ,b,c];refine aM (It (L:=Do ks) (R:=F) (by omega) (C _) (hu.boolsV (by simp;omega)) J (by omega)) λr hr=>?_;obtain⟨w2,B,q2⟩:=hr;injection B with B;subst B;simp only[sz,simprocAttr];exact⟨ZX,_,_,rfl,⟨_,rfl,q2.tree (ZV 0)⟩,ay.2 rfl⟩
theorem bd0[Z0](hd:0<d)(hm:Zl n ZX 0 g.h u)(he:ZT P k g.h e w) :
  ∃r,ae C0 d 16 [u,w,Z_ v,Z_ a,.agg [Z_ bn,Z_ bd]] g=.val r/\mQ (One (AM n e v a bn bd)) (One (GU n e v a bn bd)) ZX 0 .nil r:=by
 obtain⟨w',Y,A⟩:=aZ he d;obtain⟨bb,rows,rfl,e1,I,hN,r1,r2,r3,r4⟩:=bT d hm;rw[Zn];refine aI Hj (xs:=[.agg [Z_ n.Z8,bb],w',Z_ v,Z_ a,.agg [Z_ bn,Z_ bd]]) (by simp only[aD,e1,Y,aU,wF]) (by simp[uJ]) (bM (m:=1) (aE _) (aE _) (by decide) (by decide)) (by decide) hd ?_;simp only[sz,simprocAttr,uJ,xJ,ja];generalize hg0:G.new _ _=g0;have f0:g0.h.get 0=Z4 2 [[Z_ n.Z8,bb]]:=by rw[<-hg0];simp[Za,sx]
 have fb:g0.h.get 1=Z4 2 [[Z_ bn,Z_ bd]]:=by rw[<-hg0];simp[Za,sx]
 have fn:2<=g0.nx:=by rw[<-hg0];simp[sx]
 clear hg0;have ldn:aO (Z4 2 [[Z_ n.Z8,bb]]) 0 0 true 2 0=.val (.agg [Z_ n.Z8,bb]):=rfl;have ke:=λg:G=>JQ (d:=d+1) (g:=g) (n:=n) (e:=e) (v:=v) (a:=a) (bn:=bn) (bd:=bd) (u:=.agg [Z_ n.Z8,bb]) (by omega) (I _) (A g.h)
 by_cases hE:GU n e v a bn bd=0
 rotate_left
 ·have M:AM n e v a bn bd=[]:=ZF hE;simp only[sz,simprocAttr,f0,fb,ldn,uP,ke,hE];rw[M];exact⟨ZX,_,_,rfl,⟨_,rfl,by show 0<_;decide,rfl⟩,ay.2 rfl⟩
 obtain⟨vn,kn,rfl,rfl,hR⟩:=Gt hE;have f:=Cz hR.l;have kk:=λg:G=>Nt (d:=d+1) (g:=g) (by omega) (A g.h) (Y1 hR.l (by decide));rw[hE]at ke;obtain⟨ks,o⟩:∃ks,ks=EP e e.length:=⟨_,rfl⟩;obtain⟨F,Q⟩:∃F:Nat->Bool,F=λs=>!sV n e vn kn bn bd (EN ks s):=⟨_,rfl⟩;have M:AM n e vn kn bn bd=(Do ks).filter (yW (Do ks) F):=by rw[AM,ZN hE,<-o,OO (by rw[o];exact f),Q]
 rw[M,hE];rw[<-o]at kk f;simp only[sz,simprocAttr,f0,fb,ldn,uP,ke,kk];refine aM (L3 (by omega) f) λrs hrs=>?_;obtain⟨w1,B,q1⟩:=hrs;injection B with B;subst B;have D:∀h,ZT ZX 0 h (Do ks) rs:=λh=>q1.tree (ZV 0);have rs1:=λh=>(D h).nats;have ns1:=λg=>(D .nil).len g;have ZG:=J2 f;have K:=NM f;simp only[sz,simprocAttr,vO];refine bh (Do ks).length (by omega) (λj t df g=>df=[]/\St t [(1,w'),(2,Z_ (vn:Int)),(3,Z_ (kn:Int)),(5,ZZ 0),(9,ZZ 1),(13,rs)]/\2<=g.nx/\g.h.get 0=Z4 2 [[Z_ n.Z8,bb]]/\g.h.get 1=Z4 2 [[Z_ bn,Z_ bd]]/\∃u,ZY t 14=u/\Own g 2 u 1 ((((Do ks).map F).take j).map V_)) ⟨rfl,by simp[St,sx],fn,f0,fb,.Z6,by simp[sx],.inl ⟨rfl,rfl⟩⟩ (by simp[sx]) (by decide)
  (by rintro j t df g v s (rfl|rfl|rfl) ⟨a0,⟨a1,a2,T,a4,U,V,-⟩,b1,b2,q,u,W,X⟩<;>exact⟨a0,by simp[St,sx,a1,a2,T,a4,U,V],b1,b2,q,u,by simp[sx,W],X⟩) ?_ ?_ ?_
 ·rintro j t df g N ⟨rfl,⟨h1,h2,E,h5,h9,b,-⟩,b1,b2,q,u,c,hu⟩ p;simp only[sz,simprocAttr,h1,h2,E,h5,h9,b,p,ns1,c];exact⟨by simp[St,sx,h1,h2,E,h5,h9,b],b1,b2,q,u,rfl,hu⟩
 ·rintro j t df g N ⟨rfl,⟨h1,h2,E,h5,h9,b,-⟩,b1,b2,q,u,c,hu⟩ p;obtain⟨y,H,-,-⟩:=ah N;have h4:=K y (YH H);have u1:j<((Do ks).map cu).length:=by simpa using N
  have u2:((Do ks).map cu)[j]?=some (cu y):=by rw[Zy,H];rfl
  have kh:=λg:G=>Gq (d:=d+1) (g:=g) (s:=EN ks y) (u:=.agg [Z_ n.Z8,bb]) (by omega) (I _) (A g.h) hR (by have:=bd3 ks y;omega);obtain⟨z,hz⟩:∃z,z=BZ n e (EN ks y) vn kn bn bd:=⟨_,rfl⟩;rw[<-hz]at kh;have O:F y = !z:=by rw[hz,Q];rfl
  have kn:=D1 (m:=ks) (n:=y) (by omega) (by omega);have hk:((Do ks).map F).take (j+1)=((Do ks).map F).take j++[F y]:=by rw[<-VX,<-VX,mC H,K0];rfl
  simp only[sz,simprocAttr,sf,h1,h2,E,h5,h9,b,c,p,b2,q,ldn,uP,rs1,u1,u2,cu,kh,kk,kn];rw[<-O];refine aP (new:=[V_ (F y)]) (hu.fr (g':=_) (by simp;omega) λi hi=>?_) (by simp[sx,sy,V_]) (by simp) (by simp[aQ];omega) λv2 g2 hv2 n2 f2 _ l2=>?_
  ·have:=(hu.lt hi).2;simp[Za];omega
  simp only[sz,simprocAttr,sf];have Z:g.nx<=g2.nx:=by simp at n2;omega
  refine⟨?_,⟨by simp[St,sx,h1,h2,E,h5,h9,b],?_,?_,_,rfl,?_⟩,p⟩
  ·simp only[I9,Nq,DI,ML];refine aK (false::(Vk (JO (Zb (true::(true::(false::[]))))))) [(0,15)] (by simp[ZL,am,aA,tW,tV]) (by decide) ?_;intro pp J x y hx H;simp only[Y0,QA,TP]at J;subst J;simp only[adc,Vb,P5]at hx H;subst hx;subst H;exact jB rfl rfl rfl λi hi hc=>by simp[aA]at hc
  ·rw[f2 0 (by simp) (λe=>by have:=(hu.lt e).1;omega)];simp[Za,b2]
  ·rw[f2 1 (by simp) (λe=>by have:=(hu.lt e).1;omega)];simp[Za,q]
  ·rw[hk,K0];exact hv2.fr (by simp;omega) λi _=>by simp
 ·rintro t df g ⟨rfl,⟨h1,h2,E,h5,h9,b,-⟩,b1,b2,q,u,c,hu⟩;rw[show ((Do ks).map F).take (Do ks).length=(Do ks).map F by rw[<-VX,Xo]]at hu;simp only[sz,simprocAttr,vP,b,c];refine aM (It (L:=Do ks) (R:=F) (by omega) (D _) (hu.boolsV (by simp;omega)) K (by omega)) λr hr=>?_;obtain⟨w2,C,q2⟩:=hr;injection C with C;subst C;simp only[sz,simprocAttr];exact⟨ZX,_,_,rfl,⟨_,rfl,q2.tree (ZV 0)⟩,ay.2 rfl⟩
end
theorem IC[Z0]{d k k2:Nat}{P P2:Nat->Prop}{g:G}{l:List Nat}{v w:AV}(hd:0<d)(hv:ZT P k g.h l v)(hw:ZT P2 k2 g.h l w):ae C0 d 17 [v,w] g=.val (.bool true):=by
 obtain⟨v',e1,a⟩:=aZ hv d;obtain⟨w',e,b⟩:=aZ hw d;have n1:=λg=>(a .nil).len g;have n2:=λg=>(b .nil).len g;have i:=λh=>(a h).nats;have m:=λh=>(b h).nats;rw[Zn];refine dA A9 (xs:=[v',w']) (by simp only[aD,e1,e]) (by simp[mi]) hd ?_;simp only[sz,simprocAttr,mi,n1,n2,oH];refine bh l.length hv.1 (λj t df g=>df=[]/\St t [(0,v'),(1,w')]) ⟨rfl,by simp[St,sx]⟩ (by simp[sx]) (by decide) (by rintro j t df g v s (rfl|rfl|rfl)<;>simp[St,sx]) ?_ ?_ ?_
 ·rintro j t df g c ⟨rfl,h0,h1,-⟩ h5;simp only[sz,simprocAttr,h0,h1,h5,n1];simp[St,sx,h0,h1]
 ·rintro j t df g c ⟨rfl,h0,h1,-⟩ h5;obtain⟨y,f,-,-⟩:=ah c;have n:j<(l.map cu).length:=by simpa using c
  have o:(l.map cu)[j]?=some (cu y):=by rw[Zy,f];rfl
  simp only[sz,simprocAttr,h0,h1,h5,i,m,n,o,cu];simp[St,sx,h0,h1,h5]
 ·rintro t df g ⟨rfl,-⟩;simp only[sz,simprocAttr,oI]
end
theorem DY{α:Type} [Rp α]{x:α}{P:Nat->Prop}{cs:List AV}(h:Rp.rp ZX 0 .nil x cs)(h':H):Zl x P 0 h' (.agg cs):=⟨_,rfl,Rp.tree h (ZV _)⟩
theorem bc_[Z0](g:G):ae C0 1 18 [] g=.val (.bool true):=by kernel_rfl
theorem bb_[Z0]{v:Nat}{P:Nat->Prop}{w:AV}{e:List Int}(hd:0<d)(he:ZT P k g.h e w)(hl:e.length<=1000)(hv:v<e.length) :
  ∃r,ae C0 d 8 [w,Z_ (v:Int)] g=.val r/\IT 0 (e.set v (-1)) r:=by
 obtain⟨w',e1,a⟩:=aZ he d;rw[Zn];refine aI Fs (xs:=[w',Z_ (v:Int)]) (by simp only[aD,e1,aU]) (by simp[r_]) (aE _) (by decide) hd ?_;simp only[sz,simprocAttr,r_];refine aM (bn1 (x:=-1) (by omega) (a _) hl hv) λr hr=>?_;simp only[sz,simprocAttr];exact⟨ZX,_,rfl,hr.sl _⟩
theorem bb9(x:Int):IntKind.wrap .u64 x=x % 18446744073709551616:=rfl
theorem Mn(x:Int):0<=IntKind.wrap .u64 x:=by rw[bb9];exact adN _ (by decide)
section
set_option linter.unusedSimpArgs false
def fM[Z0]{α:Type} [Rp α](f:Nat)(A:Zv->List Int->Int->Int->Int->Int->α):Prop:=∀{d k:Nat} {P:Nat->Prop} {g:G} {n:Zv} {e:List Int} {v a bn bd:Int} {u w:AV},0<d->Zl n ZX 0 g.h u->ZT P k g.h e w->k<=d ->
 ∃r,ae C0 d f [u,w,Z_ v,Z_ a,.agg [Z_ bn,Z_ bd]] g=.val r/\mQ (One (A n e v a bn bd)) (One (GU n e v a bn bd)) ZX 0 .nil r
def L6(odw nets own:AV)(i:Nat)(v a c:Int):List (Nat×AV):=[(3,odw),(8,ZZ 2),(11,ZZ 4),(13,ZZ 5),(14,Z_ v),(15,Z_ a),(16,Z_ c),(17,own),(61,nets),(62,Z_ (i:Int))]
theorem Qm(id:Nat):FW 2 1 (ZZ id) (Z_ 0)=.val (ZZ id):=rfl
theorem Qn(id:Nat):FW 2 1 (ZZ id) (Z_ 1)=.val (.ZD id 0 0 1):=rfl
theorem bb8(x:Bool):uz true .bool (.bool x) (.bool x)=.val (.bool false):=by cases x<;>rfl
theorem ldp(a b:AV):aO (Z4 2 [[a,b]]) 0 0 true 2 0=.val (.agg [a,b]):=rfl
theorem bb7[Z0](hH:fM 11 zI)(hE:fM 13 AN)(hD:fM 15 AM){p19 p23 i0 j0 k0:Nat}{n:Zv}{bb evw arr odw nets own evs bds:AV}{e:List Int}{v a c bn bd:Int}{Q:QT}{t:T}(hm:∀h,Zl n ZX 0 h (.agg [Z_ n.Z8,bb]))(he:ZT ZX 0 .nil e evw)
  (harr:∀j:Nat,j<3->∃x y:Int,ixV true 3 2 arr (Z_ (j:Int))=.val (.agg [Z_ x,Z_ y])) (g19:g.h.get p19=Z4 2 [[Z_ n.Z8,bb]]) (g23:g.h.get p23=Z4 2 [[Z_ bn,Z_ bd]]) (hp:p19<g.nx) (hp2:p23<g.nx)
  (ht:St t ((19,ZZ p19)::(21,evw)::(23,ZZ p23)::(94,arr)::(79,Z_ (k0:Int))::(78,bds)::(75,Z_ (j0:Int))::(74,evs)::L6 odw nets own i0 v a c)) (h95:ZY t 95=Z_ 0)
  (fin:∀t g',St t ((19,ZZ p19)::(21,evw)::(79,Z_ (k0:Int))::(78,bds)::(75,Z_ (j0:Int))::(74,evs)::L6 odw nets own i0 v a c)->Fr g g'->Q (.exit 6) t [] g'):Uk (wp C0 1 none fN) Q t [] g:=by
 simp only[fN];refine rt (m:=3) rfl (by omega) (λj t df g'=>df=[]/\Fr g g'/\St t ((19,ZZ p19)::(21,evw)::(23,ZZ p23)::(94,arr)::(79,Z_ (k0:Int))::(78,bds)::(75,Z_ (j0:Int))::(74,evs)::L6 odw nets own i0 v a c)) ⟨rfl,Fr.refl _,ht⟩ h95 (by decide) ?_ ?_ ?_
 ·rintro j t df g v s (rfl|rfl|rfl) ⟨a1,a2,b1,b2,b3,b4,b5,b6,b7,b8,b9,F,H,I,J,K,L,M,N,O,-⟩<;>exact⟨a1,a2,by simp[St,L6,sx,b1,b2,b3,b4,b5,b6,b7,b8,b9,F,H,I,J,K,L,M,N,O]⟩
 ·clear ht h95;rintro j t df g1 hj ⟨rfl,f1,k,b,f,B,h5,h4,h2,h1,h3,h8,P,R,U,V,W,X,Y,Z,-⟩ h95;obtain⟨x,y,h6⟩:=harr j hj;have l:g1.h.get p19=Z4 2 [[Z_ n.Z8,bb]]:=by rw[f1.2 _ hp,g19]
  have o:g1.h.get p23=Z4 2 [[Z_ bn,Z_ bd]]:=by rw[f1.2 _ hp2,g23]
  have h7:=f1.1;have z:¬p19=g1.nx:=by omega
  have A:¬p23=g1.nx:=by omega
  simp only[sz,simprocAttr,B,h95,h6,k,f,z,A,l,o,ldp,b,Qm,Qn];refine aM (hH (n:=n) (e:=e) (by decide) (hm _) (he.tree (ZV 0)) (Jq _)) λr hr=>?_;obtain⟨r1,r2,rfl,q1,q2⟩:=hr;have q2:=ay.1 q2;injection q2 with q2;subst q2;have q1:=cE.1 q1;injection q1 with q1;subst q1;simp only[sz,simprocAttr,k,f,z,A,l,o,ldp,b,Qm,Qn];refine aM (bd2 (n:=n) (e:=e) (by decide) (hm _) (he.tree (ZV 0))) λr hr=>?_;obtain⟨r1,r2,rfl,q1,q2⟩:=hr;have q2:=ay.1 q2;injection q2 with q2;subst q2;have q1:=cE.1 q1;injection q1 with q1;subst q1;simp only[sz,simprocAttr,k,f,z,A,l,o,ldp,b,Qm,Qn];refine aM (hE (n:=n) (e:=e) (by decide) (hm _) (he.tree (ZV 0)) (Jq _)) λr hr=>?_;obtain⟨r1,r2,rfl,q1,q2⟩:=hr;have q2:=ay.1 q2;injection q2 with q2;subst q2;obtain⟨w1,p,q1⟩:=q1;injection p with p;subst p;simp only[sz,simprocAttr,k,f,z,A,l,o,ldp,b,Qm,Qn];refine aM (bd1 (n:=n) (e:=e) (by decide) (hm _) (he.tree (ZV 0))) λr hr=>?_;obtain⟨r3,r4,rfl,q3,C⟩:=hr;have C:=ay.1 C;injection C with C;subst C;obtain⟨w3,q,q3⟩:=q3;injection q with q;subst q;simp only[sz,simprocAttr,k,f,z,A,l,o,ldp,b,Qm,Qn];refine aM (hD (n:=n) (e:=e) (by decide) (hm _) (he.tree (ZV 0)) (Jq _)) λr hr=>?_;obtain⟨r5,r6,rfl,q5,D⟩:=hr;have D:=ay.1 D;injection D with D;subst D;obtain⟨w5,u,q5⟩:=q5;injection u with u;subst u;simp only[sz,simprocAttr,k,f,z,A,l,o,ldp,b,Qm,Qn];refine aM (bd0 (n:=n) (e:=e) (by decide) (hm _) (he.tree (ZV 0))) λr hr=>?_;obtain⟨r7,r8,rfl,q7,E⟩:=hr;have E:=ay.1 E;injection E with E;subst E;obtain⟨w7,w,q7⟩:=q7;injection w with w;subst w;have ki:=λg:G=>IC (d:=1) (g:=g) (by decide) (q1.tree (h':=g.h) (ZV 0)) (q3.tree (h':=g.h) (ZV 0));have kj:=λg:G=>IC (d:=1) (g:=g) (by decide) (q5.tree (h':=g.h) (ZV 0)) (q7.tree (h':=g.h) (ZV 0));simp only[sz,simprocAttr,bb8,ki,kj];refine⟨⟨⟨?_,λi hi=>?_⟩,?_⟩,?_⟩
  ·simp;omega
  ·simp[Za,show ¬i=g1.nx by omega,f1.2 i hi]
  ·simp[St,L6,sx,k,b,f,B,h5,h4,h2,h1,h3,h8,P,R,U,V,W,X,Y,Z]
  ·simp[sx,h95]
 ·rintro t df g1 ⟨rfl,f1,b1,b2,b3,b4,ht⟩;exact fin t g1 ⟨b1,b2,ht⟩ f1
end
theorem xb0(id:Nat):FW 2 1 (ZZ id) (Z_ 0)=.val (ZZ id):=rfl
theorem xb1(id:Nat):FW 2 1 (ZZ id) (Z_ 1)=.val (.ZD id 0 0 1):=rfl
section
set_option linter.unusedSimpArgs false
theorem bb6(a b:Int):dX [Z_ 0,Z_ 0] [((0,1),Z_ a),((1,1),Z_ b)]=some [Z_ a,Z_ b]:=rfl
theorem bb5(a0 a1 b0 b1 c0 c1:Int):dX [Z_ 0,Z_ 0,Z_ 0,Z_ 0,Z_ 0,Z_ 0] [((0,2),.agg [Z_ a0,Z_ a1]),((2,2),.agg [Z_ b0,Z_ b1]),((4,2),.agg [Z_ c0,Z_ c1])] =
  some [Z_ a0,Z_ a1,Z_ b0,Z_ b1,Z_ c0,Z_ c1]:=rfl
section
variable {p19 i0 j0:Nat}{n:Zv}{bb evw odw nets own evs:AV}{e:List Int}{v a c:Int}{Q:QT}{t:T}{g:G}
theorem bb4[Z0](hH:fM 11 zI)(hE:fM 13 AN)(hD:fM 15 AM){bds:AV}(hm:∀h,Zl n ZX 0 h (.agg [Z_ n.Z8,bb]))(he:ZT ZX 0 .nil e evw)
  (hbds:∀j:Nat,j<2->∃x y:Int,ixV true 2 2 bds (Z_ (j:Int))=.val (.agg [Z_ x,Z_ y])) (g19:g.h.get p19=Z4 2 [[Z_ n.Z8,bb]]) (hp:p19<g.nx)
  (ht:St t ((19,ZZ p19)::(21,evw)::(78,bds)::(75,Z_ (j0:Int))::(74,evs)::L6 odw nets own i0 v a c)) (h79:ZY t 79=Z_ 0)
  (fin:∀t g',St t ((19,ZZ p19)::(75,Z_ (j0:Int))::(74,evs)::L6 odw nets own i0 v a c)->Fr g g'->Q (.exit 4) t [] g'):Uk (wp C0 1 none fO) Q t [] g:=by
 simp only[fO,kA];refine rt (m:=2) rfl (by omega) (λj t df g'=>df=[]/\Fr g g'/\St t ((19,ZZ p19)::(21,evw)::(78,bds)::(75,Z_ (j0:Int))::(74,evs)::L6 odw nets own i0 v a c)) ⟨rfl,Fr.refl _,ht⟩ h79 (by decide) ?_ ?_ ?_
 ·rintro j t df g v s (rfl|rfl|rfl) ⟨a1,a2,b1,b2,p,k,b,O,P,R,T,q,r,u,w,z,A,-⟩<;>exact⟨a1,a2,by simp[St,L6,sx,b1,b2,p,k,b,O,P,R,T,q,r,u,w,z,A]⟩
 ·clear ht h79;rintro j t df g1 N ⟨rfl,f1,F,G,o,K,J,U,h8,C,D,d,f,l,E,H,I,-⟩ h79;obtain⟨x,y,L⟩:=hbds j N;have B:g1.h.get p19=Z4 2 [[Z_ n.Z8,bb]]:=by rw[f1.2 _ hp,g19]
  have V:=f1.1;have W:=gC .u64 (Mn a) (show (0:Int)<3 by decide);simp only[sz,simprocAttr,o,h79,L,d,f,l,W,bb6,bb5];refine bb7 hH hE hD (p19:=p19) (p23:=g1.nx) (i0:=i0) (j0:=j0) (k0:=j) (n:=n) (bb:=bb) (evw:=evw) (odw:=odw) (nets:=nets) (own:=own) (evs:=evs) (bds:=bds) (e:=e) (v:=v) (a:=a) (c:=c) (bn:=x) (bd:=y) hm he ?_ (by simp[Za,show ¬p19=g1.nx by omega,B]) (by simp[Za]) (by simp;omega) (by simp) (by simp[St,L6,sx,F,G,o,K,J,U,h8,C,D,d,f,l,E,H,I,h79];rfl) (by simp[sx]) ?_
  ·intro j N;have:j=0\/j=1\/j=2:=by omega
   rcases this with rfl|rfl|rfl<;>exact⟨_,_,rfl⟩
  ·rintro t g2 ⟨b1,b2,M,p,k,b,ht⟩ f2;simp only[sz,simprocAttr,M];refine⟨⟨by have:=f2.1;simp at this;omega,λi hi=>?_⟩,b1,b2,p,k,b,ht⟩;rw[f2.2 i (by simp;omega)];simp[Za,show ¬i=g1.nx by omega,f1.2 i hi]
 ·rintro t df g1 ⟨rfl,f1,b1,b2,p,k,b,ht⟩;exact fin t g1 ⟨b1,k,b,ht⟩ f1
theorem bb3[Z0](hH:fM 11 zI)(hE:fM 13 AN)(hD:fM 15 AM){w1 w2 w3:AV}{l1 l2 l3:List Int}{bA bB bC bD:Int}(hm:∀h,Zl n ZX 0 h (.agg [Z_ n.Z8,bb]))(k1:ZT ZX 0 .nil l1 w1)(k2:ZT ZX 0 .nil l2 w2)(k3:ZT ZX 0 .nil l3 w3)
  (g4:g.h.get 4=Z4 4 [[Z_ bA,Z_ bB,Z_ bC,Z_ bD]]) (hn:5<=g.nx) (g19:g.h.get p19=Z4 2 [[Z_ n.Z8,bb]]) (hp:p19<g.nx)
  (ht:St t ((19,ZZ p19)::(74,.agg [w1,w2,w3])::L6 odw nets own i0 v a c)) (h75:ZY t 75=Z_ 0)
  (fin:∀t g',St t (L6 odw nets own i0 v a c)->Fr g g'->Q (.exit 2) t [] g'):Uk (wp C0 1 none fP) Q t [] g:=by
 simp only[fP,kC];refine rt (m:=3) rfl (by omega) (λj t df g'=>df=[]/\Fr g g'/\St t ((19,ZZ p19)::(74,.agg [w1,w2,w3])::L6 odw nets own i0 v a c)) ⟨rfl,Fr.refl _,ht⟩ h75 (by decide) ?_ ?_ ?_
 ·rintro j t df g v s (rfl|rfl|rfl) ⟨a1,a2,b1,b2,C,D,E,F,G,H,I,d,f,i,-⟩<;>exact⟨a1,a2,by simp[St,L6,sx,b1,b2,C,D,E,F,G,H,I,d,f,i]⟩
 ·clear ht h75;rintro j t df g1 L ⟨rfl,f1,x,b,K,h8,k,o,p,q,r,u,y,z,-⟩ h75;obtain⟨l,w,hl,A⟩:∃(l:List Int) (w:AV),ZT ZX 0 .nil l w/\ixV false 3 1 (.agg [w1,w2,w3]) (Z_ (j:Int))=.val w:=by
   have:j=0\/j=1\/j=2:=by omega
   rcases this with rfl|rfl|rfl
   ·exact⟨l1,w1,k1,rfl⟩
   ·exact⟨l2,w2,k2,rfl⟩
   ·exact⟨l3,w3,k3,rfl⟩
  have J:g1.h.get 4=Z4 4 [[Z_ bA,Z_ bB,Z_ bC,Z_ bD]]:=by rw[f1.2 4 (by omega),g4]
  have ld4:aO (Z4 4 [[Z_ bA,Z_ bB,Z_ bC,Z_ bD]]) 0 0 true 4 0=.val (.agg [Z_ bA,Z_ bB,Z_ bC,Z_ bD]):=rfl;simp only[sz,simprocAttr,b,h75,A,k,J,ld4];refine bb4 hH hE hD (p19:=p19) (i0:=i0) (j0:=j) (n:=n) (bb:=bb) (evw:=w) (odw:=odw) (nets:=nets) (own:=own) (evs:=.agg [w1,w2,w3]) (bds:=.agg [Z_ bA,Z_ bB,Z_ bC,Z_ bD]) (e:=l) (v:=v) (a:=a) (c:=c) hm hl ?_ (by rw[f1.2 _ hp,g19]) (by have:=f1.1;omega) (by simp[St,L6,sx,x,b,K,h8,k,o,p,q,r,u,y,z,h75]) (by simp[sx]) ?_
  ·intro j L;have:j=0\/j=1:=by omega
   rcases this with rfl|rfl<;>exact⟨_,_,rfl⟩
  ·rintro t g2 ⟨b1,B,b2,ht⟩ f2;simp only[sz,simprocAttr,B];exact⟨f1.trans f2,b1,b2,ht⟩
 ·rintro t df g1 ⟨rfl,f1,b1,b2,ht⟩;exact fin t g1 ht f1
end
theorem sP[Z0](hH:fM 11 zI)(hE:fM 13 AN)(hD:fM 15 AM){x:BJ}{y:po}{u1 u2 odw:AV}{vs:List UInt8}{odd:List Int}{v a bA bB bC bD:Int}(hx:Zl x ZX 0 .nil u1)(hy:Zl y ZX 0 .nil u2)
  (hv:vs.length=9) (hod:ZT ZX 0 .nil odd odw) (hodr:Raw odw) :
  ∃g',(I C0).call 1 3 [u1,u2,.agg (vs.map Zt),odw,.agg [Z_ v,Z_ a],.agg [Z_ bA,Z_ bB,Z_ bC,Z_ bD]] G.empty=.ok (.bool true) g':=by
 obtain⟨xs,rfl,qx⟩:=hx;obtain⟨ys,rfl,qy⟩:=hy;obtain⟨Z,h1,e1,-⟩:=Ix.1 qx;have T:xs.length=3:=by rw[e1];rfl
 have U:ys.length=4:=by rw[L1.1 qy];rfl
 clear e1 Z h1;obtain⟨AA,q⟩:∃AA,AA=vs.map Zt:=⟨_,rfl⟩;have N:AA.length=9:=by rw[q];simp[hv]
 rw[<-q];have key:=j5 (C:=C0) (d:=1) (f:=3) («as»:=[.agg xs,.agg ys,.agg AA,odw,.agg [Z_ v,Z_ a],.agg [Z_ bA,Z_ bB,Z_ bC,Z_ bD]]) (g:=G.empty) (K:=λv g'=>v=.bool true) wT (by simp[iI]) ?_
 ·cases hc:(I C0).call 1 3 [.agg xs,.agg ys,.agg AA,odw,.agg [Z_ v,Z_ a],.agg [Z_ bA,Z_ bB,Z_ bC,Z_ bD]] G.empty with
  |fail=>rw[hc]at key;exact key.elim
  |ok v g'=>rw[hc]at key;exact⟨g',by rw[show v=.bool true from key]⟩
 simp only[sz,simprocAttr,iI,C1];obtain⟨g0,hg0⟩:∃g0,g0=((((G.empty.new (Z4 xs.length [xs])).new (Z4 ys.length [ys])).new (Z4 AA.length [AA])).new (Z4 2 [[Z_ v,Z_ a]])).new (Z4 4 [[Z_ bA,Z_ bB,Z_ bC,Z_ bD]]):=⟨_,rfl⟩;rw[<-hg0];have f0:g0.h.get 0=Z4 3 [xs]:=by rw[hg0,T];simp[sx,Za]
 have f1:g0.h.get 1=Z4 4 [ys]:=by rw[hg0,U];simp[sx,Za]
 have f2:g0.h.get 2=Z4 9 [AA]:=by rw[hg0,N];simp[sx,Za]
 have V:g0.h.get 3=Z4 2 [[Z_ v,Z_ a]]:=by rw[hg0];simp[sx,Za]
 have fB:g0.h.get 4=Z4 4 [[Z_ bA,Z_ bB,Z_ bC,Z_ bD]]:=by rw[hg0];simp[sx]
 have M:g0.nx=5:=by rw[hg0];simp[sx]
 clear hg0;have ld0:aO (Z4 3 [xs]) 0 0 true 3 0=.val (.agg xs):=by
  match xs,T with
  |[a,b,c],_=>rfl
 have ld1:aO (Z4 4 [ys]) 0 0 true 4 0=.val (.agg ys):=by
  match ys,U with
  |[a,b,c,d],_=>rfl
 have ld2:aO (Z4 9 [AA]) 0 0 true 9 0=.val (.agg AA):=by
  match AA,N with
  |[a0,a1,a2,a3,a4,a5,a6,a7,a8],_=>rfl
 have ldn:∀(gr:Int) (bb:AV),aO (Z4 2 [[Z_ gr,bb]]) 0 0 true 2 0=.val (.agg [Z_ gr,bb]):=λ_ _=>rfl;have lda:aO (Z4 2 [[Z_ v,Z_ a]]) 0 0 false 1 0=.val (Z_ v):=rfl;have ldb:aO (Z4 2 [[Z_ v,Z_ a]]) 0 0 false 1 1=.val (Z_ a):=rfl;simp only[sz,simprocAttr,lF,f0,ld0];refine aM (bk_ (by decide) (DY (P:=ZX) qx _)) ?_;rintro r ⟨n,u,cn,rfl,Q⟩;obtain⟨bb,rfl,h3⟩:=fY.1 Q;have W:∀h,Zl n ZX 0 h (.agg [Z_ n.Z8,bb]):=λh=>DY Q h;have nb:=λg:G=>(h3.tree (h':=g.h) (ZV 0)).len g;have hd:=u.l;simp only[sz,simprocAttr,M];obtain⟨g1,k⟩:∃g1,g1=(g0.new (Z4 2 [[Z_ 0,.Z6]])).put 5 (Z4 2 [[Z_ n.Z8,bb]]):=⟨_,rfl⟩;rw[<-k];have e1:g1.h.get 1=Z4 4 [ys]:=by rw[k];simp[Za,M,f1]
 have e2:g1.h.get 2=Z4 9 [AA]:=by rw[k];simp[Za,M,f2]
 have e3:g1.h.get 3=Z4 2 [[Z_ v,Z_ a]]:=by rw[k];simp[Za,M,V]
 have e4:g1.h.get 4=Z4 4 [[Z_ bA,Z_ bB,Z_ bC,Z_ bD]]:=by rw[k];simp[Za,M,fB]
 have e5:g1.h.get 5=Z4 2 [[Z_ n.Z8,bb]]:=by rw[k];simp[Za]
 have n1:g1.nx=6:=by rw[k];simp[M]
 clear k;have wl:IntKind.wrap .u64 (n.Z7.length:Int)=(n.Z7.length:Int):=du (by omega) (by omega);have R:=gC .u64 (Mn v) (show (0:Int)<(n.Z7.length:Int) by omega);obtain⟨c,hc⟩:∃c,c=IntKind.wrap .u64 v % (n.Z7.length:Int):=⟨_,rfl⟩;have h4:0<=c/\c<(n.Z7.length:Int):=by rw[hc];exact⟨adN _ (by omega),adK _ (by omega)⟩
 rw[<-hc]at R;have wc:IntKind.wrap .i64 c=c:=aq;obtain⟨cn,rfl⟩:=Wu h4.1;have ldb4:aO (Z4 2 [[Z_ n.Z8,bb]]) 0 0 false 1 1=.val bb:=rfl;simp only[sz,simprocAttr,xb0,xb1,e1,e2,e3,e5,lda,ldb,ldb4,nb,wl,R,wc,ld1,ld2,ldn];rw[q];refine aM (Lg (by decide) hv (W _) (by omega) λz hz=>by have:=u.c z hz;omega) ?_;rintro r ⟨e,he,q1⟩;obtain⟨ew,E,q1⟩:=q1;injection E with E;subst E;obtain⟨hb,-⟩:=eB.1 he;simp only[sz,simprocAttr];refine aM (bb_ (e:=e) (v:=cn) (by decide) (q1.tree (ZV 0)) (by omega) (by omega)) λr5 hr5=>?_;simp only[sz,simprocAttr,e1,e5,ld1,ldn];refine aM (bj5 (K:=1000) (by decide) (DY (P:=ZX) qy _) (W _) (by decide) (by omega) u.b) ?_;rintro r ⟨m,-,cm,rfl,O⟩;obtain⟨b2,rfl,h9⟩:=fY.1 O;have h2:∀h,Zl m ZX 0 h (.agg [Z_ m.Z8,b2]):=λh=>DY O h;have fw:dX [Z_ 0,.Z6,Z_ 0,.Z6] [((0,2),.agg [Z_ n.Z8,bb]),((2,2),.agg [Z_ m.Z8,b2])]=some [Z_ n.Z8,bb,Z_ m.Z8,b2]:=rfl;simp only[sz,simprocAttr,fw];obtain⟨nets,p⟩:∃nets,nets=AV.agg [Z_ n.Z8,bb,Z_ m.Z8,b2]:=⟨_,rfl⟩;rw[<-p];simp only[kw,kG];refine rt (m:=2) rfl (by omega) (λj t df g=>df=[]/\Fr g1 g/\St t [(3,odw),(8,ZZ 2),(11,ZZ 4),(13,ZZ 5),(14,Z_ v),(15,Z_ a),(16,Z_ (cn:Int)),(17,r5),(61,nets)]) ⟨rfl,Fr.refl _,by simp[St,sx]⟩ (by simp[sx]) (by decide) ?_ ?_ ?_
 ·rintro j t df g v s (rfl|rfl|rfl) ⟨a1,a2,b1,b2,b3,b4,b5,b6,b7,b8,b9,-⟩<;>exact⟨a1,a2,by simp[St,sx,b1,b2,b3,b4,b5,b6,b7,b8,b9]⟩
 ·rintro j t df g2 hj ⟨rfl,F2,X,Y,F,w,H,J,L,A,B,-⟩ D;obtain⟨h7,bb1,h6,h5⟩:∃(n1:Zv) (bb:AV),(∀h,Zl n1 ZX 0 h (.agg [Z_ n1.Z8,bb]))/\ixV true 2 2 nets (Z_ (j:Int))=.val (.agg [Z_ n1.Z8,bb]):=by
   rw[p];have:j=0\/j=1:=by omega
   rcases this with rfl|rfl
   ·exact⟨n,bb,W,rfl⟩
   ·exact⟨m,b2,h2,rfl⟩
  have x2:g2.h.get 2=Z4 9 [AA]:=by rw[F2.2 2 (by omega),e2]
  have x4:g2.h.get 4=Z4 4 [[Z_ bA,Z_ bB,Z_ bC,Z_ bD]]:=by rw[F2.2 4 (by omega),e4]
  have x5:g2.h.get 5=Z4 2 [[Z_ n.Z8,bb]]:=by rw[F2.2 5 (by omega),e5]
  have hf:=F2.1;simp only[sz,simprocAttr,B,D,h5,A,Y,w,show ¬2=g2.nx by omega,show ¬5=g2.nx by omega,x2,x5,ld2,ldn];rw[q];refine aM (Lg (by decide) hv (W _) (by omega) λz hz=>by have:=u.c z hz;omega) ?_;rintro r ⟨e',ha,q2⟩;obtain⟨ew',o,q2⟩:=q2;injection o with o;subst o;have lo:=(hod.tree (h':=.nil) (ZV 0)).len;obtain⟨w3,s1,s2⟩:=Ye hod hodr 9;have h8:∀g,Au 1 odw none (some (Z_ (min (odd.length:Int) 9))) g=.val w3:=s1;have fl:dX [.Z6,.Z6,.Z6] [((0,1),r5),((1,1),r),((2,1),w3)]=some [r5,r,w3]:=by have c1:=(hr5.sl .nil).cell;have c2:=q2.cell;have c3:=s2.cell;simp[dX,c1,c2,c3,eJ,bi]
  simp only[sz,simprocAttr,X,lo,Ym,Ur,h8,fl];refine bb3 hH hE hD (p19:=g2.nx) (i0:=j) (n:=h7) (bb:=bb1) (odw:=odw) (nets:=nets) (own:=r5) (v:=v) (a:=a) (c:=(cn:Int)) (l1:=e.set cn (-1)) (l2:=e') (l3:=odd.take 9) h6 (hr5.sl .nil) q2 s2 (bA:=bA) (bB:=bB) (bC:=bC) (bD:=bD) (by simp[Za,show ¬4=g2.nx by omega,x4]) (by simp;omega) (by simp[Za]) (by simp) (by simp[St,L6,sx,X,Y,F,w,H,J,L,A,B,D]) (by simp[sx]) ?_;rintro t g3 ⟨X,Y,F,w,H,J,L,A,B,D,-⟩ V;simp only[sz,simprocAttr];refine⟨⟨?_,by simp[St,X,Y,F,w,H,J,L,A,B]⟩,D⟩;refine F2.trans ⟨by have:=V.1;simp at this;omega,λi hi=>?_⟩;rw[V.2 i (by simp;omega)];simp[Za,show ¬i=g2.nx by omega]
 ·rintro t df g2 ⟨rfl,-⟩;simp only[sz,simprocAttr,kH,bc_]
end
end
end Hx
section
namespace Hx
open Go Go.Proofs.YtikpmbiklokdiaaGreat
noncomputable section
@[reducible] def iR:Z0:=⟨λk=>ap (Nat.beq k 15) (some (fF (@C0 iN) 15)) (ap (Nat.beq k 13) (some (fF (@C0 iN) 13)) (ap (Nat.beq k 11) (some (fF (@C0 iN) 11)) none)),yq⟩
theorem c0R:@C0 iR=(((@C0 iN).add 11 (fF (@C0 iN) 11)).add 13 (fF (@C0 iN) 13)).add 15 (fF (@C0 iN) 15):=by
 have he:(@C0 iR).ext=((((@C0 iN).add 11 (fF (@C0 iN) 11)).add 13 (fF (@C0 iN) 13)).add 15 (fF (@C0 iN) 15)).ext:=by
  funext k
  by_cases c15:k=15
  ·subst c15;rfl
  by_cases c13:k=13
  ·subst c13;rfl
  by_cases c11:k=11
  ·subst c11;rfl
  have b:Nat.beq k 15=false:=by rw[<-HF,aeH];exact c15
  have a:Nat.beq k 13=false:=by rw[<-HF,aeH];exact c13
  have h:Nat.beq k 11=false:=by rw[<-HF,aeH];exact c11
  show ap (Nat.beq k 85) (some yq) (ap (Nat.testBit 567296 k) (ap (Nat.beq k 15) (some (fF (@C0 iN) 15)) (ap (Nat.beq k 13) (some (fF (@C0 iN) 13)) (ap (Nat.beq k 11) (some (fF (@C0 iN) 11)) none))) (Gen.XL.ext k))
   = ap (Nat.beq k 15) (some (fF (@C0 iN) 15)) (ap (Nat.beq k 13) (some (fF (@C0 iN) 13)) (ap (Nat.beq k 11) (some (fF (@C0 iN) 11)) (ap (Nat.beq k 85) (some yq) (ap (Nat.testBit 567296 k) none (Gen.XL.ext k)))))
  rw[b,a,h]
 show ({ Gen.XL with ext:=(@C0 iR).ext }:ZO)=_;rw[he];rfl
theorem bb2:ZK (@C0 iR):=by rw[c0R];have h:ZK ((@C0 iN).add 11 (fF (@C0 iN) 11)):=I4.add (FV I4);have k:ZK (((@C0 iN).add 11 (fF (@C0 iN) 11)).add 13 (fF (@C0 iN) 13)):=h.add (Zm.XR (C:=@C0 iN) rfl rfl (FV I4));exact k.add (Zm.XR (C:=@C0 iN) rfl rfl (FV I4))
theorem SJ:@fM iR Bool _ 11 zI:=λ{d k P g n e v a bn bd u w} h1 h2 h3 h4=>by
 have h:@ae (@C0 iR) d 11 [u,w,Z_ v,Z_ a,.agg [Z_ bn,Z_ bd]] g=fF (@C0 iN) 11 d [u,w,Z_ v,Z_ a,.agg [Z_ bn,Z_ bd]] g:=by kernel_rfl
 rw[h];exact (letI:=iN;bf9 h1 h2 h3 h4)
theorem Og:@fM iR (List Nat) _ 13 AN:=λ{d k P g n e v a bn bd u w} h1 h2 h3 h4=>by
 have h:@ae (@C0 iR) d 13 [u,w,Z_ v,Z_ a,.agg [Z_ bn,Z_ bd]] g=fF (@C0 iN) 13 d [u,w,Z_ v,Z_ a,.agg [Z_ bn,Z_ bd]] g:=by kernel_rfl
 rw[h];exact (letI:=iN;bf8 Xg h1 h2 h3 h4)
theorem WK:@fM iR (List Nat) _ 15 AM:=λ{d k P g n e v a bn bd u w} h1 h2 h3 h4=>by
 have h:@ae (@C0 iR) d 15 [u,w,Z_ v,Z_ a,.agg [Z_ bn,Z_ bd]] g=fF (@C0 iN) 15 d [u,w,Z_ v,Z_ a,.agg [Z_ bn,Z_ bd]] g:=by kernel_rfl
 rw[h];exact (letI:=iN;bf7 Xg h1 h2 h3 h4)
end
end Hx
end
namespace Hx
open Go
noncomputable section
variable {g:G}{ks d k:Nat}
end
end Hx
section
namespace Hx
open Go Go.RowKit Go.ChangeShapes Go.WideShapes
def zM(P:Program):List Field->Nat->Option Nat
 |[],k=>some k
 |f::fs,k=>if f.offset=k then zM P fs (k+P.cellsOf f.type) else none
def yf(P:Program):Nat->TypeId->Bool
 |0,_=>false
 | n+1,t=>match P.underlying t with
  |some .bool=>true
  |some (.int _)=>true
  |some (.slice e)=>decide (0<P.cellsOf e)&&yf P n e
  |some (.struct fs)=>(zM P fs.toList 0 == some (P.cellsOf t))&&fs.toList.all (λf=>yf P n f.type)
  |some (.array m e)=>decide (m*P.cellsOf e=P.cellsOf t)&&yf P n e
  |_=>false
def Sh(P:Program):Nat->TypeId->List AV->Prop
 |0,_,_=>False
 | n+1,t,xs=>match P.underlying t with
  |some .bool=>∃b,xs=[.bool b]
  |some (.int k)=>∃z,xs=[.int k z]/\(Lit.int k z).wf=true
  |some (.slice e)=>xs=[.Z6]\/∃rows,xs=[.Zs 0 (P.cellsOf e) rows]/\rows.length<2^63/\∀row∈rows,Sh P n e row
  |some (.struct fs)=>∃xss,xs=xss.flatten/\ZL (λ(f:Field) ys=>Sh P n f.type ys) fs.toList xss
  |some (.array m e)=>∃xss:List (List AV),xs=xss.flatten/\xss.length=m/\∀ys∈xss,Sh P n e ys
  |_=>False
def Kd(P:Program)(w:World)(n:Nat)(t:TypeId)(xs:List AV)(cs:List Value):Prop :=Y3 w xs cs/\(∀y∈xs,y.one=true/\Closed y)/\Sh P n t xs
theorem Y3.append{w:World}{xs ys:List AV}{cs ds:List Value}(h:Y3 w xs cs)(h':Y3 w ys ds):Y3 w (xs++ys) (cs++ds):=by
 refine⟨by rw[J6,J6,h.1,h'.1],λi x v hx hv=>?_⟩;rcases TU i xs.length with hi|hi
 ·rw[QJ hi]at hx;rw[QJ (by rw[<-h.1];exact hi)]at hv;exact h.2 i x v hx hv
 ·rw[Sl hi]at hx;rw[Sl (by rw[<-h.1];exact hi),<-h.1]at hv;exact h'.2 _ x v hx hv
theorem NX(b o n:Nat):(⟨b,o,none⟩:Addr).add n=Zo b (o+n):=by
 unfold Addr.add
 split
 ·rename_i h;subst h;rfl
 ·rfl
variable {H:Type}{enc:TypeId×Value->H}{P:Program}{w:World}
theorem H0:∀{fl:List Field} {k K:Nat},zM P fl k=some K->k<=K
 |[],k,K,h=>by injection h with h;omega
 | f::fl,k,K,h=>by
  unfold zM at h
  split at h
  ·have:=H0 h;omega
  grind
theorem TC{n:Nat}{cs:List Value}:∀{fl:List Field} {k K:Nat},zM P fl k=some K ->
  (∀f∈fl,∃xs,Kd P w n f.type xs ((cs.drop f.offset).take (P.cellsOf f.type))) ->
  ∃xss,ZL (λ(f:Field) ys=>Sh P n f.type ys) fl xss/\Y3 w xss.flatten ((cs.drop k).take (K - k))/\∀y∈xss.flatten,y.one=true/\Closed y
 | [],k,K,h,_=>by injection h with h;subst h;exact⟨[],trivial,by rw[Yp,aeb];exact⟨rfl,λi x v hx=>by grind⟩,λy hy=>by grind⟩
 | f::fl,k,K,h,hg=>by
  unfold zM at h
  split at h
  ·rename_i ho;subst ho;obtain⟨xs,h1,h2,a⟩:=hg f (by simp);obtain⟨xss,a1,a2,c⟩:=TC h λf' hf'=>hg f' (by grind);have b:=H0 h;refine⟨xs::xss,⟨a,a1⟩,?_,λy hy=>?_⟩
   ·have e:(cs.drop f.offset).take (K - f.offset)=(cs.drop f.offset).take (P.cellsOf f.type)++(cs.drop (f.offset+P.cellsOf f.type)).take (K - (f.offset+P.cellsOf f.type)):=by rw[show K - f.offset=P.cellsOf f.type+(K - (f.offset+P.cellsOf f.type)) by omega,List.take_add,HE]
    grind[Y3.append]
   grind
  grind
theorem NY{n:Nat}{e:TypeId}{cs:List Value}:∀{m k:Nat},
  (∀i,i<m->∃xs,Kd P w n e xs ((cs.drop ((k+i)*P.cellsOf e)).take (P.cellsOf e))) ->
  ∃xss:List (List AV),xss.length=m/\(∀ys∈xss,Sh P n e ys)/\Y3 w xss.flatten ((cs.drop (k*P.cellsOf e)).take (m*P.cellsOf e))/\∀y∈xss.flatten,y.one=true/\Closed y
 |0,k,_=>⟨[],rfl,λy hy=>by grind,by rw[aeB,aeb];exact⟨rfl,λi x v hx=>by grind⟩,λy hy=>by grind⟩
 | m+1,k,hg=>by
  obtain⟨xs,h1,h2,a⟩:=hg 0 (by omega);rw[Yt]at h1;obtain⟨xss,a0,a1,a2,h⟩:=NY (m:=m) (k:=k+1) λi hi=>by have:=hg (i+1) (by omega);rwa [show k+(i+1)=k+1+i by omega]at this
  refine⟨xs::xss,by simp[a0],λys hy=>?_,?_,λy hy=>?_⟩
  ·grind
  ·have e:(cs.drop (k*P.cellsOf e)).take ((m+1)*P.cellsOf e)=(cs.drop (k*P.cellsOf e)).take (P.cellsOf e)++(cs.drop ((k+1)*P.cellsOf e)).take (m*P.cellsOf e):=by rw[show (m+1)*P.cellsOf e=P.cellsOf e+m*P.cellsOf e by grind,List.take_add,HE,UF,VT]
   grind[Y3.append]
  grind
theorem FM:∀(n:Nat) (t:TypeId),yf P n t=true->∀(fuel:Nat) (cs:List Value) (x:DataW H×List MemPlace),DataW.trod enc P w 0 (λ_=>true) true fuel t cs=some x->∃xs,Kd P w n t xs cs:=by
 intro n
 induction n with
 |zero=>grind[yf]
 | succ n ih =>
  intro t h fuel cs x hx;unfold yf at h
  split at h
  ·rename_i hu;obtain⟨b,rfl,-⟩:=DataW.trod_bool hu hx;refine⟨[.bool b],⟨rfl,λi x v h1 h2=>?_⟩,λy hy=>?_,?_⟩
   ·cases i with
    |zero=>simp at h1 h2;subst h1;subst h2;exact .bool _ _
    |succ i=>grind
   ·simp at hy;subst hy;exact⟨rfl,.bool _⟩
   simp_all[Sh]
  ·rename_i k hu;obtain⟨z,rfl,-,R⟩:=DataW.trod_int hu hx;refine⟨[.int k z],⟨rfl,λi x v h1 h2=>?_⟩,λy hy=>?_,?_⟩
   ·cases i with
    |zero=>simp at h1 h2;subst h1;subst h2;exact .int _ _ _
    |succ i=>grind
   ·simp at hy;subst hy;exact⟨rfl,.int _ _⟩
   simp_all[Sh]
  ·rename_i e hu;rw[Zk,RY]at h;obtain⟨D,hp⟩:=h;rcases DataW.trod_slice hu hx with⟨rfl,-⟩|⟨a,len,cap,elems,rest,m,-,rfl,-,-,Q,M,L,u,-,-⟩
   ·refine⟨[.Z6],⟨rfl,λi x v h1 h2=>?_⟩,λy hy=>?_,?_⟩
    ·cases i with
     |zero=>simp at h1 h2;subst h1;subst h2;exact .Z6 _
     |succ i=>grind
    ·simp at hy;subst hy;exact⟨rfl,.Z6⟩
    simp_all[Sh]
   ·have each:∀i,i<len->∃xs vs,w.cells? 0 (a.add (i*P.cellsOf e)) (P.cellsOf e)=some vs/\Kd P w n e xs vs:=by
     grind[Option.bind_eq_some_iff]
    let rowf:Nat->List AV:=λi=>if hi:i<len then Classical.choose (each i hi) else []
    let valf:Nat->List Value:=λi=>if hi:i<len then Classical.choose (Classical.choose_spec (each i hi)) else []
    have c:∀i,i<len->w.cells? 0 (a.add (i*P.cellsOf e)) (P.cellsOf e)=some (valf i)/\Kd P w n e (rowf i) (valf i):=by grind
    have d:∀(i:Nat) (row:List AV),((List.range len).map rowf)[i]?=some row->i<len/\row=rowf i:=by intro i row h1;rw[Zy]at h1;rcases TU i len with hi|hi<;>grind
    refine⟨[.Zs 0 (P.cellsOf e) ((List.range len).map rowf)],⟨rfl,λi x v h1 h2=>?_⟩,λy hy=>?_,?_⟩
    ·cases i with
     |succ i=>grind
     | zero =>
      simp at h1 h2;subst h1;subst h2;rcases afp len with h0|h0
      ·subst h0;exact .YF 0 0 _ a cap (ZV _)
      ·obtain⟨b,o,spot⟩:=a;have F:=World.cells?_some (c 0 h0).1;have J:(valf 0)[0]?=some (valf 0)[0]:=Zq (by omega);have s:=F.2.2 0 D;rw[J]at s;have C:spot=none:=by simpa [Addr.add] using World.cell?_spot s
       subst C;have cellat:∀i j row x,((List.range len).map rowf)[i]?=some row->row[j]?=some x->∃v,(valf i)[j]?=some v/\w.cell? (Zo b (o+i*P.cellsOf e+j))=some v/\RV w U9 Tj 0 x v:=by
        intro i j row x hr l;obtain⟨hi,rfl⟩:=d i row hr;obtain⟨q1,q2⟩:=c i hi;have O:j<(rowf i).length:=(by grind);have B:j<(valf i).length:=by rw[<-q2.1.1];exact O
        have G:=World.cells?_some q1;have p:=G.2.2 j (by omega);rw[Zq B]at p;refine⟨_,Zq B,?_,q2.1.2 j x _ l (Zq B)⟩;rw[NX,show Zo b (o+i*P.cellsOf e)=(⟨b,o+i*P.cellsOf e,none⟩:Addr) from rfl,NX]at p;omega
       have hb:b<w.heap.size:=by
        have:=M7 s
        grind[Addr.add]
       have I:((List.range len).map rowf).length=len:=by simp
       have key:=RV.Zs (w:=w) (γ:=U9) (A:=Tj) 0 0 (P.cellsOf e) ((List.range len).map rowf) b o cap (λi j=>(valf i)[j]?.getD undef) (ZV _) (by omega) hb (YB b) (λh=>h)
        (λi row hr=>by obtain⟨hi,rfl⟩:=d i row hr;obtain⟨q1,q2⟩:=c i hi;rw[q2.1.1,(World.cells?_some q1).2.1])
        (λi j row x hr l=>by obtain⟨hi,rfl⟩:=d i row hr;exact ((c i hi).2.2.1 x (YH l)).1)
        (λi j row x hr l=>by obtain⟨v,T,U,V⟩:=cellat i j row x hr l<;>grind)
        (λi j row x hr l=>by obtain⟨v,T,U,V⟩:=cellat i j row x hr l<;>grind)
        (λrow hr x hx=>by obtain⟨i,hi⟩:=QG hr;obtain⟨r,rfl⟩:=d i row hi;exact ((c i r).2.2.1 x hx).2)
       rw[I]at key;exact key
    ·simp only[Wa]at hy;subst hy;refine⟨rfl,.Zs _ _ _ λrow hr x hx=>?_⟩;obtain⟨i,hi⟩:=QG hr;obtain⟨r,rfl⟩:=d i row hi;exact ((c i r).2.2.1 x hx).2
    ·unfold Sh;rw[hu];refine .inr ⟨_,rfl,?_,λrow hr=>?_⟩
     ·grind[maxLen]
     ·obtain⟨i,hi⟩:=QG hr;obtain⟨r,rfl⟩:=d i row hi;exact (c i r).2.2.2
  ·rename_i fs hu;rw[Zk]at h;obtain⟨hc,hp⟩:=h;have hc:zM P fs.toList 0=some (P.cellsOf t):=eq_of_beq hc;obtain⟨ys,m,-,-,hl,K,u⟩:=DataW.trod_struct hu hx;obtain⟨xss,a1,a2,E⟩:=TC (w:=w) (n:=n) (cs:=cs) hc λf hf=>by
    obtain⟨i,hi,e⟩:=QX.1 hf;have N:fs[i]?=some f:=by grind
    grind
   rw[XI,Fa,<-hl,Xo]at a2;refine⟨xss.flatten,a2,E,?_⟩;unfold Sh;grind
  ·rename_i m e hu;rw[Zk,RY]at h;obtain⟨hc,hp⟩:=h;obtain⟨ys,q,-,-,hl,K,u⟩:=DataW.trod_array hu hx;obtain⟨xss,a0,a1,a2,E⟩:=NY (w:=w) (n:=n) (e:=e) (cs:=cs) (m:=m) (k:=0) λi hi=>by have:=u i hi;rw[Zq (show i<ys.length by omega)]at this;rw[Ku];exact ih e hp _ _ _ this
   rw[aeB,XI,hc,<-hl,Xo]at a2;refine⟨xss.flatten,a2,E,?_⟩;unfold Sh;grind
  grind
theorem CF{n:Nat}{t:TypeId}{xs:List AV}(hu:P.underlying t=some (.int .i64))(h:Sh P n t xs):∃x:Int,Rp.rp ZX 0 .nil x xs:=by
 cases n with
 |zero=>exact h.elim
 | succ n =>unfold Sh at h;rw[hu]at h;obtain⟨z,rfl,-⟩:=h;simp_all[ay]
theorem nA{n:Nat}{t:TypeId}{xs:List AV}(hu:P.underlying t=some (.int .u8))(h:Sh P n t xs):∃x:UInt8,Rp.rp ZX 0 .nil x xs:=by
 cases n with
 |zero=>exact h.elim
 | succ n =>
  unfold Sh at h;rw[hu]at h;obtain⟨z,rfl,hw⟩:=h;simp only[Lit.wf,IntKind.min,IntKind.max,IntKind.signed,IntKind.bits,Zk]at hw;refine⟨UInt8.ofNat z.toNat,fK.2 ?_⟩
  grind[UInt8.toNat_ofNat_of_lt']
theorem Ep{α:Type} [Rp α]{n:Nat}{t e:TypeId}{xs:List AV}(hu:P.underlying t=some (.slice e))(hsz:P.cellsOf e=Rp.sz α)(hel:∀ys,Sh P n e ys->∃y:α,Rp.rp ZX 0 .nil y ys)(h:Sh P (n+1) t xs) :
  ∃l:List α,Rp.rp ZX 0 .nil l xs:=by
 unfold Sh at h;rw[hu]at h;rcases h with rfl|⟨rows,rfl,hl,hr⟩
 ·exact⟨[],.Z6,rfl,by simp,rfl⟩
 ·have:∀rows:List (List AV),(∀row∈rows,Sh P n e row)->∃l:List α,ZL (Rp.rp ZX 0 .nil) l rows:=by
   intro rows
   induction rows with
   |nil=>intro _;exact⟨[],trivial⟩
   | cons r rows ih =>intro h;obtain⟨y,k⟩:=hel r (h r (by simp));obtain⟨l,hl⟩:=ih λrow hrow=>h row (by grind);exact⟨y::l,k,hl⟩
  obtain⟨l,ha⟩:=this rows hr;exact⟨l,_,rfl,by grind[ZL.len],ZV _,.inl hsz,ha⟩
theorem Gz{n m:Nat}{t e:TypeId}{xs:List AV}(hu:P.underlying t=some (.array m e))(h:Sh P (n+1) t xs):∃xss:List (List AV),xs=xss.flatten/\xss.length=m/\∀ys∈xss,Sh P n e ys:=by grind[Sh]
theorem ue{n:Nat}{t:TypeId}{fs:Array Field}{xs:List AV}(hu:P.underlying t=some (.struct fs))(h:Sh P (n+1) t xs):∃xss,xs=xss.flatten/\ZL (λ(f:Field) ys=>Sh P n f.type ys) fs.toList xss:=by grind[Sh]
end Hx
end
namespace Hx
open Go
noncomputable section
variable {g:G}{ks d k:Nat}
end
end Hx
