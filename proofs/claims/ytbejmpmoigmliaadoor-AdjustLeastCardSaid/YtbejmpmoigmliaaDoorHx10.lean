/- A part of the proof: an interpreter over abstract values, shown right against the model, and what the functions of the chapter compute on it. -/
import Derived.OpenShut
import Derived.DataReads
import Derived.Test.YtbejmpmoigmliaaDoorHx9
set_option linter.unusedVariables false
set_option linter.unusedSimpArgs false
set_option linter.unnecessarySimpa false
section
namespace Hx
open Go
noncomputable section
theorem A0 {d k2:Nat}{g:G}{P2:Nat->Prop}{v w:AV}{p c l:List Nat}(hd:0<d)(hm:Agg ((p,c):List Nat×List Nat) NoP 0 g.h v)(hw:SlR P2 k2 g.h l w)(n8:p.length<=8) :
  aL C0 d N.az [v,w] g=.val (.bool (S.ax p.length l 0)):=by
 have e0:=sP d hm
 obtain ⟨cs,rfl,hcs⟩:=hm
 obtain ⟨_,_,rfl,ha,hb⟩:=gO.1 hcs
 obtain ⟨pa,rfl,hpa⟩:=be.1 ha
 obtain ⟨ch,rfl,hch⟩:=be.1 hb
 obtain ⟨w',e2,r2⟩:=qE hw d
 have hlt:=cx hw
 have hl:=hw.1
 have hpa:SlR NoP 0 .nil p pa:=hpa.tree (Nat.le_refl 0)
 have lp:=hpa.len
 have wl:=(r2 .nil).len
 have lg1:aP (.cells 2 [[pa,ch]] 0 false false) 0 0 false 1 0=.val pa:=rfl
 rw[fm]
 refine nm gn (xs:=[.agg ([pa]++[ch]),w']) (by simp only[aD,e0,e2]) (by simp[bL]) hd ?_
 simp only[sz,simprocAttr,bL,cM,List.cons_append,List.nil_append,wl]
 simp only[cA]
 refine bD (m:=l.length) hl (fun j t df g=>df=[]/\g.h.get 0=.cells 2 [[pa,ch]] 0 false false/\∃a:Nat,a<18446744073709551616/\S.ax p.length (l.drop j) a=S.ax p.length l 0/\St t [(2,.hptr 0 0 0 0),(8,w'),(5,.int .u64 (a:Int))]) ⟨rfl,by simp[sx,H.get_put],0,by decide,rfl,by simp[St,sx]⟩ (by simp[sx]) (by simp[sx]) (by decide)
  (by rintro j t df g v s (rfl | rfl | rfl)<;>simp[sx,St]) ?_ ?_
 ·rintro j t df g hj ⟨rfl,g0,a,ha,hS,h2,h8,h5,-⟩ h10 h9
  obtain ⟨x,hx,-,hm⟩:=cZ hj
  have hxl:=hlt x hm
  have z1:j<(l.map cu).length:=by simpa using hj
  have z2:(l.map cu)[j]?=some (cu x):=by rw[List.getElem?_map,hx];rfl
  have rt:=fun h=>(r2 h).nats
  rw[wz hx] at hS
  by_cases c:x<2 ^ p.length
  ·by_cases c2:x &&& a=0
   ·simp only[sz,simprocAttr,h2,h5,h8,h10,g0,lg1,lp,rt,z1,z2,cu,aH _ _ _ hxl,ea,c,bW x a hxl ha,c2,gw a x ha hxl]
    refine ⟨⟨a ||| x,rB ha hxl,?_,by simp[St,sx,h2,h8]⟩,h9⟩
    rw[<-hS,xu c c2]
   ·simp only[sz,simprocAttr,h2,h5,h8,h10,g0,lg1,lp,rt,z1,z2,cu,aH _ _ _ hxl,ea,c,bW x a hxl ha,show ¬((x &&& a:Nat):Int)=0 from by omega]
    rw[<-hS,zJ c2]
  ·simp only[sz,simprocAttr,h2,h5,h8,h10,g0,lg1,lp,rt,z1,z2,cu,aH _ _ _ hxl,ea,c]
   rw[<-hS,zE c]
 ·rintro t df g ⟨rfl,g0,a,-,hS,-⟩
  simp only[sz,simprocAttr,cC]
  rw[<-hS,List.drop_length];rfl
theorem AO {p:List Nat}(hp:∀x∈p,x<2 ^ p.length):Chl p (S.aP p):=by
 refine ⟨qD,fun v u=>?_⟩
 by_cases h:v<p.length
 ·have:(S.aP p)[v]?.getD 0=S.aa (Eg p v) p.length:=by simp[S.aP,h]
  rw[this,gM]
  exact ⟨fun h=>h.2,fun h=>⟨(j8 hp h).2,h⟩⟩
 ·have:(S.aP p)[v]?=none:=List.getElem?_eq_none (by rw[qD];omega)
  rw[this]
  constructor
  ·intro h';simp at h'
  ·intro h';exact absurd (j8 hp h').1 h
theorem pf {d:Nat}{g:G}{v':AV}{p:List Nat}(hd:0<d)(hv:SlR NoP 0 .nil p v'):aL C0 d N.ax [v'] g=.val (.int .i64 (S.aB p [])):=by
 have e:=iJ (h:=g.h) d (hv.tree (h':=g.h) (Nat.le_refl 0))
 rw[jO]
 refine gV kK (xs:=[v']) (by simp only[aD,e]) (by simp[eM]) hd ?_
 simp only[sz,simprocAttr,eM]
 refine nP (rV (Nat.succ_pos d) hv) fun z hz=>?_
 obtain ⟨a,b,rfl,⟨cs,rfl,hcs⟩,hb⟩:=hz
 obtain ⟨_,_,rfl,ha,hb2⟩:=gO.1 hcs
 obtain ⟨pa,rfl,-⟩:=be.1 ha
 obtain ⟨ch,rfl,-⟩:=be.1 hb2
 obtain rfl:b=.int .i64 (if S.aA p then (0:Int) else 70):=by simpa using dH.1 hb
 simp only[sz,simprocAttr,List.cons_append,List.nil_append]
 simp only[S.aB,S.ax,↓reduceIte]
def S.aR (p:List Nat)(xs ys zs:Nat):Bool:=decide (S.aB p [xs,ys,zs]=0)&&decide (S.aL p xs zs &&& ys=0)
theorem A3 {n x y z:Nat}:S.ax n [x,y,z] 0=true↔x<2 ^ n/\y<2 ^ n/\y &&& x=0/\z<2 ^ n/\z &&& (x ||| y)=0:=by
 simp[S.ax,and_assoc]
theorem Cv {g:G}{id:Nat}{l:List Nat}(h:g.h.get id=.cells 1 (l.map cu) 0 false false)(hi:id<g.nx)  (hl:l.length<9223372036854775808)(hb:∀y∈l,y<18446744073709551616):SlR (fun i=>some id=some i) 0 g.h l (.hsl id 0 0 l.length none) :=
 Own.natsV (b:=0) (v:=.hsl id 0 0 l.length none) (.inr ⟨id,0,false,Nat.zero_le _,hi,by simp,h⟩) hl hb
theorem rm {α:Type} [Rp α]{x:α}{k:Nat}{h h':H}{v:AV}(r:Agg x NoP k h v):Agg x NoP k h' v:=by
 obtain ⟨cs,rfl,r⟩:=r
 exact ⟨cs,rfl,Rp.tree r (Nat.le_refl _)⟩
theorem wu {d:Nat}{g:G}{v:AV}{p:List Nat}{xs ys zs:Nat}(hd:0<d)(hv:SlR NoP 0 .nil p v)(hx:xs<18446744073709551616)(hy:ys<18446744073709551616)(hz:zs<18446744073709551616) :
  aL C0 d N.ap [v,.int .u64 (xs:Int),.int .u64 (ys:Int),.int .u64 (zs:Int)] g=.val (.tup [.bool (S.aR p xs ys zs),.int .i64 (S.aB p [xs,ys,zs])]):=by
 have key:∃r,aL C0 d N.ap [v,.int .u64 (xs:Int),.int .u64 (ys:Int),.int .u64 (zs:Int)] g=.val r/\qS (One (S.aR p xs ys zs)) (One (S.aB p [xs,ys,zs])) NoP 0 .nil r:=by
  have e:=iJ (h:=g.h) d (hv.tree (h':=g.h) (Nat.le_refl 0))
  have fin:∀{h:H} {r:Bool} {x:Int},S.aR p xs ys zs=r->S.aB p [xs,ys,zs]=x->∃P,qS (One (S.aR p xs ys zs)) (One (S.aB p [xs,ys,zs])) P 0 h (.tup [.bool r,.int .i64 x]):=fun h1 h2 =>
   ⟨fun _=>True,_,_,rfl,by rw[h1];exact gR.2 rfl,by rw[h2];exact dH.2 rfl⟩
  rw[jP]
  refine fL kY (xs:=[v,.int .u64 (xs:Int),.int .u64 (ys:Int),.int .u64 (zs:Int)]) (by simp only[aD,e,cI]) (by simp[eT]) (i_ (m:=1) (dD _) (dD _) (by decide) (by decide)) (by decide) hd ?_
  simp only[sz,simprocAttr,eT]
  refine nP (rV (Nat.succ_pos d) hv) fun z hz'=>?_
  obtain ⟨a,b,rfl,ha',hb⟩:=hz'
  have hA:=ha'
  obtain ⟨cs,rfl,hcs⟩:=ha'
  obtain ⟨_,_,rfl,ha,hb2⟩:=gO.1 hcs
  obtain ⟨pa,rfl,-⟩:=be.1 ha
  obtain ⟨ch,rfl,-⟩:=be.1 hb2
  obtain rfl:b=.int .i64 (if S.aA p then (0:Int) else 70):=by simpa using dH.1 hb
  have ld:aP (.cells 2 [[pa,ch]] 0 false false) 0 0 true 2 0=.val (.agg [pa,ch]):=rfl
  cases hG:S.aA p with
  | false =>
   have h70:S.aB p [xs,ys,zs]=70:=by simp[S.aB,hG]
   simp only[sz,simprocAttr,List.cons_append,List.nil_append]
   exact fin (by simp[S.aR,h70]) h70
  | true =>
   have hGo:=gS.1 hG
   have h256:=jQ hGo.l8
   rw[S.gr,hG,if_pos rfl,List.cons_append,List.nil_append] at hA
   have kD:∀g:G,g.h.get 1=.cells 1 [[.int .u64 (xs:Int)],[.int .u64 (ys:Int)],[.int .u64 (zs:Int)]] 0 false false->1<g.nx->aL C0 (d+1) N.az [.agg [pa,ch],.hsl 1 0 0 3 none] g=.val (.bool (S.ax p.length [xs,ys,zs] 0)) :=
    fun g h hn=>A0 (Nat.succ_pos d) (rm hA) (Cv (l:=[xs,ys,zs]) h hn (by simp) (by simp[hx,hy,hz])) hGo.l8
   have kR:=fun (h1:xs<2 ^ p.length) (h2:zs<2 ^ p.length) g=>yM (d:=d+1) (g:=g) (Nat.succ_pos d) (rm hA) hGo.hp hGo.l1 hGo.l8 (AO hGo.hp) h1 h2
   simp only[sz,simprocAttr,List.cons_append,List.nil_append,ld,wS]
   rw[kD _ (by simp[sx,H.get_put]) (by simp)]
   cases hD:S.ax p.length [xs,ys,zs] 0 with
   | false =>
    have h2:S.aB p [xs,ys,zs]=2:=by simp[S.aB,hG,hD]
    simp only[sz,simprocAttr]
    exact fin (by simp[S.aR,h2]) h2
   | true =>
    have h0:S.aB p [xs,ys,zs]=0:=by simp[S.aB,hG,hD]
    obtain ⟨d1,d2,-,d3,-⟩:=A3.1 hD
    have hR:S.aL p xs zs<2 ^ p.length:=oB _ _
    have hq:decide (((S.aL p xs zs &&& ys:Nat):Int)=0)=decide (S.aL p xs zs &&& ys=0):=by
     by_cases h:S.aL p xs zs &&& ys=0
     ·simp[h]
     ·have:¬((S.aL p xs zs &&& ys:Nat):Int)=0:=by omega
      simp[h]
    simp only[sz,simprocAttr,H.get_put,ld,kR d1 d3,bW _ _ (show S.aL p xs zs<18446744073709551616 by omega) hy,hq]
    exact fin (by simp[S.aR,h0]) h0
 obtain ⟨r,h1,a,b,rfl,h2,h3⟩:=key
 have h2:=gR.1 h2
 have h3:=dH.1 h3
 injection h2 with h2
 injection h3 with h3
 rw[h1,h2,h3]
structure DAok (D:ND) (n i:Nat) (num:Nat->Nat):Prop where
 e:∀v,v<n->D.P v=[]/\D.m v=0
 c:∀k,k<i->D.c (num k)=2\/D.c (num k)=3
 o:∀u,D.o u=0
def LDA (n q:Nat)(r5:AV):List (Nat×AV):=[(1,.hptr 0 0 0 0),(2,.hptr 1 0 0 0),(3,.int .i64 (n:Int)),(4,.hptr q 0 0 0),(5,r5)]
structure DA (r0:List AV) (n q:Nat) (gr:Int) (r5:AV) (num:Nat->Nat) (i:Nat) (t:T) (g:G):Prop where
 st:St t (LDA n q r5)
 w:∃w:Nat,tat t 6=.int .i64 (w:Int)/\w<=3 ^ i
 hd:∃V E D,DN X1 r0 n q 1000 gr V E D g/\DAok D n i num
section
variable {κ:Type} [DecidableEq κ]{g:G}{b:Nat}{L:κ->Prop}{V:κ->AV}{E:κ->En}{k:κ}
end
theorem wg (m n:Nat):∃z:Nat,aT .shr (.int .u8 (m:Int)) (.int .u64 (n:Int))=.val (.int .u8 (z:Int)) :=
 ⟨m / 2 ^ (Nat.min n 8),rfl⟩
theorem w7 (m n:Nat):∃z:Int,aT .and (.int .u8 (m:Int)) (.int .u8 (n:Int))=.val (.int .u8 z):=by
 have:∃z:Int,Op.intBits .and .u8 (.ofNat m) (.ofNat n)=.pure (.int .u8 z):=⟨_,rfl⟩
 obtain ⟨z,hz⟩:=this
 refine ⟨z,?_⟩
 show orV (i4 (Op.intBits .and .u8 (.ofNat m) (.ofNat n)))=_
 rw[hz];rfl
structure DB (D:ND) (n i v:Nat) (num:Nat->Nat):Prop where
 c:∀u,u<n->D.c u=2\/D.c u=3
 p:∀u,u<n->(D.P u).length<=3/\∀y∈D.P u,0<=y/\y<n
 m:∀u,u<n->D.m u<=64
 o:∀u,D.o u=0
 f:∀k,i<k->k<n->D.P (num k)=[]/\D.m (num k)=0
def S.bo (P0:List Int)(c0:Nat->Int):Int:=S.aE (P0.map fun y=>c0 y.toNat)
structure DOk (gr:Int) (D:ND) (n i:Nat) (num:Nat->Nat):Prop where
 s:∀u,u<n->(D.P u).Pairwise (·<·)
 a:∀k,k<n->∀y∈D.P (num k),∃k',k'<k/\y=(num k':Int)
 w:∀k,k<i->(D.m (num k):Int)=S.bo (D.P (num k)) D.c
 r:∀u r,u<n->r<D.m u->Cw gr (D.c u) (D.R u r)
structure DP (r0 prow:List AV) (n q i p v:Nat) (gr:Int) (r5:AV) (num:Nat->Nat) (g:G) (V:Ky->AV) (E:Ky->En) (D:ND):Prop where
 dn:DN X2 r0 n q 1000 gr V E D g
 pb:V (0,2)=.hptr p 0 0 0/\E (0,2)=.bx prow
 db:DB D n i v num
 mv:D.m v=0
 ok:DOk gr D n i num
end
end Hx
end
section
namespace Hx
open Go
noncomputable section
abbrev tl:=List UInt8×List UInt8
def Cq:VS:=fun P k h v=>∃p:List Nat,(GOk p/\p.length<=6)/\One p P k h v
def LGp (n:Nat)(u v:AV):List (Nat×AV):=[(1,.hptr 0 0 0 0),(3,.int .i64 (n:Int)),(4,u),(8,v)]
structure GD (a b u v:AV) (n:Nat) (num:Nat->Nat) (pl:List Int) (Y:List Nat) (g:G):Prop where
 h0:g.h.get 0=.cells 2 [[a,b]] 0 false false
 nu:Own g 1 u 1 (pl.map ci)
 ou:Own g 1 v 1 (Y.map cu)
 ne:∀i,vid u=some i->vid v≠some i
 ni:NumI n num Y
section
variable {d n:Nat}{a b u v:AV}{num:Nat->Nat}{pl:List Int}
theorem wi {Q:QT}{t:T}{g:G}{Y:List Nat}{i:Nat}{ps:List UInt8}{rows:List (List AV)}(n6:n<=6)(hN:Num n pl num)(hi:i<n)(hip:i<ps.length)(ra:∀h,aw h 1 a=some rows)(rl:rows.length=ps.length)(rg:∀(k:Nat) (x:UInt8),ps[k]?=some x->rows[k]?=some [.int .u8 (x.toNat:Int)])
  (hD:GD a b u v n num pl Y g) (ht:St t ((9,.int .i64 (i:Int))::LGp n u v)) (h10:tat t 10=.int .i64 0) (h11:tat t 11=.int .i64 0)
  (fin:∀t g' Y',St t ((9,.int .i64 (i:Int))::LGp n u v)->GD a b u v n num pl Y' g'->g.nx<=g'.nx->Q (.exit 4) t [] g'):wpL (wp C0 d none cd) Q t [] g:=by
 simp only[cd,d5]
 refine qG i (by omega) (fun k t df g'=>df=[]/\g.nx<=g'.nx/\St t ((9,.int .i64 (i:Int))::LGp n u v)/\(∃c:Int,0<=c/\c<=3/\tat t 10=.int .i64 c)/\∃Y',GD a b u v n num pl Y' g')
  ⟨rfl,Nat.le_refl _,ht,⟨0,by omega,by omega,h10⟩,Y,hD⟩ h11 (by decide)
  (by rintro k t df g v s (rfl | rfl | rfl) ⟨a1,a0,⟨b1,b2,b3,b4,b5,-⟩,⟨c,c1,c2,c3⟩,a2⟩<;>exact ⟨a1,a0,by simp[St,LGp,sx,b1,b2,b3,b4,b5],⟨c,c1,c2,by simp[sx,c3]⟩,a2⟩) ?_ ?_ ?_
 ·rintro k t df g' hk ⟨rfl,hn,⟨h9,h1,h3,h4,h8,-⟩,⟨c,c1,c2,h10⟩,Y',hD⟩ h11
  simp only[sz,simprocAttr,h9,h11]
  exact ⟨hn,by simp[St,LGp,sx,h1,h3,h4,h8,h9],⟨c,c1,c2,h10⟩,Y',hD⟩
 ·rintro k t df g1 hk ⟨rfl,hn,⟨h9,h1,h3,h4,h8,-⟩,⟨c,c1,c2,h10⟩,Y',hD⟩ h11
  obtain ⟨x,hx⟩:∃x,ps[i]?=some x:=⟨_,List.getElem?_eq_getElem hip⟩
  have hx8:x.toNat<256:=x.toNat_lt
  have hrx:=rg i x hx
  have hlt:i<rows.length:=by omega
  obtain ⟨z1,s1⟩:=wg x.toNat k
  obtain ⟨z2,s2⟩:=w7 z1 1
  have s2:aT .and (.int .u8 (z1:Int)) (.int .u8 1)=.val (.int .u8 z2):=s2
  have wk:IntKind.wrap .u64 (k:Int)=(k:Int):=eZ (by omega) (by omega)
  have lg1:aP (.cells 2 [[a,b]] 0 false false) 0 0 false 1 0=.val a:=rfl
  have ry:nc a=true:=qr (ra .nil) hlt
  by_cases e1:z2=1
  ·by_cases e2:c<3
   ·subst e1
    have hpl:=hN.at_ i hi
    have hpk:=hN.at_ k (by omega)
    have hnl:=hN.lt i hi
    have hkl:=hN.lt k (by omega)
    have q1:(pl.map ci)[i]?=some (ci (num i:Int)):=by rw[List.getElem?_map,hpl];rfl
    have q2:(pl.map ci)[k]?=some (ci (num k:Int)):=by rw[List.getElem?_map,hpk];rfl
    have z1:i<(pl.map ci).length:=by rw[List.length_map,hN.len];exact hi
    have z2:k<(pl.map ci).length:=by rw[List.length_map,hN.len];omega
    have rn:=hD.nu.rows
    have ro:=hD.ou.rows
    obtain ⟨y,hy⟩:∃y,Y'[num i]?=some y:=⟨_,List.getElem?_eq_getElem (by rw[hD.ni.l];exact hnl)⟩
    have q3:(Y'.map cu)[num i]?=some (cu y):=by rw[List.getElem?_map,hy];rfl
    have z3:num i<(Y'.map cu).length:=by rw[List.length_map,hD.ni.l];exact hnl
    have hG:=zx hN (by omega) (by omega) hD.ni
    have hyl:y<18446744073709551616:=by
     have:=hG.hp y (List.mem_of_getElem? hy)
     have:=jQ hG.l8
     omega
    have hsh:aT .shl (.int .u64 1) (.int .u64 (num k:Int))=.val (.int .u64 ((2 ^ num k:Nat):Int)):=by rw[aW,dM (by omega)]
    have h2k:(2:Nat) ^ num k<=2 ^ 6:=Nat.pow_le_pow_right (by decide) (by omega)
    have wn:IntKind.wrap .u64 (num k:Int)=(num k:Int):=eZ (by omega) (by omega)
    have wc:IntKind.wrap .i64 (c+1)=c+1:=g6 (by omega) (by omega)
    have hni:=ya hN hD.ni hi hk hy
    simp only[sz,simprocAttr,sf,h1,h4,h8,h9,h10,h11,hD.h0,lg1,ra,hlt,hrx,ry,wk,s1,s2,e2,rn,ro,q1,q2,q3,z1,z2,z3,ci,cu,wn,hsh,gw y _ hyl (show (2:Nat) ^ num k<18446744073709551616 by omega)]
    refine mu (v:=v) (sz:=1) (n:=1) (i:=num i) (off:=0) (x:=.int .u64 ((y ||| 2 ^ num k:Nat):Int)) (row':=cu (y ||| 2 ^ num k)) (hD.ou.fr (by simp;omega) fun i _=>by simp) q3 rfl rfl rfl fun g4 hu4 n4 f4=>?_
    rw[show ((Y'.map cu).set (num i) (cu (y ||| 2 ^ num k)))=(Y'.set (num i) (y ||| 2 ^ num k)).map cu from by rw[<-List.map_set]] at hu4
    have f4':∀i,vid v≠some i->g4.h.get i=g1.h.get i:=fun i hi=>by rw[f4 i hi];simp
    have n4':g1.nx<=g4.nx:=by rw[n4];simp;omega
    simp only[sz,simprocAttr,h10,wc]
    refine ⟨?_,?_⟩
    ·simp only[List.reverse_cons,List.reverse_nil,List.nil_append,List.cons_append]
     exact gC [false,false,false,false,false,false,false,false,false,false,false,false,false,false,false,false,false,false,false,false,true] [] (by simp[All2,an,aM]) (by decide) (by simp)
    refine ⟨⟨by omega,by simp[St,LGp,sx,h1,h3,h4,h8,h9],⟨c+1,by omega,by omega,rfl⟩,_,⟨?_,?_,?_,hD.ne,hni⟩⟩,h11⟩
    ·simp only[bumpG_h]
     rw[f4' 0 fun e=>by have:=(hD.ou.lt e).1;omega,hD.h0]
    ·exact hD.nu.fr (by simp;omega) fun i hi=>by simp only[bumpG_h];exact f4' i (hD.ne i hi)
    ·exact hu4.fr (by simp) fun i _=>by simp
   ·simp only[sz,simprocAttr,h1,h8,h9,h10,h11,hD.h0,lg1,ra,hlt,hrx,ry,wk,s1,s2,e1,e2]
    exact ⟨hn,by simp[St,LGp,sx,h1,h3,h4,h8,h9],⟨c,c1,c2,rfl⟩,Y',hD⟩
  ·simp only[sz,simprocAttr,h1,h8,h9,h11,hD.h0,lg1,ra,hlt,hrx,ry,wk,s1,s2,e1]
   exact ⟨hn,by simp[St,LGp,sx,h1,h3,h4,h8,h9],⟨c,c1,c2,h10⟩,Y',hD⟩
 ·rintro t df g' ⟨rfl,hn,ht,-,Y',hD⟩
  exact fin t g' Y' ht hD hn
theorem wQ {Q:QT}{t:T}{g:G}{Y:List Nat}{ps:List UInt8}{rows:List (List AV)}(n6:n<=6)(hN:Num n pl num)(al:∀g,fp .slice a g=.val (.int .i64 (ps.length:Int)))(ra:∀h,aw h 1 a=some rows)(rl:rows.length=ps.length)(rg:∀(k:Nat) (x:UInt8),ps[k]?=some x->rows[k]?=some [.int .u8 (x.toNat:Int)])
  (hD:GD a b u v n num pl Y g) (ht:St t (LGp n u v)) (h9:tat t 9=.int .i64 0)
  (fin:∀t g' Y',St t (LGp n u v)->GD a b u v n num pl Y' g'->Q (.exit 2) t [] g'):wpL (wp C0 d none cq) Q t [] g:=by
 simp only[cq,eg]
 have lg1:aP (.cells 2 [[a,b]] 0 false false) 0 0 false 1 0=.val a:=rfl
 refine qG (min n ps.length) (by omega) (fun i t df g'=>df=[]/\St t (LGp n u v)/\∃Y',GD a b u v n num pl Y' g')
  ⟨rfl,ht,Y,hD⟩ h9 (by decide)
  (by rintro k t df g v s (rfl | rfl | rfl) ⟨a1,⟨b1,b2,b3,b4,-⟩,a2⟩<;>exact ⟨a1,by simp[St,LGp,sx,b1,b2,b3,b4],a2⟩) ?_ ?_ ?_
 ·rintro i t df g' hk ⟨rfl,⟨h1,h3,h4,h8,-⟩,Y',hD⟩ h9
  by_cases c1:i<n
  ·simp only[sz,simprocAttr,h1,h3,h9,hD.h0,lg1,al,show (i:Int)<(n:Int) from by omega]
   refine ⟨?_,by simp[St,LGp,sx,h1,h3,h4,h8],Y',hD⟩
   congr 1
   exact decide_eq_decide.2 (by omega)
  ·simp only[sz,simprocAttr,h3,h9,show ¬(i:Int)<(n:Int) from by omega]
   refine ⟨?_,by simp[St,LGp,sx,h1,h3,h4,h8],Y',hD⟩
   congr 1
   exact (decide_eq_false (by omega)).symm
 ·rintro i t df g1 hk ⟨rfl,⟨h1,h3,h4,h8,-⟩,Y',hD⟩ h9
  simp only[sz,simprocAttr]
  refine wi (i:=i) (ps:=ps) n6 hN (by omega) (by omega) ra rl rg hD (by simp[St,LGp,sx,h1,h3,h4,h8,h9]) (by simp[sx]) (by simp[sx]) ?_
  rintro t g' Y' ⟨h9,ht⟩ hD hn
  simp only[sz,simprocAttr]
  exact ⟨⟨ht,Y',hD⟩,h9⟩
 ·rintro t df g' ⟨rfl,ht,Y',hD⟩
  exact fin t g' Y' ht hD
theorem xw {Q:QT}{t:T}{g:G}{os:List UInt8}{rows:List (List AV)}(n6:n<=6)(bl:∀g,fp .slice b g=.val (.int .i64 (os.length:Int)))(rb:∀h,aw h 1 b=some rows)(rl:rows.length=os.length)(rg:∀(k:Nat) (x:UInt8),os[k]?=some x->rows[k]?=some [.int .u8 (x.toNat:Int)])
  (h0:g.h.get 0=.cells 2 [[a,b]] 0 false false) (hn1:1<=g.nx) (ht:St t [(1,.hptr 0 0 0 0),(3,.int .i64 (n:Int)),(4,.nils)]) (h5:tat t 5=.int .i64 0)
  (fin:∀t g' u,St t [(1,.hptr 0 0 0 0),(3,.int .i64 (n:Int)),(4,u)]->g'.h.get 0=.cells 2 [[a,b]] 0 false false->1<=g'.nx->Own g' 1 u 1 ((S.ak os n).map ci)->Q (.exit 0) t [] g'):wpL (wp C0 d none cp) Q t [] g:=by
 simp only[cp,d4]
 have lg2:aP (.cells 2 [[a,b]] 0 false false) 0 0 false 1 1=.val b:=rfl
 refine qG n (by omega) (fun j t df g=>df=[]/\g.h.get 0=.cells 2 [[a,b]] 0 false false/\1<=g.nx/\∃u,St t [(1,.hptr 0 0 0 0),(3,.int .i64 (n:Int)),(4,u)]/\Own g 1 u 1 ((S.ak os j).map ci))
  ⟨rfl,h0,hn1,.nils,ht,.inl ⟨rfl,rfl⟩⟩ h5 (by decide)
  (by rintro k t df g v s (rfl | rfl | rfl) ⟨a1,a2,a3,u,⟨b1,b2,b3,-⟩,a4⟩<;>exact ⟨a1,a2,a3,u,by simp[St,sx,b1,b2,b3],a4⟩) ?_ ?_ ?_
 ·rintro j t df g hj ⟨rfl,hg,hnx,u,⟨h1,h3,h4,-⟩,hu⟩ h5
  simp only[sz,simprocAttr,h3,h5]
  exact ⟨hg,hnx,u,by simp[St,sx,h1,h3,h4],hu⟩
 ·rintro j t df g hj ⟨rfl,hg,hnx,u,⟨h1,h3,h4,-⟩,hu⟩ h5
  have hpl:((S.ak os j).map ci).length=j:=by rw[List.length_map,jf]
  have hle:S.aN os j<=j:=by
   unfold S.aN;split
   ·have:=Nat.mod_lt ((os[j]?.map UInt8.toNat).getD 0) (show 0<j+1 by omega);omega
   ·omega
  have key:∀(t:T) (Q:QT),St t [(1,.hptr 0 0 0 0),(3,.int .i64 (n:Int)),(4,u)]->tat t 5=.int .i64 (j:Int)->tat t 6=.int .i64 (S.aN os j:Int) ->
    (∀(t':T) (g':G),(∃u,St t' [(1,.hptr 0 0 0 0),(3,.int .i64 (n:Int)),(4,u)]/\Own g' 1 u 1 ((S.ak os (j+1)).map ci))->tat t' 5=.int .i64 (j:Int)->g'.h.get 0=.cells 2 [[a,b]] 0 false false->1<=g'.nx->Q .norm t' [] g') ->
    wp C0 d none cg Q t [] g:=by
   rintro t Q ⟨h1,h3,h4,-⟩ h5 h6 kk
   obtain ⟨y1,s1,w1⟩:=tH hu (n:=S.aN os j) (by omega)
   simp only[sz,simprocAttr,cg,h4,h6,List.head?_nil,List.head?_cons,s1]
   refine ge (rows:=[]) (b:=1) (.inl ⟨rfl,rfl⟩) w1 hnx (by simp[eA];omega) fun v1 g1 hv1 n1 f1 vid1 _=>?_
   simp only[sz,simprocAttr,h5]
   refine ge (new:=[ci (j:Int)]) (hv1.step (Fr.new _ _)) (by simp[sx,sy,ci]) (by simp) (by simp[eA,jf];omega) fun v2 g2 hv2 n2 f2 vid2 _=>?_
   have hu1:Own g1 1 u 1 ((S.ak os j).map ci):=hu.fr n1 fun i hi=>f1 i (hu.lt hi).2 (by simp[vid])
   have hnv:∀i,i<g.nx->vid v1≠some i:=fun i hi e=>by
    rcases vid1 with h | ⟨i',h,hi'⟩
    ·rw[h] at e;cases e
    ·rw[h] at e;injection e with e;omega
   have hu2:Own g2 1 u 1 ((S.ak os j).map ci):=hu1.fr (by simp at n2;omega) fun i hi=>by
    have hlt:=(hu.lt hi).2
    rw[f2 i (by simp;omega) (hnv i hlt),G.new_h,cO _ _ _ (by omega)]
   obtain ⟨y2,s2,w2⟩:=tU hu2 (n:=S.aN os j) (by omega)
   simp only[sz,simprocAttr,h4,h6,List.head?_nil,List.head?_cons,s2]
   refine ge hv2 w2 (by simp at n2;omega) (by simp[eA,jf];omega) fun v3 g3 hv3 n3 f3 _ _=>?_
   simp only[sz,simprocAttr]
   refine kk _ _ ⟨v3,by simp[St,sx,h1,h3],?_⟩ (by simp[sx,h5]) ?_ (by simp at n2;omega)
   ·simpa [S.ak,List.map_take,List.map_drop] using hv3
   ·rw[f3 0 (by simp at n2;omega) (fun e=>by have:=(hv2.lt e).1;omega),f2 0 (by simp) (hnv 0 (by omega)),G.new_h,cO _ _ _ (by omega),f1 0 (by omega) (by simp[vid]),hg]
  by_cases hb:j<os.length
  ·obtain ⟨y,hy⟩:∃y,os[j]?=some y:=⟨_,List.getElem?_eq_getElem hb⟩
   have z1:=rg j y hy
   have hy8:y.toNat<256:=y.toNat_lt
   have hlt:j<rows.length:=by omega
   have ry:nc b=true:=qr (rb .nil) hlt
   have hat:((S.aN os j:Nat):Int)=(y.toNat:Int) % ((j:Int)+1):=by
    unfold S.aN;rw[if_pos hb,hy];simp
   simp only[sz,simprocAttr,h1,h5,hg,lg2,bl,show (j:Int)<(os.length:Int) from by omega,rb,hlt,z1,ry,g6 (show -9223372036854775808<=(y.toNat:Int) by omega) (show (y.toNat:Int)<9223372036854775808 by omega),g6 (show -9223372036854775808<=(j:Int)+1 by omega) (show (j:Int)+1<9223372036854775808 by omega),qO .i64 (show (0:Int)<=(y.toNat:Int) by omega) (show 0<(j:Int)+1 by omega)]
   refine key _ _ (by simp[St,sx,h1,h3,h4]) (by simp[sx,h5]) (by simp[sx,hat]) fun t' g' eu e5 e0 en=>?_
   simp only[sy,e5,e0]
   exact ⟨en,eu⟩
  ·have hat:S.aN os j=0:=by unfold S.aN;rw[if_neg hb]
   simp only[sz,simprocAttr,h1,h5,hg,lg2,bl,show ¬(j:Int)<(os.length:Int) from by omega]
   refine key _ _ (by simp[St,sx,h1,h3,h4]) (by simp[sx,h5]) (by simp[sx,hat]) fun t' g' eu e5 e0 en=>?_
   simp only[sy,e5,e0]
   exact ⟨en,eu⟩
 ·rintro t df g ⟨rfl,hg,hnx,u,ht,hu⟩
  exact fin t g u ht hg hnx hu
theorem v6 {k:Nat}{g:G}{P:Nat->Prop}{v:AV}{x:tl}(hd:0<d)(hm:Agg x P k g.h v) :
  ∃r,aL C0 d N.aF [v] g=.val r/\Cq NoP 0 .nil r:=by
 obtain ⟨v',e,cs,rfl,hc⟩:=xI (vL x) (by decide) d hm
 obtain ⟨_,_,rfl,hA',hB'⟩:=gO.1 hc
 obtain ⟨a,rfl,hA⟩:=be.1 hA'
 obtain ⟨b,rfl,hB⟩:=be.1 hB'
 obtain ⟨rows,r1,r2,r3,r4⟩:=hB.all
 have r1:∀h',aw h' 1 b=some rows:=r1
 obtain ⟨rows2,q1,q2,q3,q4⟩:=hA.all
 have q1:∀h',aw h' 1 a=some rows2:=q1
 have rg:∀(k:Nat) (y:UInt8),x.2[k]?=some y->rows[k]?=some [.int .u8 (y.toNat:Int)]:=fun k y hy=>by
  obtain ⟨row,z1,z2⟩:=r3 k y hy
  rw[z1,zh.1 z2]
 have qg:∀(k:Nat) (y:UInt8),x.1[k]?=some y->rows2[k]?=some [.int .u8 (y.toNat:Int)]:=fun k y hy=>by
  obtain ⟨row,z1,z2⟩:=q3 k y hy
  rw[z1,zh.1 z2]
 obtain ⟨n,hn⟩:∃n,n=min (max x.1.length 1) 6:=⟨_,rfl⟩
 have n1:1<=n:=by omega
 have n6:n<=6:=by omega
 obtain ⟨num,hN⟩:=BI x.2 n
 rw[iF]
 refine fL jv (xs:=[.agg ([a]++[b])]) (by simp only[aD,e]) (by simp[dm]) (Aw fun o=>dD _) (by decide) hd ?_
 have lg1:aP (.cells 2 [[a,b]] 0 false false) 0 0 false 1 0=.val a:=rfl
 simp only[sz,simprocAttr,dm,eC,List.cons_append,List.nil_append,lg1,hA.len]
 have en:min (max (x.1.length:Int) 1) 6=(n:Int):=by omega
 rw[en]
 refine xw (a:=a) (b:=b) (n:=n) (os:=x.2) n6 hB.len r1 r2 rg (by simp[sx]) (by simp) (by simp[St,sx]) (by simp[sx]) ?_
 rintro t g u ⟨h1,h3,h4,-⟩ g0 hnx hu
 simp only[sz,simprocAttr,d_,h3]
 refine vA (b:=1) (n:=n) (bytes:=8) (sz:=1) (zero:=[.int .u64 0]) (by unfold eA;omega) (by unfold eA;omega) hnx fun w g1 hw n1' f1 hvid=>?_
 have hN0:NumI n num (List.replicate n 0):=we
 have e0:(List.replicate n [AV.int .u64 0])=(List.replicate n 0).map cu:=by rw[List.map_replicate];rfl
 rw[e0] at hw
 have hD:GD a b u w n num (S.ak x.2 n) (List.replicate n 0) g1:=⟨by rw[f1 0 (by omega),g0],hu.fr (by omega) fun i hi=>f1 i (hu.lt hi).2,hw,fun i hi e=>by rw[hvid] at e;injection e with e;have:=(hu.lt hi).2;omega,hN0⟩
 simp only[sz,simprocAttr]
 refine wQ (ps:=x.1) n6 hN hA.len q1 q2 qg hD (by simp[St,LGp,sx,h1,h3,h4]) (by simp[sx]) ?_
 rintro t g' Y' ⟨-,-,-,h8,-⟩ hD
 simp only[sz,simprocAttr,eh,h8]
 have hG:=zx hN n1 (by omega) hD.ni
 refine ⟨fun _=>True,Y',⟨hG,by rw[hD.ni.l];exact n6⟩,_,rfl,hD.ou.nats' (by rw[hD.ni.l];omega) fun y hy=>?_⟩
 have:=hG.hp y hy
 have:=jQ hG.l8
 omega
end
end
end Hx
end
section
namespace Hx
open Go
noncomputable section
theorem xq {p l:List Nat}:S.aB p l=0↔GOk p/\S.ax p.length l 0=true:=by
 rw[S.aB]
 cases h1:S.aA p with
 | false=>simp;intro h;rw[gS.2 h] at h1;cases h1
 | true =>
  cases h2:S.ax p.length l 0 with
  | false=>simp
  | true=>simp[gS.1 h1]
theorem qY {p:List Nat}{x y z:Nat}(hG:GOk p)(hx:x<2 ^ p.length)(hy:y<2 ^ p.length)(hz:z<2 ^ p.length)(h1:y &&& x=0)(h2:z &&& x=0)(h3:z &&& y=0):S.aB p [x,y,z]=0:=by
 refine xq.2 ⟨hG,A3.2 ⟨hx,hy,h1,hz,?_⟩⟩
 exact ox.2 fun v h=>(uv.1 h.2).elim (fun h'=>ox.1 h2 v ⟨h.1,h'⟩) fun h'=>ox.1 h3 v ⟨h.1,h'⟩
theorem zD {p:List Nat}{x y z:Nat}(hG:GOk p)(hx:x<2 ^ p.length)(hy:y<2 ^ p.length)(hz:z<2 ^ p.length)(h1:y &&& x=0)(h2:z &&& x=0)(h3:z &&& y=0):S.aR p x y z=true↔Apt p x y z:=by
 rw[S.aR,qY hG hx hy hz h1 h2 h3,<-zR hy]
 simp only[decide_true,Bool.true_and,S.aL]
 exact ⟨of_decide_eq_true,fun h=>decide_eq_true h⟩
def S.aO (n:Nat)(x y:Int)(zs seen:Nat):Bool:=S.aM n x y&&decide (zs<2 ^ n)&&decide (seen<2 ^ n)&&!zs.testBit x.toNat&&!zs.testBit y.toNat
def S.af (p:List Nat)(x y:Int)(zs seen:Nat):Int:=if S.aA p then (if S.aO p.length x y zs seen then 0 else 2) else 70
def S.au (p:List Nat)(a b zs:Nat):Bool:=decide (S.dn p (2 ^ a) p.length &&& zs=0)&&S.aR (S.wo p (2 ^ a)) (2 ^ a) (2 ^ b) zs
theorem lG {n:Nat}{x y:Int}:S.aM n x y=true↔∃a b:Nat,x=a/\y=b/\a<n/\b<n/\a≠b:=by
 rw[S.aM,decide_eq_true_iff]
 constructor
 ·rintro ⟨h1,h2,h3,h4,h5⟩
  exact ⟨x.toNat,y.toNat,by omega,by omega,by omega,by omega,by omega⟩
 ·rintro ⟨a,b,rfl,rfl,h1,h2,h3⟩
  exact ⟨by omega,by omega,by omega,by omega,by omega⟩
theorem wD {p:List Nat}{x y:Int}{zs seen:Nat}(h:S.af p x y zs seen=0):GOk p/\∃a b:Nat,x=a/\y=b/\a<p.length/\b<p.length/\a≠b/\zs<2 ^ p.length/\zs.testBit a=false/\zs.testBit b=false:=by
 unfold S.af at h
 split at h
 ·rename_i hG
  split at h
  ·rename_i ha
   simp only[S.aO,Bool.and_eq_true,decide_eq_true_iff,Bool.not_eq_true'] at ha
   obtain ⟨⟨⟨⟨h1,h2⟩,-⟩,h3⟩,h4⟩:=ha
   obtain ⟨a,b,rfl,rfl,h5,h6,h7⟩:=lG.1 h1
   exact ⟨gS.1 hG,a,b,rfl,rfl,h5,h6,h7,h2,h3,h4⟩
  ·cases h
 ·cases h
theorem sV {p:List Nat}:S.aB p []=if S.aA p then 0 else 70:=by
 unfold S.aB
 cases S.aA p<;>rfl
theorem tW {d:Nat}{g:G}{v:AV}{p:List Nat}{x y:Int}{zs:Nat}(hd:0<d)(hv:SlR NoP 0 .nil p v)(hz:zs<18446744073709551616) :
  aL C0 d N.aD [v,.int .i64 x,.int .i64 y,.int .u64 (zs:Int)] g=.val (.int .i64 (S.af p x y zs 0)):=by
 have e:=iJ (h:=g.h) d (hv.tree (h':=g.h) (Nat.le_refl 0))
 have kc:=fun g=>pf (d:=d+1) (g:=g) (Nat.succ_pos d) hv
 have lp:=hv.len
 have kt:=fun g=>mG (d:=d+1) (n:=p.length) (g:=g) (x:=x) (y:=y) (Nat.succ_pos d)
 rw[sV] at kc
 rw[lI]
 refine gV mS (xs:=[v,.int .i64 x,.int .i64 y,.int .u64 (zs:Int)]) (by simp only[aD,e,cI]) (by simp[bI]) hd ?_
 cases hG:S.aA p with
 | false =>
  have:S.af p x y zs 0=70:=by rw[S.af,hG];rfl
  rw[hG] at kc
  simp only[sz,simprocAttr,bI,kc,this]
 | true =>
  rw[hG] at kc
  have hE:S.af p x y zs 0=if S.aO p.length x y zs 0 then 0 else 2:=by rw[S.af,hG];rfl
  cases h2:S.aM p.length x y with
  | false =>
   have:S.af p x y zs 0=2:=by rw[hE,S.aO,h2];rfl
   simp only[sz,simprocAttr,bI,kc,lp,kt,h2,this]
  | true =>
   obtain ⟨a,b,rfl,rfl,ha,hb,hab⟩:=lG.1 h2
   by_cases c:zs<2 ^ p.length
   ·have hsa:=aH .i64 zs a hz
    have hsb:=aH .i64 zs b hz
    have ho:=gw (zs / 2 ^ a) (zs / 2 ^ b) (Nat.lt_of_le_of_lt (Nat.div_le_self _ _) hz) (Nat.lt_of_le_of_lt (Nat.div_le_self _ _) hz)
    have ho2:aT .and (.int .u64 ((zs / 2 ^ a ||| zs / 2 ^ b:Nat):Int)) (.int .u64 1)=.val (.int .u64 (((zs / 2 ^ a ||| zs / 2 ^ b) &&& 1:Nat):Int)):=bW (zs / 2 ^ a ||| zs / 2 ^ b) 1 (rB (Nat.lt_of_le_of_lt (Nat.div_le_self _ _) hz) (Nat.lt_of_le_of_lt (Nat.div_le_self _ _) hz)) (by decide)
    have hbit:(zs / 2 ^ a ||| zs / 2 ^ b) &&& 1=if zs.testBit a || zs.testBit b then 1 else 0:=by
     have h1:∀{s v:Nat},s / 2 ^ v &&& 1=if s.testBit v then 1 else 0:=vB
     rw[Nat.and_or_distrib_right,h1,h1]
     cases zs.testBit a<;>cases zs.testBit b<;>rfl
    rw[hbit] at ho2
    have hA:S.aO p.length a b zs 0 = !(zs.testBit a || zs.testBit b):=by
     simp only[S.aO,h2,c,Int.toNat_natCast,decide_true,Bool.true_and,Bool.and_true,Nat.two_pow_pos,Bool.not_or]
    cases ht:zs.testBit a || zs.testBit b with
    | true =>
     have:S.af p a b zs 0=2:=by rw[hE,hA,ht];rfl
     rw[ht,if_pos rfl] at ho2
     have ho2:aT .and (.int .u64 ((zs / 2 ^ a ||| zs / 2 ^ b:Nat):Int)) (.int .u64 1)=.val (.int .u64 1):=ho2
     simp only[sz,simprocAttr,bI,kc,lp,kt,h2,aH _ _ _ hz,ea,c,ho,ho2,this]
    | false =>
     have:S.af p a b zs 0=0:=by rw[hE,hA,ht];rfl
     rw[ht,if_neg (by decide)] at ho2
     have ho2:aT .and (.int .u64 ((zs / 2 ^ a ||| zs / 2 ^ b:Nat):Int)) (.int .u64 1)=.val (.int .u64 0):=ho2
     simp only[sz,simprocAttr,bI,kc,lp,kt,h2,aH _ _ _ hz,ea,c,ho,ho2,this]
   ·have:S.af p a b zs 0=2:=by rw[hE];simp[S.aO,c]
    simp only[sz,simprocAttr,bI,kc,lp,kt,h2,aH _ _ _ hz,ea,c,this]
theorem AN {n a:Nat}(h:a<n):2 ^ a<2 ^ n:=Nat.pow_lt_pow_right (by decide) h
theorem jx {a z:Nat}(h:z.testBit a=false):z &&& 2 ^ a=0:=ox.2 fun v hv=>by
 have h1:z.testBit v=true:=hv.1
 have h2:(2 ^ a).testBit v=true:=hv.2
 rw[Nat.testBit_two_pow,decide_eq_true_iff] at h2
 rw[<-h2,h] at h1;cases h1
theorem uB {a b:Nat}(h:a≠b):2 ^ a &&& 2 ^ b=0:=jx (by rw[Nat.testBit_two_pow];exact decide_eq_false h)
theorem mH {d:Nat}{g:G}{v:AV}{p:List Nat}{a b zs:Nat}(hd:0<d)(hv:SlR NoP 0 .nil p v)(hG:GOk p)(ha:a<p.length)(hb:b<p.length)(hab:a≠b)(hz:zs<2 ^ p.length)(hza:zs.testBit a=false)(hzb:zs.testBit b=false) :
  aL C0 d N.am [v,.int .i64 (a:Int),.int .i64 (b:Int),.int .u64 (zs:Int)] g=.val (.tup [.bool (S.au p a b zs),.int .i64 0]):=by
 have key:∃r,aL C0 d N.am [v,.int .i64 (a:Int),.int .i64 (b:Int),.int .u64 (zs:Int)] g=.val r/\qS (One (S.au p a b zs)) (One (0:Int)) NoP 0 .nil r:=by
  have e:=iJ (h:=g.h) d (hv.tree (h':=g.h) (Nat.le_refl 0))
  have n8:=hG.l8
  have h256:=jQ n8
  have hwo:=BF (s:=2 ^ a) hG
  have hwl:=l5 (p:=p) (2 ^ a)
  have hA:=AN ha
  have hB:=AN hb
  have hdn:=vp (p:=p) (s:=2 ^ a) hA p.length
  have kb:∀g,aL C0 (d+1) N.an [v,.int .i64 (a:Int),.int .u64 0] g=.val (.int .u64 (S.dn p (2 ^ a) p.length:Int)):=fun g=>by
   have:=xy (d:=d+1) (g:=g) (x:=a) (s:=0) (Nat.succ_pos d) (hv.tree (h':=g.h) (Nat.le_refl 0)) n8 ha (by decide)
   rw[z9] at this
   exact this
  have hsa:aT .shl (.int .u64 1) (.int .i64 (a:Int))=.val (.int .u64 ((2 ^ a:Nat):Int)):=by rw[aW,dM (by omega)]
  have hsb:aT .shl (.int .u64 1) (.int .i64 (b:Int))=.val (.int .u64 ((2 ^ b:Nat):Int)):=by rw[aW,dM (by omega)]
  rw[ja]
  refine fL kJ (xs:=[v,.int .i64 (a:Int),.int .i64 (b:Int),.int .u64 (zs:Int)]) (by simp only[aD,e,cI]) (by simp[cN]) (i_ (m:=1) (dD _) (dD _) (by decide) (by decide)) (by decide) hd ?_
  by_cases c:S.dn p (2 ^ a) p.length &&& zs=0
  ·have hc:((S.dn p (2 ^ a) p.length &&& zs:Nat):Int)=0:=by omega
   simp only[sz,simprocAttr,cN,kb,bW _ zs (show S.dn p (2 ^ a) p.length<18446744073709551616 by omega) (show zs<18446744073709551616 by omega),hc,hsa,hsb]
   refine nP (s_ (Nat.succ_pos d) (hv.tree (Nat.le_refl 0)) n8 hG.l1 (show 2 ^ a<18446744073709551616 by omega)) fun r hr=>?_
   obtain ⟨_,er,hr⟩:=be.1 hr
   injection er with er
   subst er
   have kA:=fun g=>wu (d:=d+1) (g:=g) (Nat.succ_pos d) hr (show 2 ^ a<18446744073709551616 by omega) (show 2 ^ b<18446744073709551616 by omega) (show zs<18446744073709551616 by omega)
   have h0:=qY hwo (x:=2 ^ a) (y:=2 ^ b) (z:=zs) (by rw[hwl];exact hA) (by rw[hwl];exact hB) (by rw[hwl];exact hz) (uB (Ne.symm hab)) (jx hza) (jx hzb)
   rw[h0] at kA
   simp only[sz,simprocAttr,kA,hsa,hsb]
   exact ⟨fun _=>True,_,_,rfl,gR.2 (by rw[S.au,decide_eq_true c];rfl),dH.2 rfl⟩
  ·have hc:¬((S.dn p (2 ^ a) p.length &&& zs:Nat):Int)=0:=by omega
   simp only[sz,simprocAttr,cN,kb,bW _ zs (show S.dn p (2 ^ a) p.length<18446744073709551616 by omega) (show zs<18446744073709551616 by omega),hc]
   exact ⟨fun _=>True,_,_,rfl,gR.2 (by rw[S.au,decide_eq_false c];rfl),dH.2 rfl⟩
 obtain ⟨r,h1,a',b',rfl,h2,h3⟩:=key
 have h2:=gR.1 h2
 have h3:=dH.1 h3
 injection h2 with h2
 injection h3 with h3
 rw[h1,h2,h3]
theorem kX {d:Nat}{g:G}{v:AV}{p:List Nat}{x y:Int}{zs:Nat}(hd:0<d)(hv:SlR NoP 0 .nil p v)(hz:zs<18446744073709551616) :
  aL C0 d N.af [v,.int .i64 x,.int .i64 y,.int .u64 (zs:Int)] g=.val (.tup [.bool (decide (S.af p x y zs 0=0)&&S.au p x.toNat y.toNat zs),.int .i64 (S.af p x y zs 0)]):=by
 have key:∃r,aL C0 d N.af [v,.int .i64 x,.int .i64 y,.int .u64 (zs:Int)] g=.val r/\qS (One (decide (S.af p x y zs 0=0)&&S.au p x.toNat y.toNat zs)) (One (S.af p x y zs 0)) NoP 0 .nil r:=by
  have e:=iJ (h:=g.h) d (hv.tree (h':=g.h) (Nat.le_refl 0))
  have kc:=fun g=>tW (d:=d+1) (g:=g) (x:=x) (y:=y) (Nat.succ_pos d) hv hz
  rw[jo]
  refine fL kp (xs:=[v,.int .i64 x,.int .i64 y,.int .u64 (zs:Int)]) (by simp only[aD,e,cI]) (by simp[cJ]) (i_ (m:=1) (dD _) (dD _) (by decide) (by decide)) (by decide) hd ?_
  by_cases c:S.af p x y zs 0=0
  ·obtain ⟨hG,a,b,rfl,rfl,ha,hb,hab,hzl,hza,hzb⟩:=wD c
   have kB:=fun g=>mH (d:=d+1) (g:=g) (Nat.succ_pos d) hv hG ha hb hab hzl hza hzb
   simp only[sz,simprocAttr,cJ,kc,c,kB]
   exact ⟨fun _=>True,_,_,rfl,gR.2 (by simp),dH.2 rfl⟩
  ·simp only[sz,simprocAttr,cJ,kc,c]
   exact ⟨fun _=>True,_,_,rfl,gR.2 (by simp),dH.2 rfl⟩
 obtain ⟨r,h1,a',b',rfl,h2,h3⟩:=key
 have h2:=gR.1 h2
 have h3:=dH.1 h3
 injection h2 with h2
 injection h3 with h3
 rw[h1,h2,h3]
def S.aF (x:Nat):Nat->Nat
 | 0=>0
 | k+1=>S.aF x k+(if x.testBit k then 1 else 0)
def S.ae (x:Nat):Nat:=S.aF x 8
theorem uK (x:Nat):∀k,S.aF x k<=k
 | 0=>Nat.le_refl _
 | k+1=>by
  have:=uK x k
  rw[S.aF]
  split<;>omega
theorem mf {q z:Nat}(h:Sub q z):∀k,S.aF q k<=S.aF z k
 | 0=>Nat.le_refl _
 | k+1=>by
  have ih:=mf h k
  rw[S.aF,S.aF]
  cases hq:q.testBit k with
  | false=>simp;omega
  | true=>rw[h k hq];omega
theorem uH {q z i:Nat}(h:Sub q z)(h1:z.testBit i=true)(h2:q.testBit i=false):∀k,i<k->S.aF q k<S.aF z k
 | 0,hi=>absurd hi (Nat.not_lt_zero _)
 | k+1,hi=>by
  rw[S.aF,S.aF]
  by_cases e:i=k
  ·subst e
   have:=mf h i
   rw[h1,h2];simp;omega
  ·have ih:=uH h h1 h2 k (by omega)
   cases hq:q.testBit k with
   | false=>simp;omega
   | true=>rw[h k hq];omega
theorem si {x n:Nat}(h:x<2 ^ n):∀k,n<=k->S.aF x k=S.aF x n
 | 0,hk=>by
  have:n=0:=by omega
  subst this;rfl
 | k+1,hk=>by
  by_cases e:n=k+1
  ·subst e;rfl
  ·rw[S.aF,si h k (by omega)]
   have:x.testBit k=false:=Nat.testBit_lt_two_pow (Nat.lt_of_lt_of_le h (Nat.pow_le_pow_right (by decide) (show n<=k by omega)))
   rw[this];simp
theorem B2 {x n:Nat}(h:x<2 ^ n)(n8:n<=8):S.ae x<=n:=by
 rw[S.ae,si h 8 n8];exact uK x n
theorem yl {q z:Nat}(h:Sub q z):S.ae q<=S.ae z:=mf h 8
theorem AL {q z:Nat}(h:Sub q z)(hne:q≠z)(hz:z<256):S.ae q<S.ae z:=by
 have:∃i,z.testBit i=true/\q.testBit i=false:=by
  apply Classical.byContradiction
  intro hno
  refine hne (Nat.eq_of_testBit_eq fun i=>?_)
  cases hq:q.testBit i with
  | true=>rw[h i hq]
  | false =>
   cases hzi:z.testBit i with
   | false=>rfl
   | true=>exact absurd ⟨i,hzi,hq⟩ hno
 obtain ⟨i,h1,h2⟩:=this
 have hi:i<8:=by
  apply Classical.byContradiction
  intro hi
  have:z.testBit i=false:=Nat.testBit_lt_two_pow (Nat.lt_of_lt_of_le hz (show 2 ^ 8<=2 ^ i from Nat.pow_le_pow_right (by decide) (by omega)))
  rw[this] at h1;cases h1
 exact uH h h1 h2 8 hi
theorem nQ {q z:Nat}:q ^^^ (q &&& z)=0↔Sub q z:=by
 constructor
 ·intro h v hv
  apply Classical.byContradiction
  intro hz
  have:Bt (q ^^^ (q &&& z)) v:=lE.2 ⟨hv,hz⟩
  rw[h,Bt,Nat.zero_testBit] at this;cases this
 ·intro h
  refine Nat.eq_of_testBit_eq fun v=>?_
  rw[Nat.zero_testBit]
  cases hb:(q ^^^ (q &&& z)).testBit v with
  | false=>rfl
  | true =>
   have:=lE.1 (show Bt _ v from hb)
   exact absurd (h v this.1) this.2
def S.am (q z:Nat):Bool:=decide (q ^^^ (q &&& z)=0)
theorem iE {q z:Nat}:S.am q z=true↔Sub q z:=by rw[S.am,decide_eq_true_iff];exact nQ
section
variable {p:List Nat}{a b seen:Nat}
def S.ay (p:List Nat)(a b seen t:Nat):Bool:=S.am t seen&&(S.au p a b t&&(List.range t).all fun q=>!(S.am q t&&S.au p a b q))
def S.aw (p:List Nat)(a b seen k z:Nat):List Nat:=(List.range z).filter fun t=>decide (S.ae t=k)&&S.ay p a b seen t
def S.an (p:List Nat)(a b seen:Nat):Nat->List Nat
 | 0=>[]
 | k+1=>S.an p a b seen k++S.aw p a b seen k (2 ^ p.length)
theorem ei {t:Nat}:S.ay p a b seen t=true↔Sub t seen/\S.au p a b t=true/\∀q,q<t->Sub q t->S.au p a b q=false:=by
 simp only[S.ay,Bool.and_eq_true,iE,List.all_eq_true,List.mem_range,Bool.not_eq_true']
 refine ⟨fun ⟨h1,h2,h3⟩=>⟨h1,h2,fun q hq hs=>?_⟩,fun ⟨h1,h2,h3⟩=>⟨h1,h2,fun q hq=>?_⟩⟩
 ·have:=h3 q hq
  rw[iE.2 hs,Bool.true_and] at this
  exact this
 ·cases hs:S.am q t with
  | false=>rfl
  | true=>rw[Bool.true_and];exact h3 q hq (iE.1 hs)
theorem xi {k:Nat}:S.aw p a b seen k 0=[]:=rfl
theorem pS {k z:Nat}:S.aw p a b seen k (z+1)=S.aw p a b seen k z++if decide (S.ae z=k)&&S.ay p a b seen z then [z] else []:=by
 rw[S.aw,List.range_succ,List.filter_append]
 congr 1
 cases h:decide (S.ae z=k)&&S.ay p a b seen z<;>simp[h]
theorem nF {k z t:Nat}:t∈S.aw p a b seen k z↔t<z/\S.ae t=k/\S.ay p a b seen t=true:=by
 simp[S.aw]
theorem lC {k t:Nat}:t∈S.an p a b seen k↔S.ae t<k/\t<2 ^ p.length/\S.ay p a b seen t=true:=by
 induction k with
 | zero=>simp[S.an]
 | succ k ih =>
  rw[S.an,List.mem_append,ih,nF]
  constructor
  ·rintro (⟨h1,h2,h3⟩ | ⟨h1,h2,h3⟩)
   ·exact ⟨by omega,h2,h3⟩
   ·exact ⟨by omega,h1,h3⟩
  ·rintro ⟨h1,h2,h3⟩
   by_cases c:S.ae t<k
   ·exact .inl ⟨c,h2,h3⟩
   ·exact .inr ⟨h2,by omega,h3⟩
theorem zC:∀m q,q<=m->Sub q seen->S.au p a b q=true->∃t,Sub t q/\S.ay p a b seen t=true:=by
 intro m
 induction m with
 | zero =>
  intro q hq hs hb
  have:q=0:=by omega
  subst this
  exact ⟨0,fun _ h=>h,ei.2 ⟨hs,hb,fun q hq=>absurd hq (Nat.not_lt_zero _)⟩⟩
 | succ m ih =>
  intro q hq hs hb
  by_cases c:∀q',q'<q->Sub q' q->S.au p a b q'=false
  ·exact ⟨q,fun _ h=>h,ei.2 ⟨hs,hb,c⟩⟩
  ·simp only[Classical.not_forall] at c
   obtain ⟨q',h1,h2,h3⟩:=c
   obtain ⟨t,h4,h5⟩:=ih q' (by omega) (fun v hv=>hs v (h2 v hv)) (by rwa [Bool.not_eq_false] at h3)
   exact ⟨t,fun v hv=>h2 v (h4 v hv),h5⟩
theorem x9 {q z n:Nat}(h:Sub q z)(hz:z<2 ^ n):q<2 ^ n:=Nat.lt_of_le_of_lt (kw h) hz
theorem yE {k z:Nat}(n8:p.length<=8)(hz:z<2 ^ p.length)(hk:S.ae z=k)(hs:Sub z seen) :
  S.ay p a b seen z=(!((S.an p a b seen k++S.aw p a b seen k z).any fun t=>S.am t z)&&S.au p a b z):=by
 have h256:=jQ n8
 cases hany:(S.an p a b seen k++S.aw p a b seen k z).any fun t=>S.am t z with
 | true =>
  simp only[Bool.not_true,Bool.false_and]
  obtain ⟨t,ht,hpt⟩:=List.any_eq_true.1 hany
  have hsub:=iE.1 hpt
  have hle:=kw hsub
  have hm:S.ay p a b seen t=true/\t≠z:=by
   rcases List.mem_append.1 ht with h | h
   ·have:=lC.1 h
    exact ⟨this.2.2,fun e=>by subst e;omega⟩
   ·have:=nF.1 h
    exact ⟨this.2.2,fun e=>by omega⟩
  rw[<-Bool.not_eq_true]
  intro hmz
  have:=(ei.1 hmz).2.2 t (by omega) hsub
  rw[(ei.1 hm.1).2.1] at this;cases this
 | false =>
  simp only[Bool.not_false,Bool.true_and]
  cases hb:S.au p a b z with
  | false =>
   rw[<-Bool.not_eq_true]
   intro hmz
   rw[(ei.1 hmz).2.1] at hb;cases hb
  | true =>
   refine ei.2 ⟨hs,hb,fun q hq hsub=>?_⟩
   rw[<-Bool.not_eq_true]
   intro hbq
   obtain ⟨t,h1,h2⟩:=zC q q (Nat.le_refl _) (fun v hv=>hs v (hsub v hv)) hbq
   have htz:Sub t z:=fun v hv=>hsub v (h1 v hv)
   have htle:=kw h1
   have hlt:=AL htz (by omega) (by omega)
   have:t∈S.an p a b seen k:=lC.2 ⟨by omega,x9 htz hz,h2⟩
   have h3:=List.any_eq_false.1 hany t (List.mem_append.2 (.inl this))
   exact h3 (iE.2 htz)
end
end
end Hx
end
section
namespace Hx
open Go
noncomputable section
def S.aT (x:Nat):Nat:=(x / 2 ^ 1 &&& 6148914691236517205)+(x &&& 6148914691236517205)
def S.aV (x:Nat):Nat:=(x / 2 ^ 2 &&& 3689348814741910323)+(x &&& 3689348814741910323)
def S.ba (x:Nat):Nat:=(x / 2 ^ 4+x) &&& 1085102592571150095
theorem B7:∀x:Nat,x<256->S.aT x<256/\S.aV (S.aT x)<256/\S.ba (S.aV (S.aT x))<256/\S.ba (S.aV (S.aT x))=S.ae x/\S.ae x &&& 127=S.ae x/\S.ae x<=8:=by decide +kernel
theorem B5 (q:Nat)(h:q<=8):aT .and (.int .i64 (q:Int)) (.int .i64 127)=.val (.int .i64 (q:Int)) :=
 match q,h with
 | 0,_=>by kernel_rfl
 | 1,_=>by kernel_rfl
 | 2,_=>by kernel_rfl
 | 3,_=>by kernel_rfl
 | 4,_=>by kernel_rfl
 | 5,_=>by kernel_rfl
 | 6,_=>by kernel_rfl
 | 7,_=>by kernel_rfl
 | 8,_=>by kernel_rfl
theorem Ag {d x:Nat}{g:G}(hd:0<d)(hx:x<256):aL C0 d N.aI [.int .u64 (x:Int)] g=.val (.int .i64 (S.ae x:Int)):=by
 obtain ⟨h1,h2,h3,h4,h5,h6⟩:=B7 x hx
 rw[gK]
 refine gV ii (xs:=[.int .u64 (x:Int)]) (by simp only[aD,cI]) (by simp[cm]) hd ?_
 have s1:∀x:Nat,x<256->aT .shr (.int .u64 (x:Int)) (.int .u64 1)=.val (.int .u64 ((x / 2 ^ 1:Nat):Int)):=fun x h=>aH .u64 x 1 (by omega)
 have s2:∀x:Nat,x<256->aT .shr (.int .u64 (x:Int)) (.int .u64 2)=.val (.int .u64 ((x / 2 ^ 2:Nat):Int)):=fun x h=>aH .u64 x 2 (by omega)
 have s3:∀x:Nat,x<256->aT .shr (.int .u64 (x:Int)) (.int .u64 4)=.val (.int .u64 ((x / 2 ^ 4:Nat):Int)):=fun x h=>aH .u64 x 4 (by omega)
 have s4:∀x:Nat,x<256->aT .shr (.int .u64 (x:Int)) (.int .u64 8)=.val (.int .u64 0):=fun x h=>by
  have:=aH .u64 x 8 (by omega)
  rw[Nat.div_eq_of_lt (by omega)] at this;exact this
 have s5:∀x:Nat,x<256->aT .shr (.int .u64 (x:Int)) (.int .u64 16)=.val (.int .u64 0):=fun x h=>by
  have:=aH .u64 x 16 (by omega)
  rw[Nat.div_eq_of_lt (by omega)] at this;exact this
 have s6:∀x:Nat,x<256->aT .shr (.int .u64 (x:Int)) (.int .u64 32)=.val (.int .u64 0):=fun x h=>by
  have:=aH .u64 x 32 (by omega)
  rw[Nat.div_eq_of_lt (by omega)] at this;exact this
 have d1:∀x k:Nat,x<256->x / 2 ^ k<256:=fun x k h=>Nat.lt_of_le_of_lt (Nat.div_le_self _ _) h
 have a1:∀x:Nat,x<256->aT .and (.int .u64 (x:Int)) (.int .u64 6148914691236517205)=.val (.int .u64 ((x &&& 6148914691236517205:Nat):Int)):=fun x h=>bW x 6148914691236517205 (by omega) (by decide)
 have a2:∀x:Nat,x<256->aT .and (.int .u64 (x:Int)) (.int .u64 3689348814741910323)=.val (.int .u64 ((x &&& 3689348814741910323:Nat):Int)):=fun x h=>bW x 3689348814741910323 (by omega) (by decide)
 have a3:∀x:Nat,x<512->aT .and (.int .u64 (x:Int)) (.int .u64 1085102592571150095)=.val (.int .u64 ((x &&& 1085102592571150095:Nat):Int)):=fun x h=>bW x 1085102592571150095 (by omega) (by decide)
 have w1:IntKind.wrap .u64 (((x / 2 ^ 1 &&& 6148914691236517205:Nat):Int)+((x &&& 6148914691236517205:Nat):Int))=((S.aT x:Nat):Int):=by
  rw[S.aT] at h1
  rw[eZ (by omega) (by omega),S.aT];omega
 obtain ⟨y,hy⟩:∃y,y=S.aT x:=⟨_,rfl⟩
 rw[<-hy] at h1 h2 h3 h4 w1
 have w2:IntKind.wrap .u64 (((y / 2 ^ 2 &&& 3689348814741910323:Nat):Int)+((y &&& 3689348814741910323:Nat):Int))=((S.aV y:Nat):Int):=by
  rw[S.aV] at h2
  rw[eZ (by omega) (by omega),S.aV];omega
 obtain ⟨z,hz⟩:∃z,z=S.aV y:=⟨_,rfl⟩
 rw[<-hz] at h2 h3 h4 w2
 have hz4:=d1 z 4 h2
 have w3:IntKind.wrap .u64 (((z / 2 ^ 4:Nat):Int)+(z:Int))=((z / 2 ^ 4+z:Nat):Int):=by rw[eZ (by omega) (by omega)];omega
 have a3z:=a3 (z / 2 ^ 4+z) (by omega)
 rw[show z / 2 ^ 4+z &&& 1085102592571150095=S.ba z from rfl,h4] at a3z
 rw[h4] at h3
 have w4:IntKind.wrap .u64 ((S.ae x:Int)+0)=(S.ae x:Int):=by rw[eZ (by omega) (by omega)];omega
 have w5:IntKind.wrap .i64 (S.ae x:Int)=(S.ae x:Int):=g6 (by omega) (by omega)
 have a4:=B5 (S.ae x) h6
 simp only[sz,simprocAttr,cm,s1 x hx,a1 _ (d1 x 1 hx),a1 x hx,w1,s2 y h1,a2 _ (d1 y 2 h1),a2 y h1,w2,s3 z h2,w3,a3z,s4 _ h3,s5 _ h3,s6 _ h3,w4,w5,a4]
theorem Be {d x:Nat}{g:G}(hd:0<d)(hx:x<256):aL C0 d N.ay [.int .u64 (x:Int)] g=.val (.int .i64 (S.ae x:Int)):=by
 rw[ik]
 refine gV iW (xs:=[.int .u64 (x:Int)]) (by simp only[aD,cI]) (by simp[cQ]) hd ?_
 have k:=fun g=>Ag (d:=d+1) (g:=g) (Nat.succ_pos d) hx
 simp only[sz,simprocAttr,cQ,k]
structure LeB (a b:Nat) (pa ch:AV) (r e:AV) (ms:List Nat) (h:H):Prop where
 x:h.get 0=.cells 1 [[.int .i64 (a:Int)]] 0 false false
 y:h.get 1=.cells 1 [[.int .i64 (b:Int)]] 0 false false
 r:h.get 2=.cells 1 [[r]] 0 false false
 e:h.get 3=.cells 1 [[e]] 0 false false
 g:h.get 4=.cells 2 [[pa,ch]] 0 false false
 m:∀m∈ms,h.get m=.dfr true
theorem oG {C:Cfg}{d:Nat}{rd:Option Nat}{body:SC}{c ti tn k B b:Nat}{Q:QT}{m:Nat}(hm:m<18446744073709551615)(J:Nat->PT){t:T}{df:List ADf}{g:G}
  (h0:J 0 t df g) (hi:tat t ti=.int .u64 0) (hn:tat t tn=.int .u64 (m:Int)) (hc:c≠ti/\c≠tn/\k≠tn/\ti≠tn/\b≠B)
  (hJ:∀j t df g v s,s=c\/s=ti\/s=k->J j t df g->J j (eB t s v) df g)
  (step:∀j t df g,j<m->J j t df g->tat t ti=.int .u64 (j:Int)->tat t tn=.int .u64 (m:Int) ->
   wp C d rd body (kR (fun t df g=>J (j+1) t df g/\tat t ti=.int .u64 (j:Int)/\tat t tn=.int .u64 (m:Int)) b Q) t df g)
  (fin:∀t df g,J m t df g->Q (.exit B) t df g) :
  wpL (wp C d rd (.seq (.ops [o c (.bin .lss (.t ti) (.t tn))]) (.seq (.cond (.t c) .skip (.exit B)) (.seq (.blk b body) (.ops [o k (.bin .add (.t ti) (.k (.int .u64 1))),o ti (.mv (.t k))]))))) Q t df g:=by
 obtain ⟨c1,c2,c3,c4,c5⟩:=hc
 refine qj (fun n t df g=>∃j:Nat,n=m - j/\j<=m/\J j t df g/\tat t ti=.int .u64 (j:Int)/\tat t tn=.int .u64 (m:Int)) m ⟨0,by omega,by omega,h0,hi,hn⟩ ?_
 rintro n t df g ⟨j,rfl,hj,hjj,h1,h2⟩
 simp only[sx,SO.run,↓reduceIte,h1,h2]
 refine ⟨fun hq=>?_,fun hq=>?_⟩
 ·have hlt:j<m:=by simpa using hq
  simp only[sx]
  refine ef _ (step j _ df g hlt (hJ _ _ _ _ _ _ (.inl rfl) hjj) (by simp only[ib];rw[if_neg (Ne.symm c1),h1]) (by simp only[ib];rw[if_neg (Ne.symm c2),h2])) fun e t df g h=>?_
  have key:J (j+1) t df g/\tat t ti=.int .u64 (j:Int)/\tat t tn=.int .u64 (m:Int)->wp C d rd (.ops [o k (.bin .add (.t ti) (.k (.int .u64 1))),o ti (.mv (.t k))])
    (kL (fun n t df g=>∃j:Nat,n=m - j/\j<=m/\J j t df g/\tat t ti=.int .u64 (j:Int)/\tat t tn=.int .u64 (m:Int)) (m - j) Q) t df g:=by
   rintro ⟨a1,a2,a3⟩
   simp only[sx,SO.run,a2,↓reduceIte]
   refine ⟨_,?_,j+1,rfl,by omega,hJ _ _ _ _ _ _ (.inr (.inl rfl)) (hJ _ _ _ _ _ _ (.inr (.inr rfl)) a1),?_,?_⟩
   ·omega
   ·rw[eZ (by omega) (by omega)];rfl
   ·rw[if_neg (Ne.symm c4),if_neg (Ne.symm c3),a3]
  cases e with
  | norm=>exact key h
  | ret=>exact h
  | exit x =>
   rw[jE] at h
   rw[jD]
   split at h
   ·rename_i e;rw[if_pos e];exact key h
   ·rename_i e;rw[if_neg e];exact h
 ·have:j=m:=by simp at hq;omega
  subst this
  simp only[sx]
  exact fin _ _ _ (hJ _ _ _ _ _ _ (.inl rfl) hjj)
theorem te {d k:Nat}{g:G}{P:Nat->Prop}{w:AV}{L:List Nat}{z:Nat}(hd:0<d)(hw:SlR P k g.h L w)(hz:z<18446744073709551616) :
  aL C0 d N.aq [.int .u64 (z:Int),w] g=.val (.bool (L.any fun t=>S.am t z)):=by
 obtain ⟨w',e,r1⟩:=qE hw d
 have hlt:=cx hw
 have wl:∀g,fp .slice w' g=.val (.int .i64 (L.length:Int)):=fun g=>(r1 .nil).len g
 have rt:=fun h=>(r1 h).nats
 rw[jR]
 refine nm li (xs:=[.int .u64 (z:Int),w']) (by simp only[aD,e,cI]) (by simp[eQ]) hd ?_
 simp only[sz,simprocAttr,eQ,wl,fA]
 refine bD (m:=L.length) hw.1 (fun j t df g=>df=[]/\St t [(0,.int .u64 (z:Int)),(7,w')]/\(L.take j).any (fun t=>S.am t z)=false) ⟨rfl,by simp[St,sx],by simp⟩ (by simp[sx]) (by simp[sx]) (by decide)
  (by rintro j t df g v s (rfl | rfl | rfl)<;>simp[sx,St]) ?_ ?_
 ·rintro j t df g hj ⟨rfl,⟨h0,h7,-⟩,hno⟩ h9 h8
  obtain ⟨y,hy,htk,hm⟩:=cZ hj
  have hyl:=hlt y hm
  have z1:j<(L.map cu).length:=by simpa using hj
  have z2:(L.map cu)[j]?=some (cu y):=by rw[List.getElem?_map,hy];rfl
  by_cases c:y ^^^ (y &&& z)=0
  ·have hp:S.am y z=true:=decide_eq_true c
   have:(L.any fun t=>S.am t z)=true:=List.any_eq_true.2 ⟨y,hm,hp⟩
   have c':((y ^^^ (y &&& z):Nat):Int)=0:=by omega
   simp only[sz,simprocAttr,h0,h7,h9,rt,z1,z2,cu,bp y z hyl hz,c',this]
  ·have hp:S.am y z=false:=decide_eq_false c
   have c':¬((y ^^^ (y &&& z):Nat):Int)=0:=by omega
   simp only[sz,simprocAttr,h0,h7,h9,rt,z1,z2,cu,bp y z hyl hz,c']
   refine ⟨⟨by simp[St,sx,h0,h7],?_⟩,h8⟩
   rw[htk,List.any_append,hno]
   simp[hp]
 ·rintro t df g ⟨rfl,-,hno⟩
  rw[List.take_length] at hno
  simp only[sz,simprocAttr,fB,hno]
theorem rF {p:List Nat}{a b seen k:Nat}(z:Nat):(S.aw p a b seen k z).length<=z:=by
 have:=List.length_filter_le (fun t=>decide (S.ae t=k)&&S.ay p a b seen t) (List.range z)
 rw[List.length_range] at this
 exact this
theorem qN {p:List Nat}{a b seen:Nat}:∀k,(S.an p a b seen k).length<=k*2 ^ p.length
 | 0=>Nat.zero_le _
 | k+1=>by
  have h1:=qN (p:=p) (a:=a) (b:=b) (seen:=seen) k
  have h2:=rF (p:=p) (a:=a) (b:=b) (seen:=seen) (k:=k) (2 ^ p.length)
  rw[S.an,List.length_append,Nat.succ_mul]
  omega
def S.aC (seen a b:Nat):Nat:=seen ^^^ (seen &&& (2 ^ a ||| 2 ^ b))
def S.aI (p:List Nat)(a b seen:Nat):List Nat:=S.an p a b (S.aC seen a b) (S.ae (S.aC seen a b)+1)
def S.aU (p:List Nat)(x y:Int)(seen:Nat):List Nat:=if S.af p x y 0 seen=0 then S.aI p x.toNat y.toNat seen else []
theorem sB {seen a b:Nat}{v:Nat}(h:Bt (S.aC seen a b) v):v≠a/\v≠b:=by
 have:=(lE.1 h).2
 rw[uv] at this
 constructor
 ·rintro rfl;exact this (.inl (by rw[Bt,Nat.testBit_two_pow];simp))
 ·rintro rfl;exact this (.inr (by rw[Bt,Nat.testBit_two_pow];simp))
theorem Ai {z seen a b:Nat}(h:Sub z (S.aC seen a b)):z.testBit a=false/\z.testBit b=false:=by
 constructor
 ·cases hb:z.testBit a with
  | false=>rfl
  | true=>exact absurd rfl (sB (h a hb)).1
 ·cases hb:z.testBit b with
  | false=>rfl
  | true=>exact absurd rfl (sB (h b hb)).2
def LBd (v:AV)(s a b:Nat):List (Nat×AV):=[(0,v),(1,.int .u64 (s:Int)),(2,.int .i64 (a:Int)),(3,.int .i64 (b:Int))]
theorem B3 {d:Nat}{Q:QT}{t:T}{g:G}{v u:AV}{p:List Nat}{a b seen s j M:Nat}(hd:0<d)(hv:SlR NoP 0 .nil p v)(hG:GOk p)(ha:a<p.length)(hb:b<p.length)(hab:a≠b)(hs:s=S.aC seen a b)(hsl:s<2 ^ p.length)(hj:j<=8)
  (ht:St t ((12,.int .i64 (j:Int))::(45,.int .i64 (j:Int))::(44,.int .i64 (M:Int))::LBd v s a b)) (h11:tat t 11=u) (h50:tat t 50=.int .u64 ((2 ^ p.length:Nat):Int)) (h51:tat t 51=.int .u64 0)
  (hO:Own g 0 u 1 ((S.an p a b s j).map cu))
  (fin:∀t g' u',St t ((45,.int .i64 (j:Int))::(44,.int .i64 (M:Int))::LBd v s a b)->tat t 11=u'->Own g' 0 u' 1 ((S.an p a b s (j+1)).map cu)->Q (.exit 2) t [] g'):wpL (wp C0 d none cH) Q t [] g:=by
 simp only[cH,eE]
 have n8:=hG.l8
 have h256:=jQ n8
 refine oG (m:=2 ^ p.length) (by omega) (fun z t df g'=>df=[]/\St t ((12,.int .i64 (j:Int))::(45,.int .i64 (j:Int))::(44,.int .i64 (M:Int))::LBd v s a b)/\∃u,tat t 11=u/\Own g' 0 u 1 ((S.an p a b s j++S.aw p a b s j z).map cu))
  ⟨rfl,ht,u,h11,by rw[xi,List.append_nil];exact hO⟩ h51 h50 (by decide)
  (by rintro k t df g v s (rfl | rfl | rfl) ⟨a1,⟨b1,b2,b3,b4,b5,b6,b7,-⟩,u,a2,a3⟩<;>exact ⟨a1,by simp[St,LBd,sx,b1,b2,b3,b4,b5,b6,b7],u,by simp[sx,a2],a3⟩) ?_ ?_
 ·clear ht h11 h50 h51 hO u
  rintro z t df g1 hz ⟨rfl,⟨h12,h45,h44,h0,h1,h2,h3,-⟩,u,h11,hO⟩ h51 h50
  have hz64:z<18446744073709551616:=by omega
  have hs64:s<18446744073709551616:=by omega
  have hmem:∀y∈S.an p a b s j++S.aw p a b s j z,y<18446744073709551616:=fun y hy=>by
   rcases List.mem_append.1 hy with h | h
   ·have:=(lC.1 h).2.1;omega
   ·have:=(nF.1 h).1;omega
  have hlen:(S.an p a b s j++S.aw p a b s j z).length<=2304:=by
   have e1:=qN (p:=p) (a:=a) (b:=b) (seen:=s) j
   have e2:=rF (p:=p) (a:=a) (b:=b) (seen:=s) (k:=j) z
   have e3:j*2 ^ p.length<=8*256:=Nat.mul_le_mul hj h256
   rw[List.length_append];omega
  have stay:S.ay p a b s z=false\/S.ae z≠j->S.aw p a b s j (z+1)=S.aw p a b s j z:=fun h=>by
   rw[pS]
   have:(decide (S.ae z=j)&&S.ay p a b s z)=false:=by
    rcases h with h | h
    ·rw[h,Bool.and_false]
    ·rw[decide_eq_false h,Bool.false_and]
   rw[this];simp
  have kO:=fun g=>Be (d:=d) (g:=g) hd (x:=z) (by omega)
  by_cases c1:z ^^^ (z &&& s)=0
  ·have hsub:=nQ.1 c1
   have c1':((z ^^^ (z &&& s):Nat):Int)=0:=by omega
   by_cases c2:S.ae z=j
   ·have c2':decide ((S.ae z:Int)=(j:Int))=true:=decide_eq_true (by omega)
    have hF:=yE (a:=a) (b:=b) n8 hz c2 hsub
    have hsf:=Ai (a:=a) (b:=b) (seen:=seen) (by rw[<-hs];exact hsub)
    have kH:aL C0 d N.aq [.int .u64 (z:Int),u] g1=.val (.bool ((S.an p a b s j++S.aw p a b s j z).any fun t=>S.am t z)):=te hd (hO.nats' (by omega) hmem) hz64
    have kB:=fun g=>mH (d:=d) (g:=g) hd hv hG ha hb hab hz hsf.1 hsf.2
    cases hany:(S.an p a b s j++S.aw p a b s j z).any fun t=>S.am t z with
    | true =>
     rw[hany] at kH hF
     simp only[sz,simprocAttr,h1,h11,h12,h51,bp z s hz64 hs64,c1',kO,c2',kH]
     exact ⟨⟨by simp[St,LBd,sx,h0,h1,h2,h3,h12,h44,h45],u,rfl,by rw[stay (.inl hF)];exact hO⟩,h50⟩
    | false =>
     rw[hany,Bool.not_false,Bool.true_and] at hF
     rw[hany] at kH
     cases hbd:S.au p a b z with
     | true =>
      rw[hbd] at kB hF
      simp only[sz,simprocAttr,h0,h1,h2,h3,h11,h12,h51,bp z s hz64 hs64,c1',kO,c2',kH,kB]
      refine ge (new:=[cu z]) (hO.step (Fr.new _ _)) (by simp[sx,sy,cu]) (by simp) (by rw[List.length_map,eA];simp;simp at hlen;omega) fun v2 g2 hv2 n2 f2 _ l2=>?_
      simp only[sz,simprocAttr,h51]
      have:S.an p a b s j++S.aw p a b s j (z+1)=(S.an p a b s j++S.aw p a b s j z)++[z]:=by
       rw[pS,hF,decide_eq_true c2,List.append_assoc];rfl
      exact ⟨⟨by simp[St,LBd,sx,h0,h1,h2,h3,h12,h44,h45],v2,rfl,by rw[this,List.map_append];exact hv2⟩,h50⟩
     | false =>
      rw[hbd] at kB hF
      simp only[sz,simprocAttr,h0,h1,h2,h3,h11,h12,h51,bp z s hz64 hs64,c1',kO,c2',kH,kB]
      exact ⟨⟨by simp[St,LBd,sx,h0,h1,h2,h3,h12,h44,h45],u,rfl,by rw[stay (.inl hF)];exact hO⟩,h50⟩
   ·have c2':decide ((S.ae z:Int)=(j:Int))=false:=decide_eq_false (by omega)
    simp only[sz,simprocAttr,h1,h11,h12,h51,bp z s hz64 hs64,c1',kO,c2']
    exact ⟨⟨by simp[St,LBd,sx,h0,h1,h2,h3,h12,h44,h45],u,rfl,by rw[stay (.inr c2)];exact hO⟩,h50⟩
  ·have c1':¬((z ^^^ (z &&& s):Nat):Int)=0:=by omega
   have hF:S.ay p a b s z=false:=by
    rw[<-Bool.not_eq_true]
    intro h
    exact c1 (nQ.2 (ei.1 h).1)
   simp only[sz,simprocAttr,h1,h11,h12,h51,bp z s hz64 hs64,c1']
   exact ⟨⟨by simp[St,LBd,sx,h0,h1,h2,h3,h12,h44,h45],u,rfl,by rw[stay (.inl hF)];exact hO⟩,h50⟩
 ·rintro t df g' ⟨rfl,⟨-,ht⟩,u',h11,hO⟩
  exact fin t g' u' ht h11 hO
theorem jL {p:List Nat}{x y:Int}{seen:Nat}:S.af p x y 0 seen=if S.aA p then (if S.aM p.length x y&&decide (seen<2 ^ p.length) then 0 else 2) else 70:=by
 have:S.aO p.length x y 0 seen=(S.aM p.length x y&&decide (seen<2 ^ p.length)):=by
  simp only[S.aO,Nat.zero_testBit,Nat.two_pow_pos,decide_true,Bool.and_true,Bool.not_false]
 rw[S.af,this]
theorem ql {d:Nat}{g:G}{v:AV}{p:List Nat}{x y:Int}{seen:Nat}(hd:0<d)(hv:SlR NoP 0 .nil p v)(hs:seen<18446744073709551616) :
  ∃r,aL C0 d N.aC [v,.int .u64 (seen:Int),.int .i64 x,.int .i64 y] g=.val r/\qS (One (S.aU p x y seen)) (One (S.af p x y 0 seen)) NoP 0 .nil r:=by
 have e:=iJ (h:=g.h) d (hv.tree (h':=g.h) (Nat.le_refl 0))
 have kc:=fun g=>pf (d:=d+1) (g:=g) (Nat.succ_pos d) hv
 have lp:=hv.len
 have kt:=fun g=>mG (d:=d+1) (n:=p.length) (g:=g) (x:=x) (y:=y) (Nat.succ_pos d)
 rw[sV] at kc
 have bad:∀{h:H} {c:Int},S.af p x y 0 seen=c->c≠0->∃P,qS (One (S.aU p x y seen)) (One (S.af p x y 0 seen)) P 0 h (.tup [.nils,.int .i64 c]):=fun h1 h2 =>
  ⟨fun _=>True,_,_,rfl,be.2 ⟨_,rfl,by rw[S.aU,if_neg (by rw[h1];exact h2)];exact ⟨by show 0<9223372036854775808;decide,rfl⟩⟩,by rw[h1];exact dH.2 rfl⟩
 rw[iV]
 refine fL jS (xs:=[v,.int .u64 (seen:Int),.int .i64 x,.int .i64 y]) (by simp only[aD,e,cI]) (by simp[bg]) (i_ (m:=1) (dD _) (dD _) (by decide) (by decide)) (by decide) hd ?_
 cases hG:S.aA p with
 | false =>
  have:S.af p x y 0 seen=70:=by rw[jL,hG];rfl
  rw[hG] at kc
  simp only[sz,simprocAttr,bg,kc]
  exact bad this (by decide)
 | true =>
  rw[hG] at kc
  by_cases c:seen<2 ^ p.length
  ·cases h2:S.aM p.length x y with
   | false =>
    have:S.af p x y 0 seen=2:=by rw[jL,hG,h2];rfl
    simp only[sz,simprocAttr,bg,kc,lp,kt,h2,aH _ _ _ hs,ea,c]
    exact bad this (by decide)
   | true =>
    have hE:S.af p x y 0 seen=0:=by rw[jL,hG,h2,decide_eq_true c];rfl
    obtain ⟨a,b,rfl,rfl,ha,hb,hab⟩:=lG.1 h2
    have hGo:=gS.1 hG
    have n8:=hGo.l8
    have h256:=jQ n8
    have hA:=AN ha
    have hB:=AN hb
    have hsa:aT .shl (.int .u64 1) (.int .i64 (a:Int))=.val (.int .u64 ((2 ^ a:Nat):Int)):=by rw[aW,dM (by omega)]
    have hsb:aT .shl (.int .u64 1) (.int .i64 (b:Int))=.val (.int .u64 ((2 ^ b:Nat):Int)):=by rw[aW,dM (by omega)]
    have hsn:aT .shl (.int .u64 1) (.int .i64 (p.length:Int))=.val (.int .u64 ((2 ^ p.length:Nat):Int)):=by rw[aW,dM (by omega)]
    have ho:=gw (2 ^ a) (2 ^ b) (by omega) (by omega)
    have hon:=bp seen (2 ^ a ||| 2 ^ b) hs (rB (by omega) (by omega))
    obtain ⟨s,hss⟩:∃s,s=S.aC seen a b:=⟨_,rfl⟩
    have hon:aT .andNot (.int .u64 (seen:Int)) (.int .u64 ((2 ^ a ||| 2 ^ b:Nat):Int))=.val (.int .u64 (s:Int)):=by rw[hss,S.aC];exact hon
    have hsl:s<2 ^ p.length:=by rw[hss,S.aC];exact qp c
    have kO:=fun g=>Be (d:=d+1) (g:=g) (Nat.succ_pos d) (x:=s) (by omega)
    have hpop:=B2 hsl n8
    have wp1:IntKind.wrap .i64 ((S.ae s:Int)+1)=((S.ae s+1:Nat):Int):=g6 (by omega) (by omega)
    simp only[sz,simprocAttr,bg,kc,lp,kt,h2,aH _ _ _ hs,ea,c,hsa,hsb,ho,hon,kO,wp1,eG,eF]
    refine bD (m:=S.ae s+1) (by omega) (fun j t df g=>df=[]/\St t (LBd v s a b)/\∃u,tat t 11=u/\Own g 0 u 1 ((S.an p a b s j).map cu)) ⟨rfl,by simp[St,LBd,sx],_,by simp[sx];rfl,.inr ⟨0,0,false,Nat.le_refl 0,by simp,rfl,by simp[sx,S.an]⟩⟩ (by simp[sx]) (by simp[sx]) (by decide)
     (by rintro k t df g v s (rfl | rfl | rfl) ⟨a1,⟨b1,b2,b3,b4,-⟩,u,a2,a3⟩<;>exact ⟨a1,by simp[St,LBd,sx,b1,b2,b3,b4],u,by simp[sx,a2],a3⟩) ?_ ?_
    ·rintro j t df g hj ⟨rfl,⟨h0,h1,h2,h3,-⟩,u,h11,hO⟩ h45 h44
     simp only[sz,simprocAttr,h0,h45,lp,hsn]
     refine B3 (u:=u) (j:=j) (M:=S.ae s+1) (seen:=seen) (Nat.succ_pos d) hv hGo ha hb hab hss hsl (by omega) (by simp[St,LBd,sx,h0,h1,h2,h3,h44,h45]) (by simp[sx,h11]) (by simp[sx]) (by simp[sx]) hO ?_
     rintro t g' u' ⟨h45,h44,h0,h1,h2,h3,-⟩ h11 hO
     simp only[sz,simprocAttr,h45]
     exact ⟨⟨by simp[St,LBd,sx,h0,h1,h2,h3],u',by simp[sx,h11],hO⟩,by simp[sx,h44]⟩
    ·rintro t df g ⟨rfl,-,u,h11,hO⟩
     simp only[sz,simprocAttr,eH,h11]
     have hl:S.aU p (a:Int) (b:Int) seen=S.an p a b s (S.ae s+1):=by rw[S.aU,if_pos hE,S.aI,Int.toNat_natCast,Int.toNat_natCast,<-hss]
     have hlen:=qN (p:=p) (a:=a) (b:=b) (seen:=s) (S.ae s+1)
     have hle:(S.ae s+1)*2 ^ p.length<=9*256:=Nat.mul_le_mul (by omega) h256
     rw[hl,hE]
     exact ⟨fun _=>True,_,_,rfl,be.2 ⟨_,rfl,hO.nats' (by omega) fun y hy=>by have:=(lC.1 hy).2.1;omega⟩,dH.2 rfl⟩
  ·have:S.af p x y 0 seen=2:=by rw[jL,hG,decide_eq_false c];simp
   simp only[sz,simprocAttr,bg,kc,lp,aH _ _ _ hs,ea,c]
   exact bad this (by decide)
theorem ji (v:Nat):Bt (2 ^ v)=fun x=>x=v:=funext fun x=>propext (by rw[Bt,Nat.testBit_two_pow,decide_eq_true_iff];exact eq_comm)
theorem Cd (p:List Nat)(v:Nat):Bt (Par p v)=fun u=>Eg p u v:=rfl
theorem ur {p:List Nat}(hp:∀x∈p,x<2 ^ p.length)(ha:S.aK p=true)(v:Nat):¬Eg p v v:=fun h=>by
 have:=mY hp ha v v h
 omega
theorem wW {p:List Nat}(hp:∀x∈p,x<2 ^ p.length)(ha:S.aK p=true){v y:Nat}(hv:v<p.length)(hy:∀u,Bt y u->¬Bt (S.dn p (2 ^ v) p.length) u):Apt p (2 ^ v) y (Par p v):=by
 intro u hu hr
 rw[ji,Cd] at hr
 have hd:=yO (mY hp ha) hr
 exact hy u hu ((xA hp (Nat.pow_lt_pow_right (by decide) hv) u).2 ⟨v,by rw[Nat.testBit_two_pow,decide_eq_true_iff],hd⟩)
theorem zV {n a b s:Nat}:s &&& (2 ^ a ||| 2 ^ b)=0↔s.testBit a=false/\s.testBit b=false:=by
 rw[ox]
 have e:∀v,Bt (2 ^ a ||| 2 ^ b) v↔v=a\/v=b:=fun v=>by
  rw[uv,ji,ji]
 constructor
 ·intro h
  refine ⟨?_,?_⟩<;>rw[<-Bool.not_eq_true]<;>intro hb
  ·exact h a ⟨hb,(e a).2 (.inl rfl)⟩
  ·exact h b ⟨hb,(e b).2 (.inr rfl)⟩
 ·rintro ⟨h1,h2⟩ v ⟨h3,h4⟩
  have h3:s.testBit v=true:=h3
  rcases (e v).1 h4 with rfl | rfl
  ·rw[h1] at h3;cases h3
  ·rw[h2] at h3;cases h3
theorem zQ {p:List Nat}(hG:GOk p){a b:Nat}(ha:a<p.length)(hb:b<p.length)(hab:a≠b)(hn:¬Bt (Par p a) b):S.au p a b (Par p a)=true:=by
 have hA:(2:Nat) ^ a<2 ^ p.length:=Nat.pow_lt_pow_right (by decide) ha
 have hB:(2:Nat) ^ b<2 ^ p.length:=Nat.pow_lt_pow_right (by decide) hb
 have w1:=BF (s:=2 ^ a) hG
 have l1:=l5 (p:=p) (2 ^ a)
 have hr:=mY hG.hp hG.ac
 have hno:¬Bt (Par p a) a:=ur hG.hp hG.ac a
 have hP:Par p a<2 ^ p.length:=by
  obtain ⟨x,hx,-,hm⟩:=cZ ha
  have:Par p a=x:=by simp[Par,hx]
  rw[this];exact hG.hp x hm
 have c1:S.dn p (2 ^ a) p.length &&& Par p a=0:=ox.2 fun u ⟨h1,h2⟩=>by
  obtain ⟨v,hv,hd⟩:=(xA hG.hp hA u).1 h1
  rw[Nat.testBit_two_pow,decide_eq_true_iff] at hv
  subst hv
  have e:Eg p u a:=h2
  have h3:=hr _ _ e
  rcases hd.rank hr with h | h
  ·subst h;exact hno h2
  ·omega
 have hpw:Par (S.wo p (2 ^ a)) a=Par p a:=Nat.eq_of_testBit_eq fun u=>by
  have key:Bt (Par (S.wo p (2 ^ a)) a) u↔Bt (Par p a) u:=by
   have h1:Bt (Par (S.wo p (2 ^ a)) a) u↔Bt (Par p a) u/\¬Bt (2 ^ a) u:=yn (s:=2 ^ a) (u:=u) (v:=a)
   rw[h1,ji]
   refine ⟨fun h=>h.1,fun h=>⟨h,fun e=>?_⟩⟩
   have e:u=a:=e
   subst e;exact hno h
  rw[Bool.eq_iff_iff];exact key
 have hap:Apt (S.wo p (2 ^ a)) (2 ^ a) (2 ^ b) (Par p a):=by
  have h:=wW (p:=S.wo p (2 ^ a)) (v:=a) (y:=2 ^ b) w1.hp w1.ac (by rw[l1];exact ha) (fun u hu hd=>by
   rw[ji] at hu
   have hu:u=b:=hu
   subst hu
   obtain ⟨v,hv,hd⟩:=(xA w1.hp (by rw[l1];exact hA) u).1 hd
   rw[Nat.testBit_two_pow,decide_eq_true_iff] at hv
   subst hv
   have hno:∀v,Ds (Eg (S.wo p (2 ^ a))) a v->v=a:=fun v h=>by
    clear hd
    have gen:∀u v,Ds (Eg (S.wo p (2 ^ a))) u v->u=a->v=a:=fun u v h=>by
     induction h with
     | rf=>exact id
     | st e _ ih =>
      intro h;subst h
      exact absurd (by rw[ji]) (yn.1 e).2
    exact gen a v h rfl
   exact hab (hno _ hd).symm)
  rw[hpw] at h;exact h
 have hz1:Par p a &&& 2 ^ a=0:=jx (by simpa [Bt] using hno)
 have hz2:Par p a &&& 2 ^ b=0:=jx (by simpa [Bt] using hn)
 rw[S.au,decide_eq_true c1,Bool.true_and]
 exact (zD w1 (by rw[l1];exact hA) (by rw[l1];exact hB) (by rw[l1];exact hP) (uB (Ne.symm hab)) hz1 hz2).2 hap
def S.aY (z:Nat)(l:List Nat):Bool:=l.any fun m=>decide (m≠z)&&S.am m z
def S.aX (z:Nat)(l:List Nat):Bool:=l.any fun m=>decide (m=z)
theorem m7 {p:List Nat}{a b seen t:Nat}(hs:seen<2 ^ p.length):t∈S.aI p a b seen↔S.ay p a b (S.aC seen a b) t=true:=by
 rw[S.aI,lC]
 refine ⟨fun h=>h.2.2,fun h=>?_⟩
 have hsub:=(ei.1 h).1
 have h1:=yl hsub
 exact ⟨by omega,x9 hsub (qp hs),h⟩
theorem w6 {p:List Nat}{a b seen z:Nat}(hs:seen<2 ^ p.length)(hz:Sub z (S.aC seen a b)) :
  S.aX z (S.aI p a b seen)=(S.au p a b z&&!S.aY z (S.aI p a b seen))/\(S.au p a b z=false->S.aX z (S.aI p a b seen)=false):=by
 have hmem:S.aX z (S.aI p a b seen)=true↔S.ay p a b (S.aC seen a b) z=true:=by
  rw[S.aX,List.any_eq_true]
  constructor
  ·rintro ⟨m,h1,h2⟩
   rw[decide_eq_true_iff] at h2;subst h2
   exact (m7 hs).1 h1
  ·exact fun h=>⟨z,(m7 hs).2 h,by simp⟩
 have hprt:S.aY z (S.aI p a b seen)=true↔∃m,S.ay p a b (S.aC seen a b) m=true/\m≠z/\Sub m z:=by
  rw[S.aY,List.any_eq_true]
  constructor
  ·rintro ⟨m,h1,h2⟩
   rw[Bool.and_eq_true,decide_eq_true_iff,iE] at h2
   exact ⟨m,(m7 hs).1 h1,h2⟩
  ·rintro ⟨m,h1,h2,h3⟩
   exact ⟨m,(m7 hs).2 h1,by rw[Bool.and_eq_true,decide_eq_true_iff,iE];exact ⟨h2,h3⟩⟩
 have iff:S.ay p a b (S.aC seen a b) z=true↔S.au p a b z=true/\¬∃m,S.ay p a b (S.aC seen a b) m=true/\m≠z/\Sub m z:=by
  constructor
  ·intro h
   obtain ⟨h1,h2,h3⟩:=ei.1 h
   refine ⟨h2,?_⟩
   rintro ⟨m,k1,k2,k3⟩
   have hle:=kw k3
   have:=h3 m (by omega) k3
   rw[(ei.1 k1).2.1] at this;cases this
  ·rintro ⟨h1,h2⟩
   refine ei.2 ⟨hz,h1,fun q hq hsub=>?_⟩
   cases hb:S.au p a b q with
   | false=>rfl
   | true =>
    obtain ⟨t,k1,k2⟩:=zC (seen:=S.aC seen a b) q q (Nat.le_refl _) (fun v hv=>hz v (hsub v hv)) hb
    have hle:=kw k1
    exact absurd ⟨t,k2,by omega,fun v hv=>hsub v (k1 v hv)⟩ h2
 constructor
 ·rw[Bool.eq_iff_iff,hmem,iff,Bool.and_eq_true,Bool.not_eq_true',<-Bool.not_eq_true,hprt]
 ·intro h
  rw[<-Bool.not_eq_true,hmem,iff,h]
  simp
def A4 (x:AV):Prop:=(∃k q,x=.int k q)\/∃b,x=.bool b
def ClV (f:Nat)(s:AV):VS:=fun P k h v=>∃p,v=.clo f [] [p]/\((∃id,p=.hptr id 0 0 0/\P id/\h.get id=.cells 1 [[s]] 0 false false)\/∃t,p=.tptr t 1 [[s]] 0 0/\t<=k)
theorem AU {h:H}{id:Nat}{x:AV}(hx:A4 x)(d j:Nat)(hg:h.get id=.cells 1 [[x]] 0 false false):Hx.snap h d (j+3) (.hptr id 0 0 0)=some (.tptr (Nat.max d 0) 1 [[x]] 0 0):=by
 rcases hx with ⟨k,q,rfl⟩ | ⟨b,rfl⟩ <;>
 ·simp only[Hx.snap,hg,show Nat.beq 0 0=true from rfl,aD]
  rfl
theorem B4 {f:Nat}{s:AV}(hs:A4 s):Snb (ClV f s) 4:=by
 refine ⟨fun {P k h v j} d r hn=>?_,fun {k h v j} r hn=>?_⟩
 ·obtain ⟨p,rfl,r1⟩:=r
  obtain ⟨j,rfl⟩:∃i,j=i+4:=⟨j - 4,by omega⟩
  obtain ⟨p',e1,s1⟩:∃p',Hx.snap h d (j+3) p=some p'/\∃t,p'=.tptr t 1 [[s]] 0 0/\t<=max k d:=by
   rcases r1 with ⟨id,rfl,-,hg⟩ | ⟨t,rfl,ht⟩
   ·exact ⟨_,AU hs d j hg,_,rfl,by show max d 0<=_;omega⟩
   ·exact ⟨_,rfl,_,rfl,by omega⟩
  refine ⟨.clo f [] [p'],?_,p',rfl,.inr s1⟩
  show (match aD (Hx.snap h d (j+3)) [],aD (Hx.snap h d (j+3)) [p] with | some as',some cs=>some (AV.clo f as' cs) | _,_=>none)=_
  simp only[aD,e1]
 ·obtain ⟨p,rfl,r1⟩:=r
  obtain ⟨j,rfl⟩:∃i,j=i+4:=⟨j - 4,by omega⟩
  rcases r1 with ⟨id,rfl,hP,-⟩ | ⟨t,rfl,ht⟩
  ·exact hP.elim
  exact ⟨Nat.max t 0,rfl,by show max t 0<=k;omega⟩
def wX (f:Nat)(s:AV):AV:=.clo f [] [.tptr 0 1 [[s]] 0 0]
theorem B9 {f:Nat}{s r:AV}(h:ClV f s NoP 0 .nil r):r=wX f s:=by
 obtain ⟨p,rfl,h2⟩:=h
 rcases h2 with ⟨id,rfl,hP,-⟩ | ⟨t,rfl,ht⟩
 ·exact hP.elim
 rw[show t=0 by omega];rfl
theorem Ca {C:Cfg}{d f:Nat}{l:List AV}{g:G}{r:AV}(h:((I C).call d f l g).sat fun v g'=>v=r/\g'=g):orF ((I C).call d f l g)=.upd r g:=by
 cases hc:(I C).call d f l g with
 | fail=>rw[hc] at h;exact h.elim
 | ok v g'=>rw[hc] at h;rw[show v=r from h.1,show g'=g from h.2];rfl
theorem BX {d:Nat}{g:G}{w:Bool}(hd:0<d):aL C0 d N.ak [.bool w] g=.val (wX N.ae (.bool w)):=by
 have key:∃r,aL C0 d N.ak [.bool w] g=.val r/\ClV N.ae (.bool w) NoP 0 .nil r:=by
  rw[lS]
  refine fL mW (xs:=[.bool w]) rfl (by simp[fV]) (B4 (.inr ⟨_,rfl⟩)) (by decide) hd ?_
  simp only[sz,simprocAttr,fV,im]
  exact ⟨fun _=>True,_,rfl,.inl ⟨0,rfl,trivial,by simp[sx]⟩⟩
 obtain ⟨r,h1,h2⟩:=key
 rw[h1,B9 h2]
theorem zO (d:Nat)(a b w:AV)(g:G):dU C0 (I C0) d (wX N.ae w) [a,b] g=orF ((I C0).call d N.ae [a,b,.tptr 0 1 [[w]] 0 0] g):=by kernel_rfl
theorem AQ {d:Nat}{g:G}{w x:Bool}{e:Int}:dU C0 (I C0) d (wX N.ae (.bool w)) [.bool x,.int .i64 e] g=.upd (.bool (decide (x=w)&&decide (e=0))) g:=by
 rw[zO]
 refine Ca (it lz (by simp[eK]) ?_)
 have eqb:ww false .bool (.bool x) (.bool w)=.val (.bool (decide (x=w))):=by cases x<;>cases w<;>rfl
 simp only[sz,simprocAttr,eK,pJ,np,eqb]
 by_cases h:x=w
 ·simp only[sz,simprocAttr,decide_eq_true h,Bool.true_and]
 ·simp only[sz,simprocAttr,decide_eq_false h,Bool.false_and]
theorem x3 {t:T}{g:G}{a:Nat}{xs:List Od}{w:AV}(h:tat t a=wX N.ae w):SO.foot C0 t g (.dyn (.t a) xs)=bj:=by
 show (match tat t a with
  | .clo f first cap=>af ((C0.ext f).isSome || C0.iso f) (an ((first++(fd t xs++cap)).flatMap (au g.h ax))) bj
  | _=>bj)=_
 rw[h]
 kernel_rfl
def LLs (pv lv:AV)(m a b:Nat):List (Nat×AV):=[(5,pv),(8,.int .u64 (m:Int)),(6,.int .i64 (a:Int)),(7,.int .i64 (b:Int)),(9,lv)]
theorem qZ {f:Nat->Bool}{l:List Nat}{j y:Nat}(h:l.take (j+1)=l.take j++[y]):(l.take (j+1)).any f=((l.take j).any f || f y):=by
 rw[h,List.any_append];simp
section
variable {d m a b:Nat}{p l:List Nat}{pv lv:AV}
theorem Cm {Q:QT}{t:T}{g:G}{z i:Nat}{hb:Bool}(hl:SlR NoP 0 .nil l lv)(hz:z<18446744073709551616)
  (ht:St t ((11,.int .u64 (z:Int))::(12,.bool hb)::(13,.int .i64 0)::(77,.int .u64 (i:Int))::(76,.int .u64 ((2 ^ p.length:Nat):Int))::(96,lv)::LLs pv lv m a b)) (h14:tat t 14=.bool false) (h15:tat t 15=.bool false) (h98:tat t 98=.int .i64 0) (h97:tat t 97=.int .i64 (l.length:Int))
  (fin:∀t,St t ((14,.bool (S.aY z l))::(15,.bool (S.aX z l))::(11,.int .u64 (z:Int))::(12,.bool hb)::(13,.int .i64 0)::(77,.int .u64 (i:Int))::(76,.int .u64 ((2 ^ p.length:Nat):Int))::LLs pv lv m a b)->Q (.exit 2) t [] g):wpL (wp C0 d none ck) Q t [] g:=by
 have rt:∀h,aw h 1 lv=some (l.map cu):=fun h=>(hl.tree (h':=h) (Nat.le_refl 0):SlR NoP 0 h l lv).nats
 have hlt:=cx hl
 simp only[ck]
 refine bD (m:=l.length) hl.1 (fun j t df g'=>df=[]/\g'=g/\St t ((14,.bool ((l.take j).any fun m=>decide (m≠z)&&S.am m z))::(15,.bool ((l.take j).any fun m=>decide (m=z)))::(11,.int .u64 (z:Int))::(12,.bool hb)::(13,.int .i64 0)::(77,.int .u64 (i:Int))::(76,.int .u64 ((2 ^ p.length:Nat):Int))::(96,lv)::LLs pv lv m a b)) ⟨rfl,rfl,by simpa using h14,by simpa using h15,ht⟩ h98 h97 (by decide)
  (by rintro j t df g v s (rfl | rfl | rfl) ⟨a1,a2,⟨b1,b2,b3,b4,b5,b6,b7,b8,b9,b10,b11,b12,b13,-⟩⟩<;>exact ⟨a1,a2,by simp[St,LLs,sx,b1,b2,b3,b4,b5,b6,b7,b8,b9,b10,b11,b12,b13]⟩) ?_ ?_
 ·rintro j t df g' hj ⟨rfl,rfl,h14,h15,h11,h12,h13,h77,h76,h96,h5,h8,h6,h7,h9,-⟩ h98 h97
  obtain ⟨y,hy,htk,hm⟩:=cZ hj
  have hyl:=hlt y hm
  have z1:j<(l.map cu).length:=by simpa using hj
  have z2:(l.map cu)[j]?=some (cu y):=by rw[List.getElem?_map,hy];rfl
  rw[qZ (f:=fun m=>decide (m≠z)&&S.am m z) htk,qZ (f:=fun m=>decide (m=z)) htk]
  generalize (l.take j).any (fun m=>decide (m≠z)&&S.am m z)=q1 at h14 ⊢
  generalize (l.take j).any (fun m=>decide (m=z))=q2 at h15 ⊢
  refine gU (P:=fun t' df' g''=>df'=[]/\g''=g'/\St t' ((17,.int .u64 (y:Int))::(97,.int .i64 (l.length:Int))::(98,.int .i64 (j:Int))::(14,.bool q1)::(15,.bool q2)::(11,.int .u64 (z:Int))::(12,.bool hb)::(13,.int .i64 0)::(77,.int .u64 (i:Int))::(76,.int .u64 ((2 ^ p.length:Nat):Int))::(96,lv)::LLs pv lv m a b)) ?_ ?_
  ·simp only[sz,simprocAttr,h96,h98,rt,z1,z2,cu]
   simp[St,LLs,sx,h5,h6,h7,h8,h9,h11,h12,h13,h14,h15,h76,h77,h96,h97,h98]
  clear h5 h6 h7 h8 h9 h11 h12 h13 h14 h15 h76 h77 h96 h97 h98
  rintro t df g2 ⟨rfl,rfl,h17,h97,h98,h14,h15,h11,h12,h13,h77,h76,h96,h5,h8,h6,h7,h9,-⟩
  refine gU (P:=fun t' df' g''=>df'=[]/\g''=g2/\St t' ((17,.int .u64 (y:Int))::(97,.int .i64 (l.length:Int))::(98,.int .i64 (j:Int))::(14,.bool (q1 || (decide (y≠z)&&S.am y z)))::(15,.bool q2)::(11,.int .u64 (z:Int))::(12,.bool hb)::(13,.int .i64 0)::(77,.int .u64 (i:Int))::(76,.int .u64 ((2 ^ p.length:Nat):Int))::(96,lv)::LLs pv lv m a b)) ?_ ?_
  ·cases q1 with
   | true =>
    simp only[sz,simprocAttr,h14]
    simp[St,LLs,sx,h5,h6,h7,h8,h9,h11,h12,h13,h15,h17,h76,h77,h96,h97,h98]
   | false =>
    by_cases hyz:y=z
    ·have hyz':(y:Int)=(z:Int):=by omega
     simp only[sz,simprocAttr,h14,h17,h11,hyz']
     simp[St,LLs,sx,h5,h6,h7,h8,h9,h11,h12,h13,h15,h17,h76,h77,h96,h97,h98,hyz]
    ·have hyz':¬(y:Int)=(z:Int):=by omega
     by_cases c:y ^^^ (y &&& z)=0
     ·have c':((y ^^^ (y &&& z):Nat):Int)=0:=by omega
      have hp:S.am y z=true:=by rw[S.am,decide_eq_true c]
      simp only[sz,simprocAttr,h14,h17,h11,hyz',bp y z hyl hz,c']
      simp[St,LLs,sx,h5,h6,h7,h8,h9,h11,h12,h13,h15,h17,h76,h77,h96,h97,h98,hyz,hp]
     ·have c':¬((y ^^^ (y &&& z):Nat):Int)=0:=by omega
      have hp:S.am y z=false:=by rw[S.am,decide_eq_false c]
      simp only[sz,simprocAttr,h14,h17,h11,hyz',bp y z hyl hz,c']
      simp[St,LLs,sx,h5,h6,h7,h8,h9,h11,h12,h13,h15,h17,h76,h77,h96,h97,h98,hyz,hp]
  clear h5 h6 h7 h8 h9 h11 h12 h13 h14 h15 h76 h77 h96 h97 h98 h17
  rintro t df g3 ⟨rfl,rfl,h17,h97,h98,h14,h15,h11,h12,h13,h77,h76,h96,h5,h8,h6,h7,h9,-⟩
  cases q2 with
  | true =>
   simp only[sz,simprocAttr,h15]
   exact ⟨by simp[St,LLs,sx,h5,h6,h7,h8,h9,h11,h12,h13,h14,h76,h77,h96],h98,h97⟩
  | false =>
   by_cases hyz:y=z
   ·have hyz':(y:Int)=(z:Int):=by omega
    simp only[sz,simprocAttr,h15,h17,h11,hyz']
    exact ⟨by simp[St,LLs,sx,h5,h6,h7,h8,h9,h11,h12,h13,h14,h76,h77,h96,hyz],h98,h97⟩
   ·have hyz':¬(y:Int)=(z:Int):=by omega
    simp only[sz,simprocAttr,h15,h17,h11,hyz']
    exact ⟨by simp[St,LLs,sx,h5,h6,h7,h8,h9,h11,h12,h13,h14,h76,h77,h96,hyz],h98,h97⟩
 ·rintro t df g' ⟨rfl,rfl,h14,h15,h11,h12,h13,h77,h76,h96,h5,h8,h6,h7,h9,-⟩
  rw[List.take_length] at h14 h15
  exact fin t ⟨h14,h15,h11,h12,h13,h77,h76,h5,h8,h6,h7,h9,trivial⟩
theorem qL {zs:Nat}(hG:GOk p)(ha:a<p.length)(hb:b<p.length)(hab:a≠b)(hz:zs<2 ^ p.length)(h1:zs.testBit a=false)(h2:zs.testBit b=false){seen:Nat}(hs:seen<2 ^ p.length):S.af p (a:Int) (b:Int) zs seen=0:=by
 have hT:S.aM p.length (a:Int) (b:Int)=true:=lG.2 ⟨a,b,rfl,rfl,ha,hb,hab⟩
 have hA:S.aO p.length (a:Int) (b:Int) zs seen=true:=by
  simp only[S.aO,hT,decide_eq_true hz,decide_eq_true hs,Int.toNat_natCast,h1,h2,Bool.not_false,Bool.and_self]
 rw[S.af,gS.2 hG,hA];rfl
theorem Cg {Q:QT}{t:T}{g:G}(hd:0<d)(hp:SlR NoP 0 .nil p pv)(hG:GOk p)(hm:m=2 ^ p.length - 1)(ha:a<p.length)(hb:b<p.length)(hab:a≠b)(hl:SlR NoP 0 .nil (S.aI p a b m) lv)
  (ht:St t (LLs pv lv m a b)) (h77:tat t 77=.int .u64 0) (h76:tat t 76=.int .u64 ((2 ^ p.length:Nat):Int))
  (fin:∀t g',Q (.exit 0) t [] g'):wpL (wp C0 d none cj) Q t [] g:=by
 have n8:=hG.l8
 have h256:=jQ n8
 have hp1:1<=2 ^ p.length:=Nat.one_le_two_pow
 have hmn:m<2 ^ p.length:=by omega
 have hal:(2:Nat) ^ a<2 ^ p.length:=Nat.pow_lt_pow_right (by decide) ha
 have hbl:(2:Nat) ^ b<2 ^ p.length:=Nat.pow_lt_pow_right (by decide) hb
 obtain ⟨A,hA⟩:∃A,A=2 ^ a:=⟨_,rfl⟩
 obtain ⟨B,hB⟩:∃B,B=2 ^ b:=⟨_,rfl⟩
 have s1:aT .shl (.int .u64 1) (.int .i64 (a:Int))=.val (.int .u64 (A:Int)):=by rw[aW,dM (by omega),hA]
 have s2:aT .shl (.int .u64 1) (.int .i64 (b:Int))=.val (.int .u64 (B:Int)):=by rw[aW,dM (by omega),hB]
 have so:=gw A B (by omega) (by omega)
 have lO:A ||| B<18446744073709551616:=rB (by omega) (by omega)
 have ll:=hl.len
 simp only[cj,eo]
 refine oG (m:=2 ^ p.length) (by omega) (fun j t df g'=>df=[]/\St t (LLs pv lv m a b)) ⟨rfl,ht⟩ h77 h76 (by decide)
  (by rintro j t df g v s (rfl | rfl | rfl) ⟨a1,⟨b1,b2,b3,b4,b5,-⟩⟩<;>exact ⟨a1,by simp[St,LLs,sx,b1,b2,b3,b4,b5]⟩) ?_ ?_
 ·rintro z t df g' hz ⟨rfl,h5,h8,h6,h7,h9,-⟩ h77 h76
  have hz64:z<18446744073709551616:=by omega
  have sa:=bW z (A ||| B) hz64 lO
  refine gU (P:=fun t' df' g''=>df'=[]/\g''=g'/\St t' ((11,.int .u64 (z:Int))::(77,.int .u64 (z:Int))::(76,.int .u64 ((2 ^ p.length:Nat):Int))::LLs pv lv m a b)) ?_ ?_
  ·simp only[sz,simprocAttr,h77]
   simp[St,LLs,sx,h5,h6,h7,h8,h9,h76,h77]
  clear h5 h6 h7 h8 h9 h76 h77
  rintro t df g2 ⟨rfl,rfl,h11,h77,h76,h5,h8,h6,h7,h9,-⟩
  by_cases c:z &&& (A ||| B)=0
  ·have c':((z &&& (A ||| B):Nat):Int)=0:=by omega
   have hzz:z.testBit a=false/\z.testBit b=false:=by
    rw[hA,hB] at c
    exact (zV (n:=p.length)).1 c
   have hE:=qL (seen:=0) hG ha hb hab hz hzz.1 hzz.2 (by omega)
   have kB:=fun g=>kX (d:=d) (g:=g) (x:=(a:Int)) (y:=(b:Int)) hd hp hz64
   rw[hE,Int.toNat_natCast,Int.toNat_natCast,show decide ((0:Int)=0)=true from rfl,Bool.true_and] at kB
   have hsub:Sub z (S.aC m a b):=fun v hv=>by
    have hv':z.testBit v=true:=hv
    have hvn:v<p.length:=by
     apply Classical.byContradiction
     intro h
     have:z.testBit v=false:=Nat.testBit_lt_two_pow (Nat.lt_of_lt_of_le hz (Nat.pow_le_pow_right (by decide) (by omega)))
     rw[this] at hv';cases hv'
    refine lE.2 ⟨?_,fun h=>?_⟩
    ·rw[Bt,hm,Nat.testBit_two_pow_sub_one,decide_eq_true_iff];exact hvn
    ·rw[uv,ji,ji] at h
     rcases h with h | h
     ·have h:v=a:=h
      subst h;rw[hzz.1] at hv';cases hv'
     ·have h:v=b:=h
      subst h;rw[hzz.2] at hv';cases hv'
   obtain ⟨L1,L2⟩:=w6 (p:=p) hmn hsub
   generalize hbv:S.au p a b z=bv at kB L1 L2
   refine qf (P:=fun t' df' g''=>df'=[]/\g''=g2/\St t' ((11,.int .u64 (z:Int))::(77,.int .u64 (z:Int))::(76,.int .u64 ((2 ^ p.length:Nat):Int))::LLs pv lv m a b)) ?_ ?_
   ·simp only[sz,simprocAttr,h11,h6,h7,s1,s2,so,sa,c']
    simp[St,LLs,sx,h5,h6,h7,h8,h9,h11,h76,h77]
   clear h5 h6 h7 h8 h9 h11 h76 h77
   rintro t df g3 ⟨rfl,rfl,h11,h77,h76,h5,h8,h6,h7,h9,-⟩
   refine gU (P:=fun t' df' g''=>df'=[]/\St t' ((12,.bool bv)::(13,.int .i64 0)::(11,.int .u64 (z:Int))::(77,.int .u64 (z:Int))::(76,.int .u64 ((2 ^ p.length:Nat):Int))::LLs pv lv m a b)) ?_ ?_
   ·simp only[sz,simprocAttr,h5,h6,h7,h11,kB]
    simp[St,LLs,sx,h5,h6,h7,h8,h9,h11,h76,h77]
   clear h5 h6 h7 h8 h9 h11 h76 h77
   rintro t df g4 ⟨rfl,h12,h13,h11,h77,h76,h5,h8,h6,h7,h9,-⟩
   simp only[sz,simprocAttr,h9,ll]
   refine Cm (z:=z) (i:=z) (hb:=bv) (p:=p) (m:=m) (a:=a) (b:=b) (pv:=pv) hl hz64 (by simp[St,LLs,sx,h5,h6,h7,h8,h9,h11,h12,h13,h76,h77]) (by simp[sx]) (by simp[sx]) (by simp[sx]) (by simp[sx]) ?_
   rintro t ⟨h14,h15,h11,h12,h13,h77,h76,h5,h8,h6,h7,h9,-⟩
   generalize hq1:S.aY z (S.aI p a b m)=q1 at h14 L1
   generalize hq2:S.aX z (S.aI p a b m)=q2 at h15 L1 L2
   clear hq1 hq2 hbv kB
   have e0:ww true .bool (.bool true) (.bool true)=.val (.bool false):=rfl
   have e1:ww true .bool (.bool false) (.bool false)=.val (.bool false):=rfl
   cases bv with
   | true =>
    cases q1 with
    | true =>
     have:q2=false:=by simpa using L1
     subst this
     simp only[sz,simprocAttr,bz,h12,h13,h14,h15,e0,e1]
     simp[St,LLs,sx,h5,h6,h7,h8,h9,h76,h77]
    | false =>
     have:q2=true:=by simpa using L1
     subst this
     simp only[sz,simprocAttr,bz,h12,h13,h14,h15,e0,e1]
     simp[St,LLs,sx,h5,h6,h7,h8,h9,h76,h77]
   | false =>
    have:q2=false:=L2 rfl
    subst this
    simp only[sz,simprocAttr,bz,h12,h13,h15,e0,e1]
    simp[St,LLs,sx,h5,h6,h7,h8,h9,h76,h77]
  ·have c':¬((z &&& (A ||| B):Nat):Int)=0:=by omega
   simp only[sz,simprocAttr,h11,h6,h7,s1,s2,so,sa,c']
   simp[St,LLs,sx,h5,h6,h7,h8,h9,h76,h77]
 ·rintro t df g' ⟨rfl,-⟩
  exact fin t g'
end
theorem qk (g:G):aL C0 1 N.aK [] g=.val (.bool true):=by kernel_rfl
theorem mr {x:tl}{xs:List AV}{kk:Nat}(hx:Rp.rp NoP 0 .nil x xs)(hk:kk<256) :
  ∃g',(I C0).call 1 N.aJ [.agg xs,.int .u8 (kk:Int)] G.empty=.ok (.bool true) g':=by
 have hm:∀h,Agg x NoP 0 h (.agg xs):=fun h=>⟨_,rfl,Rp.tree hx (Nat.le_refl _)⟩
 obtain ⟨_,_,rfl,ha',hb'⟩:=gO.1 hx
 obtain ⟨u,rfl,-⟩:=be.1 ha'
 obtain ⟨v,rfl,-⟩:=be.1 hb'
 rw[List.cons_append,List.nil_append] at hm ⊢
 have key:=it (C:=C0) (d:=1) (f:=N.aJ) («as»:=[.agg [u,v],.int .u8 (kk:Int)]) (g:=G.empty) (K:=fun v g'=>v=.bool true) jz (by simp[dq]) ?_
 ·cases hc':(I C0).call 1 N.aJ [.agg [u,v],.int .u8 (kk:Int)] G.empty with
  | fail=>rw[hc'] at key;exact key.elim
  | ok v g'=>rw[hc'] at key;exact ⟨g',by rw[show v=.bool true from key]⟩
 have ld:aP (.cells 2 [[u,v]] 0 false false) 0 0 true 2 0=.val (.agg [u,v]):=rfl
 simp only[sz,simprocAttr,dq,nS,eD,qk,ld]
 refine nP (v6 (by decide) (hm _)) fun pv hz=>?_
 obtain ⟨p,⟨hG,-⟩,hz⟩:=hz
 have hp:SlR NoP 0 .nil p pv:=by
  obtain ⟨z',e,hz'⟩:=be.1 hz
  injection e with e
  subst e
  exact hz'
 have n8:=hG.l8
 have n1:=hG.l1
 have h256:=jQ n8
 have lv:=hp.len
 have hp1:1<=2 ^ p.length:=Nat.one_le_two_pow
 have hlt:∀x∈p,x<18446744073709551616:=cx hp
 have rp:∀h,aw h 1 pv=some (p.map cu):=fun h=>(hp.tree (h':=h) (Nat.le_refl 0):SlR NoP 0 h p pv).nats
 obtain ⟨a,hae⟩:∃a,a=kk % p.length:=⟨_,rfl⟩
 obtain ⟨b,hbe⟩:∃b,b=kk / 8 % p.length:=⟨_,rfl⟩
 have ha:a<p.length:=by rw[hae];exact Nat.mod_lt _ (by omega)
 have hb:b<p.length:=by rw[hbe];exact Nat.mod_lt _ (by omega)
 have r1:aT .rem (.int .i64 (kk:Int)) (.int .i64 (p.length:Int))=.val (.int .i64 (a:Int)):=by
  rw[qO .i64 (by omega) (by omega),hae];rfl
 have w1:IntKind.wrap .i64 (kk:Int)=(kk:Int):=g6 (by omega) (by omega)
 have q1:aT .quo (.int .u8 (kk:Int)) (.int .u8 8)=.val (.int .u8 ((kk / 8:Nat):Int)):=by
  rw[AP .u8 (by omega) (by decide)]
  have:IntKind.wrap .u8 ((kk:Int) / 8)=((kk / 8:Nat):Int):=by
   show ((kk:Int) / 8) % 256=_
   omega
  rw[this]
 have w2:IntKind.wrap .i64 ((kk / 8:Nat):Int)=((kk / 8:Nat):Int):=g6 (by omega) (by omega)
 have r2:aT .rem (.int .i64 ((kk / 8:Nat):Int)) (.int .i64 (p.length:Int))=.val (.int .i64 (b:Int)):=by
  rw[qO .i64 (by omega) (by omega),hbe];rfl
 clear hae hbe
 refine gU (P:=fun t' df' g''=>df'=[]/\St t' [(5,pv),(1,.int .u8 (kk:Int))]) ?_ ?_
 ·simp only[sz,simprocAttr]
  simp[St,sx,qJ]
 rintro t df g0 ⟨rfl,h5,h1,-⟩
 refine qf (P:=fun t' df' g''=>df'=[]/\St t' [(5,pv),(6,.int .i64 (a:Int)),(7,.int .i64 (b:Int))]) ?_ ?_
 ·simp only[sz,simprocAttr,h1,h5,lv,w1,r1,q1,w2,r2]
  simp[St,sx,h5]
 clear h1 h5
 rintro t df g1 ⟨rfl,h5,h6,h7,-⟩
 by_cases hab:a=b
 ·have hab':(a:Int)=(b:Int):=by omega
  simp only[sz,simprocAttr,h6,h7,hab']
 have hab':¬(a:Int)=(b:Int):=by omega
 have hsl:aT .shl (.int .u64 1) (.int .i64 (p.length:Int))=.val (.int .u64 ((2 ^ p.length:Nat):Int)):=by rw[aW,dM (by omega)]
 obtain ⟨m,hmm⟩:∃m,m=2 ^ p.length - 1:=⟨_,rfl⟩
 have hw:IntKind.wrap .u64 (((2 ^ p.length:Nat):Int) - 1)=(m:Int):=by rw[eZ (by omega) (by omega)];omega
 have hw2:IntKind.wrap .u64 ((m:Int)+1)=((2 ^ p.length:Nat):Int):=by rw[eZ (by omega) (by omega)];omega
 refine qf (P:=fun t' df' g''=>df'=[]/\St t' [(5,pv),(6,.int .i64 (a:Int)),(7,.int .i64 (b:Int))]) ?_ ?_
 ·simp only[sz,simprocAttr,h6,h7,hab']
  simp[St,sx,h5,h6,h7]
 clear h5 h6 h7
 rintro t df g2 ⟨rfl,h5,h6,h7,-⟩
 refine gU (P:=fun t' df' g''=>df'=[]/\St t' [(5,pv),(6,.int .i64 (a:Int)),(7,.int .i64 (b:Int)),(8,.int .u64 (m:Int))]) ?_ ?_
 ·simp only[sz,simprocAttr,h5,lv,hsl,hw]
  simp[St,sx,h5,h6,h7]
 clear h5 h6 h7
 rintro t df g3 ⟨rfl,h5,h6,h7,h8,-⟩
 have hmn:m<2 ^ p.length:=by omega
 have hE:=fun zs (hz:zs<2 ^ p.length) h1 h2=>qL (zs:=zs) (seen:=0) hG ha hb hab hz h1 h2 (by omega)
 have hE0:S.af p (a:Int) (b:Int) 0 m=0:=qL hG ha hb hab (by omega) (Nat.zero_testBit _) (Nat.zero_testBit _) hmn
 have hL:S.aU p (a:Int) (b:Int) m=S.aI p a b m:=by rw[S.aU,if_pos hE0,Int.toNat_natCast,Int.toNat_natCast]
 refine gU (P:=fun t' df' g''=>df'=[]/\∃lv,SlR NoP 0 .nil (S.aI p a b m) lv/\St t' ((10,.int .i64 0)::LLs pv lv m a b)) ?_ ?_
 ·simp only[sz,simprocAttr,h5,h6,h7,h8]
  refine nP (ql (by decide) hp (by omega)) fun r hr=>?_
  obtain ⟨a1,b1,rfl,hr1,hr2⟩:=hr
  have hr2:=dH.1 hr2
  injection hr2 with hr2
  subst hr2
  obtain ⟨_,er,hr1⟩:=be.1 hr1
  injection er with er
  subst er
  rw[hL] at hr1
  rw[hE0]
  simp only[sz,simprocAttr]
  exact ⟨_,hr1,by simp[St,LLs,sx,h5,h6,h7,h8]⟩
 clear h5 h6 h7 h8
 rintro t df g4 ⟨rfl,lv,hl,h10,h5,h8,h6,h7,h9,-⟩
 have hpa:p[a]?=some (Par p a):=by simp[Par,List.getElem?_eq_getElem ha]
 have la:=hlt _ (List.mem_of_getElem? hpa)
 have lP:=hG.hp _ (List.mem_of_getElem? hpa)
 have za1:a<(p.map cu).length:=by simpa using ha
 have za2:(p.map cu)[a]?=some (cu (Par p a)):=by rw[List.getElem?_map,hpa];rfl
 have sb:=aH .i64 (Par p a) b la
 have ldb:Par p a / 2 ^ b<18446744073709551616:=Nat.lt_of_le_of_lt (Nat.div_le_self _ _) la
 refine qf (P:=fun t' df' g''=>df'=[]/\St t' (LLs pv lv m a b)) ?_ ?_
 ·cases hj:(Par p a).testBit b with
  | true =>
   simp only[sz,simprocAttr,sf,h5,h6,h7,h10,rp,za1,za2,cu,sb,j9 la,jh,hj]
   refine ⟨?_,by simp[St,LLs,sx,h5,h6,h7,h8,h9]⟩
   simp only[List.reverse_cons,List.reverse_nil,List.nil_append,List.cons_append]
   exact gC [false,false,false,false,false,false,false,false,false,false,false,false,false,false,false,false,false,false,false,false,false,false,false,false,false,false,false] [] (by simp[All2,an,aM,bj]) (by decide) (by simp)
  | false =>
   have kI:=fun g=>BX (d:=1) (g:=g) (w:=true) (by decide)
   have kB:=fun g=>kX (d:=1) (g:=g) (x:=(a:Int)) (y:=(b:Int)) (by decide) hp la
   rw[hE _ lP (Bool.not_eq_true _ ▸ (ur hG.hp hG.ac a:¬(Par p a).testBit a=true)) hj,Int.toNat_natCast,Int.toNat_natCast,show decide ((0:Int)=0)=true from rfl,Bool.true_and,zQ hG ha hb hab (by simp[Bt,hj])] at kB
   have kD:∀g,dU C0 (I C0) 1 (wX N.ae (.bool true)) [.bool true,.int .i64 0] g=.upd (.bool true) g:=fun g=>AQ (w:=true) (x:=true) (e:=0)
   simp only[sz,simprocAttr,sf,h5,h6,h7,h10,rp,za1,za2,cu,sb,j9 la,jh,hj,kI,kB,kD,lu,jq]
   rw[x3 (a:=60) (w:=.bool true) (by simp[sx])]
   refine ⟨?_,by simp[St,LLs,sx,h5,h6,h7,h8,h9]⟩
   simp only[List.reverse_cons,List.reverse_nil,List.nil_append,List.cons_append]
   exact gC [false,false,false,false,false,false,false,false,false,false,false,false,false,false,false,false,false,false,false,false,false,false,false,false,false,false,false] [] (by simp[All2,an,aM,bj]) (by decide) (by simp)
 clear h5 h6 h7 h8 h9 h10
 rintro t df g5 ⟨rfl,h5,h8,h6,h7,h9,-⟩
 simp only[sz,simprocAttr,h8,hw2]
 refine Cg (m:=m) (by decide) hp hG hmm ha hb hab hl (by simp[St,LLs,sx,h5,h6,h7,h8,h9]) (by simp[sx]) (by simp[sx]) ?_
 intro t g'
 simp only[sz,simprocAttr,dW]
end
end Hx
end
section
namespace Hx
open Go Go.RowKit Go.ChangeShapes Go.WideShapes
def kz (P:Program):List Field->Nat->Option Nat
 | [],k=>some k
 | f::fs,k=>if f.offset=k then kz P fs (k+P.cellsOf f.type) else none
def kh (P:Program):Nat->TypeId->Bool
 | 0,_=>false
 | n+1,t=>match P.underlying t with
  | some .bool=>true
  | some (.int _)=>true
  | some (.slice e)=>decide (0<P.cellsOf e)&&kh P n e
  | some (.struct fs)=>(kz P fs.toList 0 == some (P.cellsOf t))&&fs.toList.all (fun f=>kh P n f.type)
  | some (.array m e)=>decide (m*P.cellsOf e=P.cellsOf t)&&kh P n e
  | _=>false
def Sh (P:Program):Nat->TypeId->List AV->Prop
 | 0,_,_=>False
 | n+1,t,xs=>match P.underlying t with
  | some .bool=>∃b,xs=[.bool b]
  | some (.int k)=>∃z,xs=[.int k z]/\(Lit.int k z).wf=true
  | some (.slice e)=>xs=[.nils]\/∃rows,xs=[.tsl 0 (P.cellsOf e) rows]/\rows.length<9223372036854775808/\∀row∈rows,Sh P n e row
  | some (.struct fs)=>∃xss,xs=xss.flatten/\All2 (fun (f:Field) ys=>Sh P n f.type ys) fs.toList xss
  | some (.array m e)=>∃xss:List (List AV),xs=xss.flatten/\xss.length=m/\∀ys∈xss,Sh P n e ys
  | _=>False
def rI (P:Program)(w:World)(n:Nat)(t:TypeId)(xs:List AV)(cs:List Value):Prop :=
 RVs0 w xs cs/\(∀y∈xs,y.one=true/\Closed y)/\Sh P n t xs
theorem RVs0.append {w:World}{xs ys:List AV}{cs ds:List Value}(h:RVs0 w xs cs)(h':RVs0 w ys ds):RVs0 w (xs++ys) (cs++ds):=by
 refine ⟨by rw[List.length_append,List.length_append,h.1,h'.1],fun i x v hx hv=>?_⟩
 rcases Nat.lt_or_ge i xs.length with hi | hi
 ·rw[List.getElem?_append_left hi] at hx
  rw[List.getElem?_append_left (by rw[<-h.1];exact hi)] at hv
  exact h.2 i x v hx hv
 ·rw[List.getElem?_append_right hi] at hx
  rw[List.getElem?_append_right (by rw[<-h.1];exact hi),<-h.1] at hv
  exact h'.2 _ x v hx hv
theorem vF (b o n:Nat):(⟨b,o,none⟩:Addr).add n=adr b (o+n):=by
 unfold Addr.add
 split
 ·rename_i h;subst h;rfl
 ·rfl
variable {H:Type}{enc:TypeId×Value->H}{P:Program}{w:World}
theorem px:∀{fl:List Field} {k K:Nat},kz P fl k=some K->k<=K
 | [],k,K,h=>by injection h with h;omega
 | f::fl,k,K,h=>by
  unfold kz at h
  split at h
  ·have:=px h;omega
  ·cases h
theorem y7 {n:Nat}{cs:List Value}:∀{fl:List Field} {k K:Nat},kz P fl k=some K ->
  (∀f∈fl,∃xs,rI P w n f.type xs ((cs.drop f.offset).take (P.cellsOf f.type))) ->
  ∃xss,All2 (fun (f:Field) ys=>Sh P n f.type ys) fl xss/\RVs0 w xss.flatten ((cs.drop k).take (K - k))/\∀y∈xss.flatten,y.one=true/\Closed y
 | [],k,K,h,_=>by
  injection h with h;subst h
  exact ⟨[],trivial,by rw[Nat.sub_self,List.take_zero];exact ⟨rfl,fun i x v hx=>by simp at hx⟩,fun y hy=>by simp at hy⟩
 | f::fl,k,K,h,hg=>by
  unfold kz at h
  split at h
  ·rename_i ho
   subst ho
   obtain ⟨xs,h1,h2,h3⟩:=hg f (by simp)
   obtain ⟨xss,a1,a2,a3⟩:=y7 h fun f' hf'=>hg f' (by simp[hf'])
   have hle:=px h
   refine ⟨xs::xss,⟨h3,a1⟩,?_,fun y hy=>?_⟩
   ·have e:(cs.drop f.offset).take (K - f.offset)=(cs.drop f.offset).take (P.cellsOf f.type)++(cs.drop (f.offset+P.cellsOf f.type)).take (K - (f.offset+P.cellsOf f.type)):=by
     rw[show K - f.offset=P.cellsOf f.type+(K - (f.offset+P.cellsOf f.type)) by omega,List.take_add,List.drop_drop]
    rw[e,List.flatten_cons]
    exact h1.append a2
   ·rw[List.flatten_cons,List.mem_append] at hy
    rcases hy with hy | hy
    ·exact h2 y hy
    ·exact a3 y hy
  ·cases h
theorem vq {n:Nat}{e:TypeId}{cs:List Value}:∀{m k:Nat},
  (∀i,i<m->∃xs,rI P w n e xs ((cs.drop ((k+i)*P.cellsOf e)).take (P.cellsOf e))) ->
  ∃xss:List (List AV),xss.length=m/\(∀ys∈xss,Sh P n e ys)/\RVs0 w xss.flatten ((cs.drop (k*P.cellsOf e)).take (m*P.cellsOf e))/\∀y∈xss.flatten,y.one=true/\Closed y
 | 0,k,_=>⟨[],rfl,fun y hy=>by simp at hy,by rw[Nat.zero_mul,List.take_zero];exact ⟨rfl,fun i x v hx=>by simp at hx⟩,fun y hy=>by simp at hy⟩
 | m+1,k,hg=>by
  obtain ⟨xs,h1,h2,h3⟩:=hg 0 (by omega)
  rw[Nat.add_zero] at h1
  obtain ⟨xss,a0,a1,a2,a3⟩:=vq (m:=m) (k:=k+1) fun i hi=>by
   have:=hg (i+1) (by omega)
   rwa [show k+(i+1)=k+1+i by omega] at this
  refine ⟨xs::xss,by simp[a0],fun ys hy=>?_,?_,fun y hy=>?_⟩
  ·rcases List.mem_cons.1 hy with rfl | hy
   ·exact h3
   ·exact a1 ys hy
  ·have e:(cs.drop (k*P.cellsOf e)).take ((m+1)*P.cellsOf e)=(cs.drop (k*P.cellsOf e)).take (P.cellsOf e)++(cs.drop ((k+1)*P.cellsOf e)).take (m*P.cellsOf e):=by
    rw[show (m+1)*P.cellsOf e=P.cellsOf e+m*P.cellsOf e by rw[Nat.add_mul];omega,List.take_add,List.drop_drop,Nat.add_mul,Nat.one_mul]
   rw[e,List.flatten_cons]
   exact h1.append a2
  ·rw[List.flatten_cons,List.mem_append] at hy
   rcases hy with hy | hy
   ·exact h2 y hy
   ·exact a3 y hy
theorem yV:∀(n:Nat) (t:TypeId),kh P n t=true->∀(fuel:Nat) (cs:List Value) (x:DataW H×List MemPlace),DataW.trod enc P w 0 (fun _=>true) true fuel t cs=some x->∃xs,rI P w n t xs cs:=by
 intro n
 induction n with
 | zero=>intro t h;simp[kh] at h
 | succ n ih =>
  intro t h fuel cs x hx
  unfold kh at h
  split at h
  ·rename_i hu
   obtain ⟨b,rfl,-⟩:=DataW.trod_bool hu hx
   refine ⟨[.bool b],⟨rfl,fun i x v h1 h2=>?_⟩,fun y hy=>?_,?_⟩
   ·cases i with
    | zero=>simp at h1 h2;subst h1;subst h2;exact .bool _ _
    | succ i=>simp at h1
   ·simp at hy;subst hy;exact ⟨rfl,.bool _⟩
   ·unfold Sh;rw[hu];exact ⟨b,rfl⟩
  ·rename_i k hu
   obtain ⟨z,rfl,-,hwf⟩:=DataW.trod_int hu hx
   refine ⟨[.int k z],⟨rfl,fun i x v h1 h2=>?_⟩,fun y hy=>?_,?_⟩
   ·cases i with
    | zero=>simp at h1 h2;subst h1;subst h2;exact .int _ _ _
    | succ i=>simp at h1
   ·simp at hy;subst hy;exact ⟨rfl,.int _ _⟩
   ·unfold Sh;rw[hu];exact ⟨z,rfl,hwf⟩
  ·rename_i e hu
   rw[Bool.and_eq_true,decide_eq_true_eq] at h
   obtain ⟨hpos,hp⟩:=h
   rcases DataW.trod_slice hu hx with ⟨rfl,-⟩ | ⟨a,len,cap,elems,rest,m,-,rfl,-,-,hlc,hcm,hlen,hel,-,-⟩
   ·refine ⟨[.nils],⟨rfl,fun i x v h1 h2=>?_⟩,fun y hy=>?_,?_⟩
    ·cases i with
     | zero=>simp at h1 h2;subst h1;subst h2;exact .nils _
     | succ i=>simp at h1
    ·simp at hy;subst hy;exact ⟨rfl,.nils⟩
    ·unfold Sh;rw[hu];exact .inl rfl
   ·have each:∀i,i<len->∃xs vs,w.cells? 0 (a.add (i*P.cellsOf e)) (P.cellsOf e)=some vs/\rI P w n e xs vs:=by
     intro i hi
     have:=hel i hi
     rw[List.getElem?_eq_getElem (show i<elems.length by omega),Option.bind_eq_some_iff] at this
     obtain ⟨vs,h1,h2⟩:=this
     obtain ⟨xs,hg⟩:=ih e hp _ _ _ h2
     exact ⟨xs,vs,h1,hg⟩
    let rowf:Nat->List AV:=fun i=>if hi:i<len then Classical.choose (each i hi) else []
    let valf:Nat->List Value:=fun i=>if hi:i<len then Classical.choose (Classical.choose_spec (each i hi)) else []
    have hrow:∀i,i<len->w.cells? 0 (a.add (i*P.cellsOf e)) (P.cellsOf e)=some (valf i)/\rI P w n e (rowf i) (valf i):=by
     intro i hi
     have:=Classical.choose_spec (Classical.choose_spec (each i hi))
     simpa only[rowf,valf,dif_pos hi] using this
    have hget:∀(i:Nat) (row:List AV),((List.range len).map rowf)[i]?=some row->i<len/\row=rowf i:=by
     intro i row h1
     rw[List.getElem?_map] at h1
     rcases Nat.lt_or_ge i len with hi | hi
     ·rw[List.getElem?_range hi] at h1
      injection h1 with h1
      exact ⟨hi,h1.symm⟩
     ·rw[List.getElem?_eq_none (by simpa using hi)] at h1;cases h1
    refine ⟨[.tsl 0 (P.cellsOf e) ((List.range len).map rowf)],⟨rfl,fun i x v h1 h2=>?_⟩,fun y hy=>?_,?_⟩
    ·cases i with
     | succ i=>simp at h1
     | zero =>
      simp at h1 h2;subst h1;subst h2
      rcases Nat.eq_zero_or_pos len with h0 | h0
      ·subst h0
       exact .tnil 0 0 _ a cap (Nat.le_refl _)
      ·obtain ⟨b,o,spot⟩:=a
       have hc0:=World.cells?_some (hrow 0 h0).1
       have hv0:(valf 0)[0]?=some (valf 0)[0]:=List.getElem?_eq_getElem (by rw[hc0.2.1];exact hpos)
       have h00:=hc0.2.2 0 hpos
       rw[hv0] at h00
       have hspot:spot=none:=by simpa [Addr.add] using World.cell?_spot h00
       subst hspot
       have cellat:∀i j row x,((List.range len).map rowf)[i]?=some row->row[j]?=some x->∃v,(valf i)[j]?=some v/\w.cell? (adr b (o+i*P.cellsOf e+j))=some v/\RV w gm0 av0 0 x v:=by
        intro i j row x hr hxj
        obtain ⟨hi,rfl⟩:=hget i row hr
        obtain ⟨q1,q2⟩:=hrow i hi
        have hj:j<(rowf i).length:=(List.getElem?_eq_some_iff.1 hxj).1
        have hj':j<(valf i).length:=by rw[<-q2.1.1];exact hj
        have hcs:=World.cells?_some q1
        have hcell:=hcs.2.2 j (by rw[<-hcs.2.1];exact hj')
        rw[List.getElem?_eq_getElem hj'] at hcell
        refine ⟨_,List.getElem?_eq_getElem hj',?_,q2.1.2 j x _ hxj (List.getElem?_eq_getElem hj')⟩
        rw[vF,show adr b (o+i*P.cellsOf e)=(⟨b,o+i*P.cellsOf e,none⟩:Addr) from rfl,vF] at hcell
        exact hcell
       have hb:b<w.heap.size:=by
        have:=nX h00
        simpa [Addr.add] using this
       have hrl:((List.range len).map rowf).length=len:=by simp
       have key:=RV.tsl (w:=w) (γ:=gm0) (A:=av0) 0 0 (P.cellsOf e) ((List.range len).map rowf) b o cap (fun i j=>(valf i)[j]?.getD undef) (Nat.le_refl _) (by rw[hrl];exact hlc) hb (BT b) (fun h=>h)
        (fun i row hr=>by
         obtain ⟨hi,rfl⟩:=hget i row hr
         obtain ⟨q1,q2⟩:=hrow i hi
         rw[q2.1.1,(World.cells?_some q1).2.1])
        (fun i j row x hr hxj=>by
         obtain ⟨hi,rfl⟩:=hget i row hr
         exact ((hrow i hi).2.2.1 x (List.mem_of_getElem? hxj)).1)
        (fun i j row x hr hxj=>by
         obtain ⟨v,v1,v2,v3⟩:=cellat i j row x hr hxj
         rw[v2,v1];rfl)
        (fun i j row x hr hxj=>by
         obtain ⟨v,v1,v2,v3⟩:=cellat i j row x hr hxj
         rw[v1];exact v3)
        (fun row hr x hx=>by
         obtain ⟨i,hi⟩:=List.getElem?_of_mem hr
         obtain ⟨hi2,rfl⟩:=hget i row hi
         exact ((hrow i hi2).2.2.1 x hx).2)
       rw[hrl] at key
       exact key
    ·simp only[List.mem_singleton] at hy;subst hy
     refine ⟨rfl,.tsl _ _ _ fun row hr x hx=>?_⟩
     obtain ⟨i,hi⟩:=List.getElem?_of_mem hr
     obtain ⟨hi2,rfl⟩:=hget i row hi
     exact ((hrow i hi2).2.2.1 x hx).2
    ·unfold Sh;rw[hu]
     refine .inr ⟨_,rfl,?_,fun row hr=>?_⟩
     ·rw[List.length_map,List.length_range]
      have:maxLen<9223372036854775808:=by decide
      omega
     ·obtain ⟨i,hi⟩:=List.getElem?_of_mem hr
      obtain ⟨hi2,rfl⟩:=hget i row hi
      exact (hrow i hi2).2.2.2
  ·rename_i fs hu
   rw[Bool.and_eq_true] at h
   obtain ⟨hc,hp⟩:=h
   have hc:kz P fs.toList 0=some (P.cellsOf t):=eq_of_beq hc
   obtain ⟨ys,m,-,-,hl,hyl,hel⟩:=DataW.trod_struct hu hx
   obtain ⟨xss,a1,a2,a3⟩:=y7 (w:=w) (n:=n) (cs:=cs) hc fun f hf=>by
    obtain ⟨i,hi,e⟩:=List.mem_iff_getElem.1 hf
    have hfi:fs[i]?=some f:=by rw[<-Array.getElem?_toList,List.getElem?_eq_getElem hi,e]
    have:=hel i f hfi
    rw[List.getElem?_eq_getElem (show i<ys.length by rw[hyl];simpa using hi)] at this
    exact ih f.type (List.all_eq_true.1 hp f hf) _ _ _ this
   rw[List.drop_zero,Nat.sub_zero,<-hl,List.take_length] at a2
   refine ⟨xss.flatten,a2,a3,?_⟩
   unfold Sh;rw[hu];exact ⟨xss,rfl,a1⟩
  ·rename_i m e hu
   rw[Bool.and_eq_true,decide_eq_true_eq] at h
   obtain ⟨hc,hp⟩:=h
   obtain ⟨ys,q,-,-,hl,hyl,hel⟩:=DataW.trod_array hu hx
   obtain ⟨xss,a0,a1,a2,a3⟩:=vq (w:=w) (n:=n) (e:=e) (cs:=cs) (m:=m) (k:=0) fun i hi=>by
    have:=hel i hi
    rw[List.getElem?_eq_getElem (show i<ys.length by omega)] at this
    rw[Nat.zero_add]
    exact ih e hp _ _ _ this
   rw[Nat.zero_mul,List.drop_zero,hc,<-hl,List.take_length] at a2
   refine ⟨xss.flatten,a2,a3,?_⟩
   unfold Sh;rw[hu];exact ⟨xss,rfl,a0,a1⟩
  ·cases h
theorem By {n:Nat}{t:TypeId}{xs:List AV}(hu:P.underlying t=some (.int .u8))(h:Sh P n t xs):∃x:UInt8,Rp.rp NoP 0 .nil x xs:=by
 cases n with
 | zero=>exact h.elim
 | succ n =>
  unfold Sh at h;rw[hu] at h
  obtain ⟨z,rfl,hw⟩:=h
  simp only[Lit.wf,IntKind.min,IntKind.max,IntKind.signed,IntKind.bits,Bool.and_eq_true] at hw
  refine ⟨UInt8.ofNat z.toNat,zh.2 ?_⟩
  have h1:0<=z:=by simpa using hw.1
  have h2:z<=255:=by simpa using hw.2
  have h3:(UInt8.ofNat z.toNat).toNat=z.toNat:=UInt8.toNat_ofNat_of_lt' (by show z.toNat<256;omega)
  rw[h3,Int.toNat_of_nonneg h1]
theorem uz {α:Type} [Rp α]{n:Nat}{t e:TypeId}{xs:List AV}(hu:P.underlying t=some (.slice e))(hsz:P.cellsOf e=Rp.sz α)(hel:∀ys,Sh P n e ys->∃y:α,Rp.rp NoP 0 .nil y ys)(h:Sh P (n+1) t xs) :
  ∃l:List α,Rp.rp NoP 0 .nil l xs:=by
 unfold Sh at h;rw[hu] at h
 rcases h with rfl | ⟨rows,rfl,hl,hr⟩
 ·exact ⟨[],.nils,rfl,by simp,rfl⟩
 ·have:∀rows:List (List AV),(∀row∈rows,Sh P n e row)->∃l:List α,All2 (Rp.rp NoP 0 .nil) l rows:=by
   intro rows
   induction rows with
   | nil=>intro _;exact ⟨[],trivial⟩
   | cons r rows ih =>
    intro h
    obtain ⟨y,hy⟩:=hel r (h r (by simp))
    obtain ⟨l,hl⟩:=ih fun row hrow=>h row (by simp[hrow])
    exact ⟨y::l,hy,hl⟩
  obtain ⟨l,ha⟩:=this rows hr
  exact ⟨l,_,rfl,by rw[ha.len];exact hl,Nat.le_refl _,.inl hsz,ha⟩
theorem wZ {n:Nat}{t:TypeId}{fs:Array Field}{xs:List AV}(hu:P.underlying t=some (.struct fs))(h:Sh P (n+1) t xs):∃xss,xs=xss.flatten/\All2 (fun (f:Field) ys=>Sh P n f.type ys) fs.toList xss:=by
 unfold Sh at h;rw[hu] at h;exact h
end Hx
end
