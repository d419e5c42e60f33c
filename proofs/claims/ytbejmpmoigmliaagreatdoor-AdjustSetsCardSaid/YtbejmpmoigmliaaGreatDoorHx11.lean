/- A part of the proof: an interpreter over abstract values, shown right against the model, and what the functions of the chapter compute on it. -/
import Derived.Test.YtbejmpmoigmliaaGreatDoorHx10
set_option linter.unusedVariables false
set_option linter.unusedSimpArgs false
set_option linter.unnecessarySimpa false
section
namespace Hx
open Go
noncomputable section
theorem ES {xs zs:Nat}(h:xs &&& zs=0):∀x,Bt xs x->¬Bt zs x:=fun x h1 h2=>by
 have:=congrArg (·.testBit x) h
 have e1:xs.testBit x=true:=h1
 have e2:zs.testBit x=true:=h2
 simp[e1,e2] at this
theorem zy {d k:Nat}{g:G}{P:Nat->Prop}{v:AV}{p:List Nat}{xs zs:Nat}(hd:0<d)(hv:SlR P k g.h p v)(hG:GOk p)(hxs:xs<2 ^ p.length)(hzs:zs<2 ^ p.length)(hxz:xs &&& zs=0) :
  ap C0 d N.aK [v,.int .u64 (xs:Int),.int .u64 (zs:Int)] g=.val (.int .u64 (S.aA p xs zs:Int)):=by
 obtain ⟨v',e,r1⟩:=bN hv d
 have h256:=im hG.l8
 have h8:=hG.l8
 rw[oD]
 refine dZ qh (xs:=[v',.int .u64 (xs:Int),.int .u64 (zs:Int)]) (by simp only[az,e,aX]) (by simp[iX]) hd ?_
 obtain ⟨st,hst⟩:∃st:Nat->Nat,st=fun j=>S.aa (fun y=>∃x,x<j/\Bt xs x/\mr (Eg p) (Bt zs) x [x] y) p.length:=⟨_,rfl⟩
 have hst0:st 0=0:=by rw[hst];exact kU (by rintro i - ⟨x,h,-⟩;omega)
 have hstl:∀j,st j<2 ^ p.length:=fun j=>by rw[hst];exact iV _ _
 have hstn:∀j,¬Bt xs j->st (j+1)=st j:=fun j hj=>by
  rw[hst]
  refine bW fun y _=>?_
  constructor
  ·rintro ⟨x,h1,h2,h3⟩
   by_cases e:x=j
   ·subst e;exact absurd h2 hj
   ·exact ⟨x,by omega,h2,h3⟩
  ·rintro ⟨x,h1,h⟩;exact ⟨x,by omega,h⟩
 have hsty:∀j,Bt xs j->st (j+1)=st j ||| S.aa (mr (Eg p) (Bt zs) j [j].reverse) p.length:=fun j hj=>by
  rw[hst,AG]
  refine bW fun y _=>?_
  constructor
  ·rintro ⟨x,h1,h2,h3⟩
   by_cases e:x=j
   ·subst e;exact .inr h3
   ·exact .inl ⟨x,by omega,h2,h3⟩
  ·rintro (⟨x,h1,h⟩ | h)
   ·exact ⟨x,by omega,h⟩
   ·exact ⟨j,by omega,hj,h⟩
 have hfin:st p.length=S.aA p xs zs:=by
  rw[hst]
  refine bW fun y _=>?_
  rw[EF (xG hG.hp hG.ac) (ES hxz)]
  constructor
  ·rintro ⟨x,-,h⟩;exact ⟨x,h⟩
  ·rintro ⟨x,h,h2⟩;exact ⟨x,oV hxs h,h,h2⟩
 clear hst
 simp only[sz,simprocAttr,iX]
 simp only[jh,jm]
 refine eW hv.1 (r1 .nil).len (fun j t df g=>df=[]/\St t [(1,.int .u64 (xs:Int)),(2,.int .u64 (zs:Int)),(7,.int .u64 (st j:Int))]) ⟨rfl,by simp[St,sx,hst0]⟩ (by simp[sx]) (by simp[sx]) (by decide)
  (by rintro j t df g v s (rfl | rfl | rfl | rfl | rfl | rfl | rfl)<;>simp[sx,St]) ?_ ?_
 ·rintro j t df g hj ⟨rfl,h1,h2,h7,-⟩ h8 h0
  have kI:∀g,ap C0 (d+1) N.aa [.int .u64 (xs:Int),.int .i64 (j:Int)] g=.val (.bool (xs.testBit j)):=fun g=>by rw[j7 (Nat.succ_pos d) (by omega) (by omega),me]
  cases hb:xs.testBit j with
  | true =>
   rw[hb] at kI
   have hB:=iV (mr (Eg p) (Bt zs) j [j].reverse) p.length
   have hA:=hstl j
   have kE:=fun (g:G) (h:g.h.get (g.nx - 1)=.cells 1 [[.int .i64 (j:Int)]] 0 false false) (hn:0<g.nx)=>Dh hG.hp hG.l8 hzs hj (p.length) (d:=d+1) (g:=g) (tr:=[j]) (v:=v') (w:=.hsl (g.nx - 1) 0 0 1 none) (P2:=fun _=>True) (k2:=0) (by omega) (Nat.succ_pos d) (r1 g.h)
    (Own.intsV (b:=0) (l:=[(j:Int)]) (.inr ⟨g.nx - 1,0,false,by omega,by omega,rfl,h⟩) (by show 1<9223372036854775808;decide) |>.wd fun _ _=>⟨trivial,rfl⟩) .one
   have kE:=kE (g.new (.cells 1 [[.int .i64 (j:Int)]] 0 false false)) (by simp[H.get_put]) (by simp)
   simp only[G.new_nx,Nat.add_sub_cancel] at kE
   simp only[sz,simprocAttr,h0,h1,h2,h7,h8,kI,kE,eY (st j) _ (by omega) (show S.aa (mr (Eg p) (Bt zs) j [j].reverse) p.length<18446744073709551616 by omega)]
   rw[<-hsty j hb]
   simp[St,sx,h1,h2]
  | false =>
   rw[hb] at kI
   simp only[sz,simprocAttr,h0,h1,h8,kI]
   rw[hstn j fun h=>by have h:xs.testBit j=true:=h;rw[hb] at h;cases h]
   simp[St,sx,h1,h2,h7]
 ·rintro t df g ⟨rfl,h1,h2,h7,-⟩ h0
  simp only[sz,simprocAttr,jn,h7]
  rw[hfin]
theorem zH {d k:Nat}{g:G}{P:Nat->Prop}{v:AV}{p:List Nat}{xs ys zs:Nat}(hd:0<d)(hv:SlR P k g.h p v)(hG:GOk p)(hxs:xs<2 ^ p.length)(hys:ys<2 ^ p.length)(hzs:zs<2 ^ p.length)(hxz:xs &&& zs=0) :
  ap C0 d N.aB [v,.int .u64 (xs:Int),.int .u64 (ys:Int),.int .u64 (zs:Int)] g=.val (.bool (decide (S.aA p xs zs &&& ys=0))):=by
 obtain ⟨v',e,r1⟩:=bN hv d
 have h256:=im hG.l8
 rw[oT]
 refine cL qz (xs:=[v',.int .u64 (xs:Int),.int .u64 (ys:Int),.int .u64 (zs:Int)]) (by simp only[az,e,aX]) (by simp[iO]) hd ?_
 have kR:=fun g=>zy (d:=d+1) (g:=g) (Nat.succ_pos d) (r1 g.h) hG hxs hzs hxz
 have hR:S.aA p xs zs<2 ^ p.length:=iV _ _
 simp only[sz,simprocAttr,iO,kR,bj _ _ (show S.aA p xs zs<18446744073709551616 by omega) (show ys<18446744073709551616 by omega)]
 have:decide (((S.aA p xs zs &&& ys:Nat):Int)=0)=decide (S.aA p xs zs &&& ys=0):=by
  by_cases h:S.aA p xs zs &&& ys=0
  ·simp[h]
  ·have:¬((S.aA p xs zs &&& ys:Nat):Int)=0:=by omega
   simp[h]
 rw[this]
def S.aN (p:List Nat)(xs ys zs:Nat):Bool:=decide (S.aE p [xs,ys,zs]=0)&&decide (S.aA p xs zs &&& ys=0)
theorem DO {n x y z:Nat}:S.aD n [x,y,z] 0=true↔x<2 ^ n/\y<2 ^ n/\y &&& x=0/\z<2 ^ n/\z &&& (x ||| y)=0:=by
 simp[S.aD,and_assoc]
theorem Fw {g:G}{id:Nat}{l:List Nat}(h:g.h.get id=.cells 1 (l.map cu) 0 false false)(hi:id<g.nx)  (hl:l.length<9223372036854775808)(hb:∀y∈l,y<18446744073709551616):SlR (fun i=>some id=some i) 0 g.h l (.hsl id 0 0 l.length none) :=
 Own.natsV (b:=0) (v:=.hsl id 0 0 l.length none) (.inr ⟨id,0,false,Nat.zero_le _,hi,by simp,h⟩) hl hb
theorem uF {α:Type} [Rp α]{x:α}{k:Nat}{h h':H}{v:AV}(r:Agg x NoP k h v):Agg x NoP k h' v:=by
 obtain ⟨cs,rfl,r⟩:=r
 exact ⟨cs,rfl,Rp.tree r (Nat.le_refl _)⟩
theorem yV {d:Nat}{g:G}{v:AV}{p:List Nat}{xs ys zs:Nat}(hd:0<d)(hv:SlR NoP 0 .nil p v)(hx:xs<18446744073709551616)(hy:ys<18446744073709551616)(hz:zs<18446744073709551616) :
  ap C0 d N.aq [v,.int .u64 (xs:Int),.int .u64 (ys:Int),.int .u64 (zs:Int)] g=.val (.tup [.bool (S.aN p xs ys zs),.int .i64 (S.aE p [xs,ys,zs])]):=by
 have key:∃r,ap C0 d N.aq [v,.int .u64 (xs:Int),.int .u64 (ys:Int),.int .u64 (zs:Int)] g=.val r/\wy (One (S.aN p xs ys zs)) (One (S.aE p [xs,ys,zs])) NoP 0 .nil r:=by
  have e:=lJ (h:=g.h) d (hv.tree (h':=g.h) (Nat.le_refl 0))
  have fin:∀{h:H} {r:Bool} {x:Int},S.aN p xs ys zs=r->S.aE p [xs,ys,zs]=x->∃P,wy (One (S.aN p xs ys zs)) (One (S.aE p [xs,ys,zs])) P 0 h (.tup [.bool r,.int .i64 x]):=fun h1 h2 =>
   ⟨fun _=>True,_,_,rfl,by rw[h1];exact m7.2 rfl,by rw[h2];exact bz.2 rfl⟩
  rw[lW]
  refine eS nU (xs:=[v,.int .u64 (xs:Int),.int .u64 (ys:Int),.int .u64 (zs:Int)]) (by simp only[az,e,aX]) (by simp[fI]) (nF (m:=1) (dE _) (dE _) (by decide) (by decide)) (by decide) hd ?_
  simp only[sz,simprocAttr,fI]
  refine jy (vz (Nat.succ_pos d) hv) fun z hz'=>?_
  obtain ⟨a,b,rfl,ha',hb⟩:=hz'
  have hA:=ha'
  obtain ⟨cs,rfl,hcs⟩:=ha'
  obtain ⟨_,_,rfl,ha,hb2⟩:=eK.1 hcs
  obtain ⟨pa,rfl,-⟩:=aF.1 ha
  obtain ⟨ch,rfl,-⟩:=aF.1 hb2
  obtain rfl:b=.int .i64 (if S.az p then (0:Int) else 70):=by simpa using bz.1 hb
  have ld:aL (.cells 2 [[pa,ch]] 0 false false) 0 0 true 2 0=.val (.agg [pa,ch]):=rfl
  cases hG:S.az p with
  | false =>
   have h70:S.aE p [xs,ys,zs]=70:=by simp[S.aE,hG]
   simp only[sz,simprocAttr,List.cons_append,List.nil_append]
   exact fin (by simp[S.aN,h70]) h70
  | true =>
   have hGo:=gF.1 hG
   have h256:=im hGo.l8
   rw[S.gr,hG,if_pos rfl,List.cons_append,List.nil_append] at hA
   have kD:∀g:G,g.h.get 1=.cells 1 [[.int .u64 (xs:Int)],[.int .u64 (ys:Int)],[.int .u64 (zs:Int)]] 0 false false->1<g.nx->ap C0 (d+1) N.au [.agg [pa,ch],.hsl 1 0 0 3 none] g=.val (.bool (S.aD p.length [xs,ys,zs] 0)) :=
    fun g h hn=>Dw (Nat.succ_pos d) (uF hA) (Fw (l:=[xs,ys,zs]) h hn (by simp) (by simp[hx,hy,hz])) hGo.l8
   have kR:=fun (h1:xs<2 ^ p.length) (h2:zs<2 ^ p.length) g=>Ak (d:=d+1) (g:=g) (Nat.succ_pos d) (uF hA) hGo.hp hGo.l1 hGo.l8 (CC hGo.hp) h1 h2
   simp only[sz,simprocAttr,List.cons_append,List.nil_append,ld,zC]
   rw[kD _ (by simp[sx,H.get_put]) (by simp)]
   cases hD:S.aD p.length [xs,ys,zs] 0 with
   | false =>
    have h2:S.aE p [xs,ys,zs]=2:=by simp[S.aE,hG,hD]
    simp only[sz,simprocAttr]
    exact fin (by simp[S.aN,h2]) h2
   | true =>
    have h0:S.aE p [xs,ys,zs]=0:=by simp[S.aE,hG,hD]
    obtain ⟨d1,d2,-,d3,-⟩:=DO.1 hD
    have hR:S.aA p xs zs<2 ^ p.length:=iV _ _
    have hq:decide (((S.aA p xs zs &&& ys:Nat):Int)=0)=decide (S.aA p xs zs &&& ys=0):=by
     by_cases h:S.aA p xs zs &&& ys=0
     ·simp[h]
     ·have:¬((S.aA p xs zs &&& ys:Nat):Int)=0:=by omega
      simp[h]
    simp only[sz,simprocAttr,H.get_put,ld,kR d1 d3,bj _ _ (show S.aA p xs zs<18446744073709551616 by omega) hy,hq]
    exact fin (by simp[S.aN,h0]) h0
 obtain ⟨r,h1,a,b,rfl,h2,h3⟩:=key
 have h2:=m7.1 h2
 have h3:=bz.1 h3
 injection h2 with h2
 injection h3 with h3
 rw[h1,h2,h3]
structure DAok (D:ND) (n i:Nat) (num:Nat->Nat):Prop where
 e:∀v,v<n->D.P v=[]/\D.m v=0
 c:∀k,k<i->D.c (num k)=2\/D.c (num k)=3
 o:∀u,D.o u=0
def LDA (n q:Nat)(r5:AV):List (Nat×AV):=[(1,.hptr 0 0 0 0),(2,.hptr 1 0 0 0),(3,.int .i64 (n:Int)),(4,.hptr q 0 0 0),(5,r5)]
structure DA (r0:List AV) (n q:Nat) (gr:Int) (r5:AV) (num:Nat->Nat) (i:Nat) (t:T) (g:G):Prop where
 st:St t (LDA n q r5)
 w:∃w:Nat,tat t 6=.int .i64 (w:Int)/\w<=3 ^ i
 hd:∃V E D,DN X1 r0 n q 1000 gr V E D g/\DAok D n i num
section
variable {κ:Type} [DecidableEq κ]{g:G}{b:Nat}{L:κ->Prop}{V:κ->AV}{E:κ->En}{k:κ}
end
theorem y8 (m n:Nat):∃z:Nat,aS .shr (.int .u8 (m:Int)) (.int .u64 (n:Int))=.val (.int .u8 (z:Int)) :=
 ⟨m / 2 ^ (Nat.min n 8),rfl⟩
theorem zL (m n:Nat):∃z:Int,aS .and (.int .u8 (m:Int)) (.int .u8 (n:Int))=.val (.int .u8 z):=by
 have:∃z:Int,Op.intBits .and .u8 (.ofNat m) (.ofNat n)=.pure (.int .u8 z):=⟨_,rfl⟩
 obtain ⟨z,hz⟩:=this
 refine ⟨z,?_⟩
 show orV (k_ (Op.intBits .and .u8 (.ofNat m) (.ofNat n)))=_
 rw[hz];rfl
structure DB (D:ND) (n i v:Nat) (num:Nat->Nat):Prop where
 c:∀u,u<n->D.c u=2\/D.c u=3
 p:∀u,u<n->(D.P u).length<=3/\∀y∈D.P u,0<=y/\y<n
 m:∀u,u<n->D.m u<=64
 o:∀u,D.o u=0
 f:∀k,i<k->k<n->D.P (num k)=[]/\D.m (num k)=0
def S.bD (P0:List Int)(c0:Nat->Int):Int:=S.aH (P0.map fun y=>c0 y.toNat)
structure DOk (gr:Int) (D:ND) (n i:Nat) (num:Nat->Nat):Prop where
 s:∀u,u<n->(D.P u).Pairwise (·<·)
 a:∀k,k<n->∀y∈D.P (num k),∃k',k'<k/\y=(num k':Int)
 w:∀k,k<i->(D.m (num k):Int)=S.bD (D.P (num k)) D.c
 r:∀u r,u<n->r<D.m u->Fs gr (D.c u) (D.R u r)
structure DP (r0 prow:List AV) (n q i p v:Nat) (gr:Int) (r5:AV) (num:Nat->Nat) (g:G) (V:Ky->AV) (E:Ky->En) (D:ND):Prop where
 dn:DN X2 r0 n q 1000 gr V E D g
 pb:V (0,2)=.hptr p 0 0 0/\E (0,2)=.bx prow
 db:DB D n i v num
 mv:D.m v=0
 ok:DOk gr D n i num
theorem DP.p {r0 prow:List AV}{n q i p v:Nat}{gr:Int}{r5:AV}{num:Nat->Nat}{g:G}{V:Ky->AV}{E:Ky->En}{D:ND}(h:DP r0 prow n q i p v gr r5 num g V E D):g.h.get p=.cells prow.length [prow] 0 false false/\2<=p/\p<g.nx:=by
 obtain ⟨id,h1,h2,h3,h4⟩:=h.dn.hp.box (k:=(0,2)) (.inr (.inr rfl)) h.pb.2
 rw[h.pb.1] at h3;injection h3 with h3;subst h3
 exact ⟨h4,h1,h2⟩
end
end Hx
end
section
namespace Hx
open Go
noncomputable section
abbrev ua:=List UInt8×List UInt8
def Fx:VS:=fun P k h v=>∃p:List Nat,(GOk p/\p.length<=6)/\One p P k h v
def LGp (n:Nat)(u v:AV):List (Nat×AV):=[(1,.hptr 0 0 0 0),(3,.int .i64 (n:Int)),(4,u),(8,v)]
structure GD (a b u v:AV) (n:Nat) (num:Nat->Nat) (pl:List Int) (Y:List Nat) (g:G):Prop where
 h0:g.h.get 0=.cells 2 [[a,b]] 0 false false
 nu:Own g 1 u 1 (pl.map ci)
 ou:Own g 1 v 1 (Y.map cu)
 ne:∀i,vid u=some i->vid v≠some i
 ni:NumI n num Y
section
variable {d n:Nat}{a b u v:AV}{num:Nat->Nat}{pl:List Int}
theorem y3 {Q:QT}{t:T}{g:G}{Y:List Nat}{i:Nat}{ps:List UInt8}{rows:List (List AV)}(n6:n<=6)(hN:Num n pl num)(hi:i<n)(hip:i<ps.length)(ra:∀h,aw h 1 a=some rows)(rl:rows.length=ps.length)(rg:∀(k:Nat) (x:UInt8),ps[k]?=some x->rows[k]?=some [.int .u8 (x.toNat:Int)])
  (hD:GD a b u v n num pl Y g) (ht:St t ((9,.int .i64 (i:Int))::LGp n u v)) (h10:tat t 10=.int .i64 0) (h11:tat t 11=.int .i64 0)
  (fin:∀t g' Y',St t ((9,.int .i64 (i:Int))::LGp n u v)->GD a b u v n num pl Y' g'->g.nx<=g'.nx->Q (.exit 4) t [] g'):wpL (wp C0 d none cF) Q t [] g:=by
 simp only[cF,eC]
 refine np i (by omega) (fun k t df g'=>df=[]/\g.nx<=g'.nx/\St t ((9,.int .i64 (i:Int))::LGp n u v)/\(∃c:Int,0<=c/\c<=3/\tat t 10=.int .i64 c)/\∃Y',GD a b u v n num pl Y' g')
  ⟨rfl,Nat.le_refl _,ht,⟨0,by omega,by omega,h10⟩,Y,hD⟩ h11 (by decide)
  (by rintro k t df g v s (rfl | rfl | rfl) ⟨a1,a0,⟨b1,b2,b3,b4,b5,-⟩,⟨c,c1,c2,c3⟩,a2⟩<;>exact ⟨a1,a0,by simp[St,LGp,sx,b1,b2,b3,b4,b5],⟨c,c1,c2,by simp[sx,c3]⟩,a2⟩) ?_ ?_ ?_
 ·rintro k t df g' hk ⟨rfl,hn,⟨h9,h1,h3,h4,h8,-⟩,⟨c,c1,c2,h10⟩,Y',hD⟩ h11
  simp only[sz,simprocAttr,h9,h11]
  exact ⟨hn,by simp[St,LGp,sx,h1,h3,h4,h8,h9],⟨c,c1,c2,h10⟩,Y',hD⟩
 ·rintro k t df g1 hk ⟨rfl,hn,⟨h9,h1,h3,h4,h8,-⟩,⟨c,c1,c2,h10⟩,Y',hD⟩ h11
  obtain ⟨x,hx⟩:∃x,ps[i]?=some x:=⟨_,List.getElem?_eq_getElem hip⟩
  have hx8:x.toNat<256:=x.toNat_lt
  have hrx:=rg i x hx
  have hlt:i<rows.length:=by omega
  obtain ⟨z1,s1⟩:=y8 x.toNat k
  obtain ⟨z2,s2⟩:=zL z1 1
  have s2:aS .and (.int .u8 (z1:Int)) (.int .u8 1)=.val (.int .u8 z2):=s2
  have wk:IntKind.wrap .u64 (k:Int)=(k:Int):=bk (by omega) (by omega)
  have lg1:aL (.cells 2 [[a,b]] 0 false false) 0 0 false 1 0=.val a:=rfl
  have ry:p_ a=true:=s7 (ra .nil) hlt
  by_cases e1:z2=1
  ·by_cases e2:c<3
   ·subst e1
    have hpl:=hN.at_ i hi
    have hpk:=hN.at_ k (by omega)
    have hnl:=hN.lt i hi
    have hkl:=hN.lt k (by omega)
    have q1:(pl.map ci)[i]?=some (ci (num i:Int)):=by rw[List.getElem?_map,hpl];rfl
    have q2:(pl.map ci)[k]?=some (ci (num k:Int)):=by rw[List.getElem?_map,hpk];rfl
    have z1:i<(pl.map ci).length:=by rw[List.length_map,hN.len];exact hi
    have z2:k<(pl.map ci).length:=by rw[List.length_map,hN.len];omega
    have rn:=hD.nu.rows
    have ro:=hD.ou.rows
    obtain ⟨y,hy⟩:∃y,Y'[num i]?=some y:=⟨_,List.getElem?_eq_getElem (by rw[hD.ni.l];exact hnl)⟩
    have q3:(Y'.map cu)[num i]?=some (cu y):=by rw[List.getElem?_map,hy];rfl
    have z3:num i<(Y'.map cu).length:=by rw[List.length_map,hD.ni.l];exact hnl
    have hG:=BK hN (by omega) (by omega) hD.ni
    have hyl:y<18446744073709551616:=by
     have:=hG.hp y (List.mem_of_getElem? hy)
     have:=im hG.l8
     omega
    have hsh:aS .shl (.int .u64 1) (.int .u64 (num k:Int))=.val (.int .u64 ((2 ^ num k:Nat):Int)):=by rw[aI,cq (by omega)]
    have h2k:(2:Nat) ^ num k<=2 ^ 6:=Nat.pow_le_pow_right (by decide) (by omega)
    have wn:IntKind.wrap .u64 (num k:Int)=(num k:Int):=bk (by omega) (by omega)
    have wc:IntKind.wrap .i64 (c+1)=c+1:=dO (by omega) (by omega)
    have hni:=AF hN hD.ni hi hk hy
    simp only[sz,simprocAttr,sf,h1,h4,h8,h9,h10,h11,hD.h0,lg1,ra,hlt,hrx,ry,wk,s1,s2,e2,rn,ro,q1,q2,q3,z1,z2,z3,ci,cu,wn,hsh,eY y _ hyl (show (2:Nat) ^ num k<18446744073709551616 by omega)]
    refine lB (v:=v) (sz:=1) (n:=1) (i:=num i) (off:=0) (x:=.int .u64 ((y ||| 2 ^ num k:Nat):Int)) (row':=cu (y ||| 2 ^ num k)) (hD.ou.fr (by simp;omega) fun i _=>by simp) q3 rfl rfl rfl fun g4 hu4 n4 f4=>?_
    rw[show ((Y'.map cu).set (num i) (cu (y ||| 2 ^ num k)))=(Y'.set (num i) (y ||| 2 ^ num k)).map cu from by rw[<-List.map_set]] at hu4
    have f4':∀i,vid v≠some i->g4.h.get i=g1.h.get i:=fun i hi=>by rw[f4 i hi];simp
    have n4':g1.nx<=g4.nx:=by rw[n4];simp;omega
    simp only[sz,simprocAttr,h10,wc]
    refine ⟨?_,?_⟩
    ·simp only[List.reverse_cons,List.reverse_nil,List.nil_append,List.cons_append]
     exact mS [false,false,false,false,false,false,false,false,false,false,false,false,false,false,false,false,false,false,false,false,true] [] (by simp[All2,au,aV]) (by decide) (by simp)
    refine ⟨⟨by omega,by simp[St,LGp,sx,h1,h3,h4,h8,h9],⟨c+1,by omega,by omega,rfl⟩,_,⟨?_,?_,?_,hD.ne,hni⟩⟩,h11⟩
    ·simp only[bumpG_h]
     rw[f4' 0 fun e=>by have:=(hD.ou.lt e).1;omega,hD.h0]
    ·exact hD.nu.fr (by simp;omega) fun i hi=>by simp only[bumpG_h];exact f4' i (hD.ne i hi)
    ·exact hu4.fr (by simp) fun i _=>by simp
   ·simp only[sz,simprocAttr,h1,h8,h9,h10,h11,hD.h0,lg1,ra,hlt,hrx,ry,wk,s1,s2,e1,e2]
    exact ⟨hn,by simp[St,LGp,sx,h1,h3,h4,h8,h9],⟨c,c1,c2,rfl⟩,Y',hD⟩
  ·simp only[sz,simprocAttr,h1,h8,h9,h11,hD.h0,lg1,ra,hlt,hrx,ry,wk,s1,s2,e1]
   exact ⟨hn,by simp[St,LGp,sx,h1,h3,h4,h8,h9],⟨c,c1,c2,h10⟩,Y',hD⟩
 ·rintro t df g' ⟨rfl,hn,ht,-,Y',hD⟩
  exact fin t g' Y' ht hD hn
theorem zk {Q:QT}{t:T}{g:G}{Y:List Nat}{ps:List UInt8}{rows:List (List AV)}(n6:n<=6)(hN:Num n pl num)(al:∀g,dc .slice a g=.val (.int .i64 (ps.length:Int)))(ra:∀h,aw h 1 a=some rows)(rl:rows.length=ps.length)(rg:∀(k:Nat) (x:UInt8),ps[k]?=some x->rows[k]?=some [.int .u8 (x.toNat:Int)])
  (hD:GD a b u v n num pl Y g) (ht:St t (LGp n u v)) (h9:tat t 9=.int .i64 0)
  (fin:∀t g' Y',St t (LGp n u v)->GD a b u v n num pl Y' g'->Q (.exit 2) t [] g'):wpL (wp C0 d none cC) Q t [] g:=by
 simp only[cC,eQ]
 have lg1:aL (.cells 2 [[a,b]] 0 false false) 0 0 false 1 0=.val a:=rfl
 refine np (min n ps.length) (by omega) (fun i t df g'=>df=[]/\St t (LGp n u v)/\∃Y',GD a b u v n num pl Y' g')
  ⟨rfl,ht,Y,hD⟩ h9 (by decide)
  (by rintro k t df g v s (rfl | rfl | rfl) ⟨a1,⟨b1,b2,b3,b4,-⟩,a2⟩<;>exact ⟨a1,by simp[St,LGp,sx,b1,b2,b3,b4],a2⟩) ?_ ?_ ?_
 ·rintro i t df g' hk ⟨rfl,⟨h1,h3,h4,h8,-⟩,Y',hD⟩ h9
  by_cases c1:i<n
  ·simp only[sz,simprocAttr,h1,h3,h9,hD.h0,lg1,al,show (i:Int)<(n:Int) from by omega]
   refine ⟨?_,by simp[St,LGp,sx,h1,h3,h4,h8],Y',hD⟩
   congr 1
   exact decide_eq_decide.2 (by omega)
  ·simp only[sz,simprocAttr,h3,h9,show ¬(i:Int)<(n:Int) from by omega]
   refine ⟨?_,by simp[St,LGp,sx,h1,h3,h4,h8],Y',hD⟩
   congr 1
   exact (decide_eq_false (by omega)).symm
 ·rintro i t df g1 hk ⟨rfl,⟨h1,h3,h4,h8,-⟩,Y',hD⟩ h9
  simp only[sz,simprocAttr]
  refine y3 (i:=i) (ps:=ps) n6 hN (by omega) (by omega) ra rl rg hD (by simp[St,LGp,sx,h1,h3,h4,h8,h9]) (by simp[sx]) (by simp[sx]) ?_
  rintro t g' Y' ⟨h9,ht⟩ hD hn
  simp only[sz,simprocAttr]
  exact ⟨⟨ht,Y',hD⟩,h9⟩
 ·rintro t df g' ⟨rfl,ht,Y',hD⟩
  exact fin t g' Y' ht hD
theorem zQ {Q:QT}{t:T}{g:G}{os:List UInt8}{rows:List (List AV)}(n6:n<=6)(bl:∀g,dc .slice b g=.val (.int .i64 (os.length:Int)))(rb:∀h,aw h 1 b=some rows)(rl:rows.length=os.length)(rg:∀(k:Nat) (x:UInt8),os[k]?=some x->rows[k]?=some [.int .u8 (x.toNat:Int)])
  (h0:g.h.get 0=.cells 2 [[a,b]] 0 false false) (hn1:1<=g.nx) (ht:St t [(1,.hptr 0 0 0 0),(3,.int .i64 (n:Int)),(4,.nils)]) (h5:tat t 5=.int .i64 0)
  (fin:∀t g' u,St t [(1,.hptr 0 0 0 0),(3,.int .i64 (n:Int)),(4,u)]->g'.h.get 0=.cells 2 [[a,b]] 0 false false->1<=g'.nx->Own g' 1 u 1 ((S.ap os n).map ci)->Q (.exit 0) t [] g'):wpL (wp C0 d none cA) Q t [] g:=by
 simp only[cA,eN]
 have lg2:aL (.cells 2 [[a,b]] 0 false false) 0 0 false 1 1=.val b:=rfl
 refine np n (by omega) (fun j t df g=>df=[]/\g.h.get 0=.cells 2 [[a,b]] 0 false false/\1<=g.nx/\∃u,St t [(1,.hptr 0 0 0 0),(3,.int .i64 (n:Int)),(4,u)]/\Own g 1 u 1 ((S.ap os j).map ci))
  ⟨rfl,h0,hn1,.nils,ht,.inl ⟨rfl,rfl⟩⟩ h5 (by decide)
  (by rintro k t df g v s (rfl | rfl | rfl) ⟨a1,a2,a3,u,⟨b1,b2,b3,-⟩,a4⟩<;>exact ⟨a1,a2,a3,u,by simp[St,sx,b1,b2,b3],a4⟩) ?_ ?_ ?_
 ·rintro j t df g hj ⟨rfl,hg,hnx,u,⟨h1,h3,h4,-⟩,hu⟩ h5
  simp only[sz,simprocAttr,h3,h5]
  exact ⟨hg,hnx,u,by simp[St,sx,h1,h3,h4],hu⟩
 ·rintro j t df g hj ⟨rfl,hg,hnx,u,⟨h1,h3,h4,-⟩,hu⟩ h5
  have hpl:((S.ap os j).map ci).length=j:=by rw[List.length_map,kW]
  have hle:S.aO os j<=j:=by
   unfold S.aO;split
   ·have:=Nat.mod_lt ((os[j]?.map UInt8.toNat).getD 0) (show 0<j+1 by omega);omega
   ·omega
  have key:∀(t:T) (Q:QT),St t [(1,.hptr 0 0 0 0),(3,.int .i64 (n:Int)),(4,u)]->tat t 5=.int .i64 (j:Int)->tat t 6=.int .i64 (S.aO os j:Int) ->
    (∀(t':T) (g':G),(∃u,St t' [(1,.hptr 0 0 0 0),(3,.int .i64 (n:Int)),(4,u)]/\Own g' 1 u 1 ((S.ap os (j+1)).map ci))->tat t' 5=.int .i64 (j:Int)->g'.h.get 0=.cells 2 [[a,b]] 0 false false->1<=g'.nx->Q .norm t' [] g') ->
    wp C0 d none cB Q t [] g:=by
   rintro t Q ⟨h1,h3,h4,-⟩ h5 h6 kk
   obtain ⟨y1,s1,w1⟩:=wP hu (n:=S.aO os j) (by omega)
   simp only[sz,simprocAttr,cB,h4,h6,List.head?_nil,List.head?_cons,s1]
   refine bP (rows:=[]) (b:=1) (.inl ⟨rfl,rfl⟩) w1 hnx (by simp[dB];omega) fun v1 g1 hv1 n1 f1 vid1 _=>?_
   simp only[sz,simprocAttr,h5]
   refine bP (new:=[ci (j:Int)]) (hv1.step (Fr.new _ _)) (by simp[sx,sy,ci]) (by simp) (by simp[dB,kW];omega) fun v2 g2 hv2 n2 f2 vid2 _=>?_
   have hu1:Own g1 1 u 1 ((S.ap os j).map ci):=hu.fr n1 fun i hi=>f1 i (hu.lt hi).2 (by simp[vid])
   have hnv:∀i,i<g.nx->vid v1≠some i:=fun i hi e=>by
    rcases vid1 with h | ⟨i',h,hi'⟩
    ·rw[h] at e;cases e
    ·rw[h] at e;injection e with e;omega
   have hu2:Own g2 1 u 1 ((S.ap os j).map ci):=hu1.fr (by simp at n2;omega) fun i hi=>by
    have hlt:=(hu.lt hi).2
    rw[f2 i (by simp;omega) (hnv i hlt),G.new_h,bO _ _ _ (by omega)]
   obtain ⟨y2,s2,w2⟩:=vY hu2 (n:=S.aO os j) (by omega)
   simp only[sz,simprocAttr,h4,h6,List.head?_nil,List.head?_cons,s2]
   refine bP hv2 w2 (by simp at n2;omega) (by simp[dB,kW];omega) fun v3 g3 hv3 n3 f3 _ _=>?_
   simp only[sz,simprocAttr]
   refine kk _ _ ⟨v3,by simp[St,sx,h1,h3],?_⟩ (by simp[sx,h5]) ?_ (by simp at n2;omega)
   ·simpa [S.ap,List.map_take,List.map_drop] using hv3
   ·rw[f3 0 (by simp at n2;omega) (fun e=>by have:=(hv2.lt e).1;omega),f2 0 (by simp) (hnv 0 (by omega)),G.new_h,bO _ _ _ (by omega),f1 0 (by omega) (by simp[vid]),hg]
  by_cases hb:j<os.length
  ·obtain ⟨y,hy⟩:∃y,os[j]?=some y:=⟨_,List.getElem?_eq_getElem hb⟩
   have z1:=rg j y hy
   have hy8:y.toNat<256:=y.toNat_lt
   have hlt:j<rows.length:=by omega
   have ry:p_ b=true:=s7 (rb .nil) hlt
   have hat:((S.aO os j:Nat):Int)=(y.toNat:Int) % ((j:Int)+1):=by
    unfold S.aO;rw[if_pos hb,hy];simp
   simp only[sz,simprocAttr,h1,h5,hg,lg2,bl,show (j:Int)<(os.length:Int) from by omega,rb,hlt,z1,ry,dO (show -9223372036854775808<=(y.toNat:Int) by omega) (show (y.toNat:Int)<9223372036854775808 by omega),dO (show -9223372036854775808<=(j:Int)+1 by omega) (show (j:Int)+1<9223372036854775808 by omega),tZ .i64 (show (0:Int)<=(y.toNat:Int) by omega) (show 0<(j:Int)+1 by omega)]
   refine key _ _ (by simp[St,sx,h1,h3,h4]) (by simp[sx,h5]) (by simp[sx,hat]) fun t' g' eu e5 e0 en=>?_
   simp only[sy,e5,e0]
   exact ⟨en,eu⟩
  ·have hat:S.aO os j=0:=by unfold S.aO;rw[if_neg hb]
   simp only[sz,simprocAttr,h1,h5,hg,lg2,bl,show ¬(j:Int)<(os.length:Int) from by omega]
   refine key _ _ (by simp[St,sx,h1,h3,h4]) (by simp[sx,h5]) (by simp[sx,hat]) fun t' g' eu e5 e0 en=>?_
   simp only[sy,e5,e0]
   exact ⟨en,eu⟩
 ·rintro t df g ⟨rfl,hg,hnx,u,ht,hu⟩
  exact fin t g u ht hg hnx hu
theorem zV {k:Nat}{g:G}{P:Nat->Prop}{v:AV}{x:ua}(hd:0<d)(hm:Agg x P k g.h v) :
  ∃r,ap C0 d N.aC [v] g=.val r/\Fx NoP 0 .nil r:=by
 obtain ⟨v',e,cs,rfl,hc⟩:=A7 (t_ x) (by decide) d hm
 obtain ⟨_,_,rfl,hA',hB'⟩:=eK.1 hc
 obtain ⟨a,rfl,hA⟩:=aF.1 hA'
 obtain ⟨b,rfl,hB⟩:=aF.1 hB'
 obtain ⟨rows,r1,r2,r3,r4⟩:=hB.all
 have r1:∀h',aw h' 1 b=some rows:=r1
 obtain ⟨rows2,q1,q2,q3,q4⟩:=hA.all
 have q1:∀h',aw h' 1 a=some rows2:=q1
 have rg:∀(k:Nat) (y:UInt8),x.2[k]?=some y->rows[k]?=some [.int .u8 (y.toNat:Int)]:=fun k y hy=>by
  obtain ⟨row,z1,z2⟩:=r3 k y hy
  rw[z1,BR.1 z2]
 have qg:∀(k:Nat) (y:UInt8),x.1[k]?=some y->rows2[k]?=some [.int .u8 (y.toNat:Int)]:=fun k y hy=>by
  obtain ⟨row,z1,z2⟩:=q3 k y hy
  rw[z1,BR.1 z2]
 obtain ⟨n,hn⟩:∃n,n=min (max x.1.length 1) 6:=⟨_,rfl⟩
 have n1:1<=n:=by omega
 have n6:n<=6:=by omega
 obtain ⟨num,hN⟩:=EJ x.2 n
 rw[jG]
 refine eS kw (xs:=[.agg ([a]++[b])]) (by simp only[az,e]) (by simp[dN]) (tT fun o=>dE _) (by decide) hd ?_
 have lg1:aL (.cells 2 [[a,b]] 0 false false) 0 0 false 1 0=.val a:=rfl
 simp only[sz,simprocAttr,dN,fk,List.cons_append,List.nil_append,lg1,hA.len]
 have en:min (max (x.1.length:Int) 1) 6=(n:Int):=by omega
 rw[en]
 refine zQ (a:=a) (b:=b) (n:=n) (os:=x.2) n6 hB.len r1 r2 rg (by simp[sx]) (by simp) (by simp[St,sx]) (by simp[sx]) ?_
 rintro t g u ⟨h1,h3,h4,-⟩ g0 hnx hu
 simp only[sz,simprocAttr,eT,h3]
 refine yR (b:=1) (n:=n) (bytes:=8) (sz:=1) (zero:=[.int .u64 0]) (by unfold dB;omega) (by unfold dB;omega) hnx fun w g1 hw n1' f1 hvid=>?_
 have hN0:NumI n num (List.replicate n 0):=zK
 have e0:(List.replicate n [AV.int .u64 0])=(List.replicate n 0).map cu:=by rw[List.map_replicate];rfl
 rw[e0] at hw
 have hD:GD a b u w n num (S.ap x.2 n) (List.replicate n 0) g1:=⟨by rw[f1 0 (by omega),g0],hu.fr (by omega) fun i hi=>f1 i (hu.lt hi).2,hw,fun i hi e=>by rw[hvid] at e;injection e with e;have:=(hu.lt hi).2;omega,hN0⟩
 simp only[sz,simprocAttr]
 refine zk (ps:=x.1) n6 hN hA.len q1 q2 qg hD (by simp[St,LGp,sx,h1,h3,h4]) (by simp[sx]) ?_
 rintro t g' Y' ⟨-,-,-,h8,-⟩ hD
 simp only[sz,simprocAttr,eU,h8]
 have hG:=BK hN n1 (by omega) hD.ni
 refine ⟨fun _=>True,Y',⟨hG,by rw[hD.ni.l];exact n6⟩,_,rfl,hD.ou.nats' (by rw[hD.ni.l];omega) fun y hy=>?_⟩
 have:=hG.hp y hy
 have:=im hG.l8
 omega
end
end
end Hx
end
section
namespace Hx
open Go
noncomputable section
theorem Ep {w:AV}{l:List Nat}(hw:SlR NoP 0 .nil l w)(hr:Raw w){c:Nat}(hc:c<=l.length) :
  ∃w',(∀g,uf 1 w none (some (.int .i64 (c:Int))) g=.val w')/\SlR NoP 0 .nil (l.take c) w'/\Raw w':=by
 have hlt:(l.take c).length<9223372036854775808:=by have:=hw.1;rw[List.length_take];omega
 rcases hr with rfl | ⟨rows,rfl⟩
 ·have hl:l=[]:=hw.2
  subst hl
  have:c=0:=by simpa using hc
  subst this
  exact ⟨.nils,fun g=>rfl,⟨hlt,by simp[SlV]⟩,.inl rfl⟩
 ·obtain ⟨h0,h1,h2⟩:=(show 0<=0/\(1=Rp.sz Nat\/rows=[])/\All2 (Rp.rp NoP 0 .nil) l rows from hw.2)
  have hlen:=h2.len
  refine ⟨.tsl 0 1 (rows.take c),fun g=>?_,⟨hlt,?_⟩,.inr ⟨_,rfl⟩⟩
  ·show orV (match aO (aQ rows) (aQ rows) (some (.int .i64 (.ofNat c))) with
    | none=>none
    | some h=>match aO 0 h none with
     | none=>none
     | some l=>af (Nat.beq 1 1) (some (.tsl 0 1 (fm (h - l) (eF l rows)))) none)=_
   have:aO (aQ rows) (aQ rows) (some (.int .i64 (.ofNat c)))=some c:=by
    show af (Nat.ble c (aQ rows)) (some c) none=_
    rw[aa,if_pos]
    rw[am,<-hlen];simp;omega
   rw[this]
   show orV (af (Nat.beq 1 1) (some (AV.tsl 0 1 (fm (c - 0) (eF 0 rows)))) none)=_
   rw[show Nat.beq 1 1=true from rfl,bif'_true,aT,aU,List.drop_zero,Nat.sub_zero];rfl
  ·exact ⟨Nat.le_refl _,h1.elim .inl (fun h=>.inr (by rw[h];simp)),h2.take c⟩
def GsV:VS:=fun P k h v=>∃y:List Nat×List Nat,True/\Agg y P k h v
theorem E3:Snb GsV 1:=tT fun o=>t_ _
theorem zE {p l:List Nat}:S.aE p l=0↔GOk p/\S.aD p.length l 0=true:=by
 rw[S.aE]
 cases h1:S.az p with
 | false=>simp;intro h;rw[gF.2 h] at h1;cases h1
 | true =>
  cases h2:S.aD p.length l 0 with
  | false=>simp
  | true=>simp[gF.1 h1]
theorem AN (x:Int):∃m:Nat,IntKind.wrap .u64 x=(m:Int)/\m<18446744073709551616:=by
 refine ⟨(x % 18446744073709551616).toNat,?_,by omega⟩
 show x % 18446744073709551616=_
 omega
theorem uL {p:List Nat}{x y z:Nat}(hG:GOk p)(hx:x<2 ^ p.length)(hy:y<2 ^ p.length)(hz:z<2 ^ p.length)(h1:y &&& x=0)(h2:z &&& x=0)(h3:z &&& y=0):S.aE p [x,y,z]=0:=by
 refine zE.2 ⟨hG,DO.2 ⟨hx,hy,h1,hz,?_⟩⟩
 exact yQ.2 fun v h=>(Ek.1 h.2).elim (fun h'=>yQ.1 h2 v ⟨h.1,h'⟩) fun h'=>yQ.1 h3 v ⟨h.1,h'⟩
theorem Fk (a b c e f:AV)(t:T):bB 0 [a,b,c,e,f] t=cg (cg (cg (cg (cg t 0 a) 1 b) 2 c) 3 e) 4 f:=rfl
theorem Fu (a b c e f i:AV)(t:T):bB 0 [a,b,c,e,f,i] t=cg (cg (cg (cg (cg (cg t 0 a) 1 b) 2 c) 3 e) 4 f) 5 i:=rfl
def S.aq (n:Nat)(x y:Int)(zs seen:Nat):Bool:=S.aK n x y&&decide (zs<2 ^ n)&&decide (seen<2 ^ n)&&!zs.testBit x.toNat&&!zs.testBit y.toNat
def S.aB (p:List Nat)(x y:Int)(zs seen:Nat):Int:=if S.az p then (if S.aq p.length x y zs seen then 0 else 2) else 70
def S.an (p:List Nat)(a b zs:Nat):Bool:=decide (S.dn p (2 ^ a) p.length &&& zs=0)&&S.aN (S.wo p (2 ^ a)) (2 ^ a) (2 ^ b) zs
theorem pY {n:Nat}{x y:Int}:S.aK n x y=true↔∃a b:Nat,x=a/\y=b/\a<n/\b<n/\a≠b:=by
 rw[S.aK,decide_eq_true_iff]
 constructor
 ·rintro ⟨h1,h2,h3,h4,h5⟩
  exact ⟨x.toNat,y.toNat,by omega,by omega,by omega,by omega,by omega⟩
 ·rintro ⟨a,b,rfl,rfl,h1,h2,h3⟩
  exact ⟨by omega,by omega,by omega,by omega,by omega⟩
theorem zh {p:List Nat}{x y:Int}{zs seen:Nat}(h:S.aB p x y zs seen=0):GOk p/\∃a b:Nat,x=a/\y=b/\a<p.length/\b<p.length/\a≠b/\zs<2 ^ p.length/\zs.testBit a=false/\zs.testBit b=false:=by
 unfold S.aB at h
 split at h
 ·rename_i hG
  split at h
  ·rename_i ha
   simp only[S.aq,Bool.and_eq_true,decide_eq_true_iff,Bool.not_eq_true'] at ha
   obtain ⟨⟨⟨⟨h1,h2⟩,-⟩,h3⟩,h4⟩:=ha
   obtain ⟨a,b,rfl,rfl,h5,h6,h7⟩:=pY.1 h1
   exact ⟨gF.1 hG,a,b,rfl,rfl,h5,h6,h7,h2,h3,h4⟩
  ·cases h
 ·cases h
theorem Bz {p:List Nat}:S.aE p []=if S.az p then 0 else 70:=by
 unfold S.aE
 cases S.az p<;>rfl
theorem B8 {d k:Nat}{g:G}{P:Nat->Prop}{v:AV}{p:List Nat}{x y:Int}{zs seen:Nat}(hd:0<d)(hv:SlR P k g.h p v)(hz:zs<18446744073709551616)(hs:seen<18446744073709551616) :
  ap C0 d N.aT [v,.int .i64 x,.int .i64 y,.int .u64 (zs:Int),.int .u64 (seen:Int)] g=.val (.bool (S.aq p.length x y zs seen)):=by
 obtain ⟨v',e,r1⟩:=bN hv d
 have vl:∀g,dc .slice v' g=.val (.int .i64 (p.length:Int)):=fun g=>(r1 .nil).len g
 have hl:=hv.1
 have wk:IntKind.wrap .u64 (p.length:Int)=(p.length:Int):=bk (by omega) (by omega)
 rw[ox]
 refine cL qm (xs:=[v',.int .i64 x,.int .i64 y,.int .u64 (zs:Int),.int .u64 (seen:Int)]) (by simp only[az,e,aX]) (by simp[bf]) hd ?_
 rw[Fk]
 by_cases c1:x<0
 ·have:S.aq p.length x y zs seen=false:=by rw[S.aq,show S.aK p.length x y=false from decide_eq_false (by omega)];rfl
  simp only[sz,simprocAttr,bf,vl,c1,this]
 by_cases c2:(p.length:Int)<=x
 ·have:S.aq p.length x y zs seen=false:=by rw[S.aq,show S.aK p.length x y=false from decide_eq_false (by omega)];rfl
  simp only[sz,simprocAttr,bf,vl,c1,c2,this]
 by_cases c3:y<0
 ·have:S.aq p.length x y zs seen=false:=by rw[S.aq,show S.aK p.length x y=false from decide_eq_false (by omega)];rfl
  simp only[sz,simprocAttr,bf,vl,c1,c2,c3,this]
 by_cases c4:(p.length:Int)<=y
 ·have:S.aq p.length x y zs seen=false:=by rw[S.aq,show S.aK p.length x y=false from decide_eq_false (by omega)];rfl
  simp only[sz,simprocAttr,bf,vl,c1,c2,c3,c4,this]
 by_cases c5:x=y
 ·have:S.aq p.length x y zs seen=false:=by rw[S.aq,show S.aK p.length x y=false from decide_eq_false (by omega)];rfl
  have c':decide (x=y)=true:=decide_eq_true c5
  simp only[sz,simprocAttr,bf,vl,c1,c2,c3,c4,c',this]
 have c5':decide (x=y)=false:=decide_eq_false c5
 have h2:S.aK p.length x y=true:=decide_eq_true (by omega)
 by_cases c6:zs<2 ^ p.length
 ·by_cases c7:seen<2 ^ p.length
  ·obtain ⟨a,b,rfl,rfl,ha,hb,hab⟩:=pY.1 h2
   have hA:S.aq p.length a b zs seen=(!zs.testBit a&&!zs.testBit b):=by
    simp only[S.aq,h2,c6,c7,Int.toNat_natCast,decide_true,Bool.true_and]
   have ka:∀g,ap C0 (d+1) N.aa [.int .u64 (zs:Int),.int .i64 (a:Int)] g=.val (.bool (zs.testBit a)):=fun g=>by rw[j7 (Nat.succ_pos d) hz (by omega),me]
   have kb:∀g,ap C0 (d+1) N.aa [.int .u64 (zs:Int),.int .i64 (b:Int)] g=.val (.bool (zs.testBit b)):=fun g=>by rw[j7 (Nat.succ_pos d) hz (by omega),me]
   rw[hA]
   cases hba:zs.testBit a<;>cases hbb:zs.testBit b<;>simp only[sz,simprocAttr,bf,vl,wk,c1,c2,c3,c4,c5',aH _ _ _ hz,aH _ _ _ hs,eV,c6,c7,ka,kb,hba,hbb,Bool.not_true,Bool.not_false,Bool.and_self,Bool.and_true,Bool.true_and,Bool.and_false,Bool.false_and]
  ·have:S.aq p.length x y zs seen=false:=by simp[S.aq,c7]
   simp only[sz,simprocAttr,bf,vl,wk,c1,c2,c3,c4,c5',aH _ _ _ hz,aH _ _ _ hs,eV,c6,c7,this]
 ·have:S.aq p.length x y zs seen=false:=by simp[S.aq,c6]
  simp only[sz,simprocAttr,bf,vl,wk,c1,c2,c3,c4,c5',aH _ _ _ hz,eV,c6,this]
theorem tE {d k:Nat}{g:G}{P:Nat->Prop}{v:AV}{p:List Nat}{x y:Int}{zs seen:Nat}(hd:0<d)(hv:SlR P k g.h p v)(hz:zs<18446744073709551616)(hs:seen<18446744073709551616) :
  ap C0 d N.aA [v,.int .i64 x,.int .i64 y,.int .u64 (zs:Int),.int .u64 (seen:Int)] g=.val (.int .i64 (S.aB p x y zs seen)):=by
 obtain ⟨v',e,r1⟩:=bN hv d
 have kr:=fun g=>sg (d:=d+1) (g:=g) (Nat.succ_pos d) (r1 g.h)
 have ka:=fun g=>B8 (d:=d+1) (g:=g) (x:=x) (y:=y) (Nat.succ_pos d) (r1 g.h) hz hs
 rw[mH]
 refine dZ nV (xs:=[v',.int .i64 x,.int .i64 y,.int .u64 (zs:Int),.int .u64 (seen:Int)]) (by simp only[az,e,aX]) (by simp[cM]) hd ?_
 rw[Fk]
 cases hG:S.az p with
 | false =>
  have:S.aB p x y zs seen=70:=by rw[S.aB,hG];rfl
  simp only[sz,simprocAttr,cM,kr,hG,this]
 | true =>
  cases hA:S.aq p.length x y zs seen with
  | false =>
   have:S.aB p x y zs seen=2:=by rw[S.aB,hG,hA];rfl
   simp only[sz,simprocAttr,cM,kr,hG,ka,hA,this]
  | true =>
   have:S.aB p x y zs seen=0:=by rw[S.aB,hG,hA];rfl
   simp only[sz,simprocAttr,cM,kr,hG,ka,hA,this]
theorem vJ {n a:Nat}(h:a<n):2 ^ a<2 ^ n:=Nat.pow_lt_pow_right (by decide) h
theorem jr {a z:Nat}(h:z.testBit a=false):z &&& 2 ^ a=0:=yQ.2 fun v hv=>by
 have h1:z.testBit v=true:=hv.1
 have h2:(2 ^ a).testBit v=true:=hv.2
 rw[Nat.testBit_two_pow,decide_eq_true_iff] at h2
 rw[<-h2,h] at h1;cases h1
theorem Ay {a z:Nat}(h:z.testBit a=false):2 ^ a &&& z=0:=by rw[Nat.and_comm];exact jr h
theorem yu {a b:Nat}(h:a≠b):2 ^ a &&& 2 ^ b=0:=jr (by rw[Nat.testBit_two_pow];exact decide_eq_false h)
theorem Bc {p:List Nat}{x y z:Nat}(hG:GOk p)(hx:x<2 ^ p.length)(hy:y<2 ^ p.length)(hz:z<2 ^ p.length)(h1:y &&& x=0)(h2:z &&& x=0)(h3:z &&& y=0):S.aN p x y z=decide (S.aA p x z &&& y=0):=by
 rw[S.aN,uL hG hx hy hz h1 h2 h3];rfl
theorem vC {d:Nat}{g:G}{v:AV}{p:List Nat}{a b zs:Nat}(hd:0<d)(hv:SlR NoP 0 .nil p v)(hG:GOk p)(ha:a<p.length)(hb:b<p.length)(hab:a≠b)(hz:zs<2 ^ p.length)(hza:zs.testBit a=false)(hzb:zs.testBit b=false) :
  ap C0 d N.ak [v,.int .i64 (a:Int),.int .i64 (b:Int),.int .u64 (zs:Int)] g=.val (.tup [.bool (S.an p a b zs),.int .i64 0]):=by
 have key:∃r,ap C0 d N.ak [v,.int .i64 (a:Int),.int .i64 (b:Int),.int .u64 (zs:Int)] g=.val r/\wy (One (S.an p a b zs)) (One (0:Int)) NoP 0 .nil r:=by
  have e:=lJ (h:=g.h) d (hv.tree (h':=g.h) (Nat.le_refl 0))
  have n8:=hG.l8
  have h256:=im n8
  have hwo:=Ej (s:=2 ^ a) hG
  have hwl:=mh (p:=p) (2 ^ a)
  have hA:=vJ ha
  have hB:=vJ hb
  have hdn:=pU (p:=p) (s:=2 ^ a) hA p.length
  have kb:∀g,ap C0 (d+1) N.ay [v,.int .i64 (a:Int),.int .u64 0] g=.val (.int .u64 (S.dn p (2 ^ a) p.length:Int)):=fun g=>by
   have:=AL (d:=d+1) (g:=g) (x:=a) (s:=0) (Nat.succ_pos d) (hv.tree (h':=g.h) (Nat.le_refl 0)) n8 ha (by decide)
   rw[CT] at this
   exact this
  have hsa:aS .shl (.int .u64 1) (.int .i64 (a:Int))=.val (.int .u64 ((2 ^ a:Nat):Int)):=by rw[aI,cq (by omega)]
  have hsb:aS .shl (.int .u64 1) (.int .i64 (b:Int))=.val (.int .u64 ((2 ^ b:Nat):Int)):=by rw[aI,cq (by omega)]
  rw[lu]
  refine eS mj (xs:=[v,.int .i64 (a:Int),.int .i64 (b:Int),.int .u64 (zs:Int)]) (by simp only[az,e,aX]) (by simp[cY]) (nF (m:=1) (dE _) (dE _) (by decide) (by decide)) (by decide) hd ?_
  by_cases c:S.dn p (2 ^ a) p.length &&& zs=0
  ·have hc:((S.dn p (2 ^ a) p.length &&& zs:Nat):Int)=0:=by omega
   simp only[sz,simprocAttr,cY,kb,bj _ zs (show S.dn p (2 ^ a) p.length<18446744073709551616 by omega) (show zs<18446744073709551616 by omega),hc,hsa,hsb]
   refine jy (wx (Nat.succ_pos d) (hv.tree (Nat.le_refl 0)) n8 hG.l1 (show 2 ^ a<18446744073709551616 by omega)) fun r hr=>?_
   obtain ⟨_,er,hr⟩:=aF.1 hr
   injection er with er
   subst er
   have kA:=fun g=>yV (d:=d+1) (g:=g) (Nat.succ_pos d) hr (show 2 ^ a<18446744073709551616 by omega) (show 2 ^ b<18446744073709551616 by omega) (show zs<18446744073709551616 by omega)
   have h0:=uL hwo (x:=2 ^ a) (y:=2 ^ b) (z:=zs) (by rw[hwl];exact hA) (by rw[hwl];exact hB) (by rw[hwl];exact hz) (yu (Ne.symm hab)) (jr hza) (jr hzb)
   rw[h0] at kA
   simp only[sz,simprocAttr,kA,hsa,hsb]
   exact ⟨fun _=>True,_,_,rfl,m7.2 (by rw[S.an,decide_eq_true c];rfl),bz.2 rfl⟩
  ·have hc:¬((S.dn p (2 ^ a) p.length &&& zs:Nat):Int)=0:=by omega
   simp only[sz,simprocAttr,cY,kb,bj _ zs (show S.dn p (2 ^ a) p.length<18446744073709551616 by omega) (show zs<18446744073709551616 by omega),hc]
   exact ⟨fun _=>True,_,_,rfl,m7.2 (by rw[S.an,decide_eq_false c];rfl),bz.2 rfl⟩
 obtain ⟨r,h1,a',b',rfl,h2,h3⟩:=key
 have h2:=m7.1 h2
 have h3:=bz.1 h3
 injection h2 with h2
 injection h3 with h3
 rw[h1,h2,h3]
def S.ax (x:Nat):Nat->Nat
 | 0=>0
 | k+1=>S.ax x k+(if x.testBit k then 1 else 0)
def S.ae (x:Nat):Nat:=S.ax x 8
theorem yJ (x:Nat):∀k,S.ax x k<=k
 | 0=>Nat.le_refl _
 | k+1=>by
  have:=yJ x k
  rw[S.ax]
  split<;>omega
theorem oR {q z:Nat}(h:Sub q z):∀k,S.ax q k<=S.ax z k
 | 0=>Nat.le_refl _
 | k+1=>by
  have ih:=oR h k
  rw[S.ax,S.ax]
  cases hq:q.testBit k with
  | false=>simp;omega
  | true=>rw[h k hq];omega
theorem x9 {q z i:Nat}(h:Sub q z)(h1:z.testBit i=true)(h2:q.testBit i=false):∀k,i<k->S.ax q k<S.ax z k
 | 0,hi=>absurd hi (Nat.not_lt_zero _)
 | k+1,hi=>by
  rw[S.ax,S.ax]
  by_cases e:i=k
  ·subst e
   have:=oR h i
   rw[h1,h2];simp;omega
  ·have ih:=x9 h h1 h2 k (by omega)
   cases hq:q.testBit k with
   | false=>simp;omega
   | true=>rw[h k hq];omega
theorem ut {x n:Nat}(h:x<2 ^ n):∀k,n<=k->S.ax x k=S.ax x n
 | 0,hk=>by
  have:n=0:=by omega
  subst this;rfl
 | k+1,hk=>by
  by_cases e:n=k+1
  ·subst e;rfl
  ·rw[S.ax,ut h k (by omega)]
   have:x.testBit k=false:=Nat.testBit_lt_two_pow (Nat.lt_of_lt_of_le h (Nat.pow_le_pow_right (by decide) (show n<=k by omega)))
   rw[this];simp
theorem BW {x n:Nat}(h:x<2 ^ n)(n8:n<=8):S.ae x<=n:=by
 rw[S.ae,ut h 8 n8];exact yJ x n
theorem Co {q z:Nat}(h:Sub q z):S.ae q<=S.ae z:=oR h 8
theorem CQ {q z:Nat}(h:Sub q z)(hne:q≠z)(hz:z<256):S.ae q<S.ae z:=by
 have:∃i,z.testBit i=true/\q.testBit i=false:=by
  apply Classical.byContradiction
  intro hno
  refine hne (Nat.eq_of_testBit_eq fun i=>?_)
  cases hq:q.testBit i with
  | true=>rw[h i hq]
  | false =>
   cases hzi:z.testBit i with
   | false=>rfl
   | true=>exact absurd ⟨i,hzi,hq⟩ hno
 obtain ⟨i,h1,h2⟩:=this
 have hi:i<8:=by
  apply Classical.byContradiction
  intro hi
  have:z.testBit i=false:=Nat.testBit_lt_two_pow (Nat.lt_of_lt_of_le hz (show 2 ^ 8<=2 ^ i from Nat.pow_le_pow_right (by decide) (by omega)))
  rw[this] at h1;cases h1
 exact x9 h h1 h2 8 hi
theorem jp {q z:Nat}:q ^^^ (q &&& z)=0↔Sub q z:=by
 constructor
 ·intro h v hv
  apply Classical.byContradiction
  intro hz
  have:Bt (q ^^^ (q &&& z)) v:=pG.2 ⟨hv,hz⟩
  rw[h,Bt,Nat.zero_testBit] at this;cases this
 ·intro h
  refine Nat.eq_of_testBit_eq fun v=>?_
  rw[Nat.zero_testBit]
  cases hb:(q ^^^ (q &&& z)).testBit v with
  | false=>rfl
  | true =>
   have:=pG.1 (show Bt _ v from hb)
   exact absurd (h v this.1) this.2
def S.aC (q z:Nat):Bool:=decide (q ^^^ (q &&& z)=0)
theorem nk {q z:Nat}:S.aC q z=true↔Sub q z:=by rw[S.aC,decide_eq_true_iff];exact jp
section
variable {p:List Nat}{a b seen:Nat}
def S.ay (p:List Nat)(a b seen t:Nat):Bool:=S.aC t seen&&(S.an p a b t&&(List.range t).all fun q=>!(S.aC q t&&S.an p a b q))
def S.am (p:List Nat)(a b seen k z:Nat):List Nat:=(List.range z).filter fun t=>decide (S.ae t=k)&&S.ay p a b seen t
def S.af (p:List Nat)(a b seen:Nat):Nat->List Nat
 | 0=>[]
 | k+1=>S.af p a b seen k++S.am p a b seen k (2 ^ p.length)
theorem gE {t:Nat}:S.ay p a b seen t=true↔Sub t seen/\S.an p a b t=true/\∀q,q<t->Sub q t->S.an p a b q=false:=by
 simp only[S.ay,Bool.and_eq_true,nk,List.all_eq_true,List.mem_range,Bool.not_eq_true']
 refine ⟨fun ⟨h1,h2,h3⟩=>⟨h1,h2,fun q hq hs=>?_⟩,fun ⟨h1,h2,h3⟩=>⟨h1,h2,fun q hq=>?_⟩⟩
 ·have:=h3 q hq
  rw[nk.2 hs,Bool.true_and] at this
  exact this
 ·cases hs:S.aC q t with
  | false=>rfl
  | true=>rw[Bool.true_and];exact h3 q hq (nk.1 hs)
theorem sF {k:Nat}:S.am p a b seen k 0=[]:=rfl
theorem lM {k z:Nat}:S.am p a b seen k (z+1)=S.am p a b seen k z++if decide (S.ae z=k)&&S.ay p a b seen z then [z] else []:=by
 rw[S.am,List.range_succ,List.filter_append]
 congr 1
 cases h:decide (S.ae z=k)&&S.ay p a b seen z<;>simp[h]
theorem qk {k z t:Nat}:t∈S.am p a b seen k z↔t<z/\S.ae t=k/\S.ay p a b seen t=true:=by
 simp[S.am]
theorem nK {k t:Nat}:t∈S.af p a b seen k↔S.ae t<k/\t<2 ^ p.length/\S.ay p a b seen t=true:=by
 induction k with
 | zero=>simp[S.af]
 | succ k ih =>
  rw[S.af,List.mem_append,ih,qk]
  constructor
  ·rintro (⟨h1,h2,h3⟩ | ⟨h1,h2,h3⟩)
   ·exact ⟨by omega,h2,h3⟩
   ·exact ⟨by omega,h1,h3⟩
  ·rintro ⟨h1,h2,h3⟩
   by_cases c:S.ae t<k
   ·exact .inl ⟨c,h2,h3⟩
   ·exact .inr ⟨h2,by omega,h3⟩
theorem EH:∀m q,q<=m->Sub q seen->S.an p a b q=true->∃t,Sub t q/\S.ay p a b seen t=true:=by
 intro m
 induction m with
 | zero =>
  intro q hq hs hb
  have:q=0:=by omega
  subst this
  exact ⟨0,fun _ h=>h,gE.2 ⟨hs,hb,fun q hq=>absurd hq (Nat.not_lt_zero _)⟩⟩
 | succ m ih =>
  intro q hq hs hb
  by_cases c:∀q',q'<q->Sub q' q->S.an p a b q'=false
  ·exact ⟨q,fun _ h=>h,gE.2 ⟨hs,hb,c⟩⟩
  ·simp only[Classical.not_forall] at c
   obtain ⟨q',h1,h2,h3⟩:=c
   obtain ⟨t,h4,h5⟩:=ih q' (by omega) (fun v hv=>hs v (h2 v hv)) (by rwa [Bool.not_eq_false] at h3)
   exact ⟨t,fun v hv=>h2 v (h4 v hv),h5⟩
theorem EU {q z n:Nat}(h:Sub q z)(hz:z<2 ^ n):q<2 ^ n:=Nat.lt_of_le_of_lt (qo h) hz
theorem B7 {k z:Nat}(n8:p.length<=8)(hz:z<2 ^ p.length)(hk:S.ae z=k)(hs:Sub z seen) :
  S.ay p a b seen z=(!((S.af p a b seen k++S.am p a b seen k z).any fun t=>S.aC t z)&&S.an p a b z):=by
 have h256:=im n8
 cases hany:(S.af p a b seen k++S.am p a b seen k z).any fun t=>S.aC t z with
 | true =>
  simp only[Bool.not_true,Bool.false_and]
  obtain ⟨t,ht,hpt⟩:=List.any_eq_true.1 hany
  have hsub:=nk.1 hpt
  have hle:=qo hsub
  have hm:S.ay p a b seen t=true/\t≠z:=by
   rcases List.mem_append.1 ht with h | h
   ·have:=nK.1 h
    exact ⟨this.2.2,fun e=>by subst e;omega⟩
   ·have:=qk.1 h
    exact ⟨this.2.2,fun e=>by omega⟩
  rw[<-Bool.not_eq_true]
  intro hmz
  have:=(gE.1 hmz).2.2 t (by omega) hsub
  rw[(gE.1 hm.1).2.1] at this;cases this
 | false =>
  simp only[Bool.not_false,Bool.true_and]
  cases hb:S.an p a b z with
  | false =>
   rw[<-Bool.not_eq_true]
   intro hmz
   rw[(gE.1 hmz).2.1] at hb;cases hb
  | true =>
   refine gE.2 ⟨hs,hb,fun q hq hsub=>?_⟩
   rw[<-Bool.not_eq_true]
   intro hbq
   obtain ⟨t,h1,h2⟩:=EH q q (Nat.le_refl _) (fun v hv=>hs v (hsub v hv)) hbq
   have htz:Sub t z:=fun v hv=>hsub v (h1 v hv)
   have htle:=qo h1
   have hlt:=CQ htz (by omega) (by omega)
   have:t∈S.af p a b seen k:=nK.2 ⟨by omega,EU htz hz,h2⟩
   have h3:=List.any_eq_false.1 hany t (List.mem_append.2 (.inl this))
   exact h3 (nk.2 htz)
theorem Cy {k:Nat}(hk:S.ae seen<k):S.af p a b seen k=S.af p a b seen (S.ae seen+1):=by
 induction k with
 | zero=>omega
 | succ k ih =>
  by_cases c:S.ae seen=k
  ·rw[c]
  ·rw[S.af,ih (by omega)]
   have:S.am p a b seen k (2 ^ p.length)=[]:=by
    refine List.filter_eq_nil_iff.2 fun t _ h=>?_
    simp only[Bool.and_eq_true,decide_eq_true_eq] at h
    have:=Co (gE.1 h.2).1
    omega
   rw[this,List.append_nil]
end
end
end Hx
end
section
namespace Hx
open Go
noncomputable section
theorem ux {d k:Nat}{g:G}{P:Nat->Prop}{v:AV}{p:List Nat}{a b zs:Nat}(hd:0<d)(hv:SlR P k g.h p v)(hG:GOk p)(ha:a<p.length)(hb:b<p.length)(hab:a≠b)(hz:zs<2 ^ p.length)(hza:zs.testBit a=false)(hzb:zs.testBit b=false) :
  ap C0 d N.an [v,.int .i64 (a:Int),.int .i64 (b:Int),.int .u64 (zs:Int)] g=.val (.bool (S.an p a b zs)):=by
 obtain ⟨v',e,r1⟩:=bN hv d
 have n8:=hG.l8
 have h256:=im n8
 have w1:=Ej (s:=2 ^ a) hG
 have l1:=mh (p:=p) (2 ^ a)
 have hA:=vJ ha
 have hB:=vJ hb
 have hdn:=pU (p:=p) (s:=2 ^ a) hA p.length
 have wa:IntKind.wrap .u64 (a:Int)=(a:Int):=bk (by omega) (by omega)
 have wb:IntKind.wrap .u64 (b:Int)=(b:Int):=bk (by omega) (by omega)
 have hsa:aS .shl (.int .u64 1) (.int .u64 (a:Int))=.val (.int .u64 ((2 ^ a:Nat):Int)):=by rw[aI,cq (by omega)]
 have hsb:aS .shl (.int .u64 1) (.int .u64 (b:Int))=.val (.int .u64 ((2 ^ b:Nat):Int)):=by rw[aI,cq (by omega)]
 have kD:=fun g=>xH (d:=d+1) (g:=g) (Nat.succ_pos d) (r1 g.h) n8 hA
 have hz64:zs<18446744073709551616:=by omega
 rw[lT]
 refine cL nc (xs:=[v',.int .i64 (a:Int),.int .i64 (b:Int),.int .u64 (zs:Int)]) (by simp only[az,e,aX]) (by simp[dF]) hd ?_
 by_cases c:S.dn p (2 ^ a) p.length &&& zs=0
 ·have hc:((S.dn p (2 ^ a) p.length &&& zs:Nat):Int)=0:=by omega
  simp only[sz,simprocAttr,dF,wa,wb,hsa,hsb,kD,bj _ zs (show S.dn p (2 ^ a) p.length<18446744073709551616 by omega) hz64,hc]
  refine jy (uv (Nat.succ_pos d) (r1 _) n8 (show 2 ^ a<18446744073709551616 by omega)) fun r hr=>?_
  obtain ⟨_,er,hr⟩:=aF.1 hr
  injection er with er
  subst er
  have kA:=fun g:G=>zH (d:=d+1) (g:=g) (Nat.succ_pos d) (hr.tree (h':=g.h) (Nat.le_refl 0)) w1 (xs:=2 ^ a) (ys:=2 ^ b) (zs:=zs) (by rw[l1];exact hA) (by rw[l1];exact hB) (by rw[l1];exact hz) (Ay hza)
  have hav:=Bc w1 (x:=2 ^ a) (y:=2 ^ b) (z:=zs) (by rw[l1];exact hA) (by rw[l1];exact hB) (by rw[l1];exact hz) (yu (Ne.symm hab)) (jr hza) (jr hzb)
  rw[<-hav] at kA
  have:S.an p a b zs=S.aN (S.wo p (2 ^ a)) (2 ^ a) (2 ^ b) zs:=by rw[S.an,decide_eq_true c];rfl
  simp only[sz,simprocAttr,kA,this]
 ·have hc:¬((S.dn p (2 ^ a) p.length &&& zs:Nat):Int)=0:=by omega
  have:S.an p a b zs=false:=by rw[S.an,decide_eq_false c];rfl
  simp only[sz,simprocAttr,dF,wa,wb,hsa,hsb,kD,bj _ zs (show S.dn p (2 ^ a) p.length<18446744073709551616 by omega) hz64,hc,this]
theorem uS {d:Nat}{g:G}{x:ua}{raw:List Nat}{w:AV}{xs:List AV}(hd:0<d)(hx:Rp.rp NoP 0 .nil x xs)(hw:SlR NoP 0 .nil raw w)(hr:Raw w) :
  ∃r,ap C0 d N.aG [w,.agg xs] g=.val r/\GsV NoP 0 .nil r:=by
 have hm:∀h,Agg x NoP 0 h (.agg xs):=fun h=>⟨_,rfl,Rp.tree hx (Nat.le_refl _)⟩
 have e1:=qT d (hm g.h)
 have e2:=lJ (h:=g.h) d (hw.tree (Nat.le_refl 0))
 obtain ⟨_,_,rfl,ha',hb'⟩:=eK.1 hx
 obtain ⟨a,rfl,-⟩:=aF.1 ha'
 obtain ⟨b,rfl,-⟩:=aF.1 hb'
 rw[mZ]
 refine eS py (xs:=[w,.agg ([a]++[b])]) (by simp only[az,e1,e2]) (by simp[hZ]) E3 (by decide) hd ?_
 obtain ⟨w1,s1,hw1,hr1⟩:=Ep hw hr (c:=min raw.length 9) (by omega)
 obtain ⟨w2,s2,hw2,-⟩:=Ep hw1 hr1 (c:=0) (by omega)
 have mn9:min (raw.length:Int) 9=((min raw.length 9:Nat):Int):=by omega
 have s2:∀g,uf 1 w1 none (some (.int .i64 0)) g=.val w2:=s2
 have lw:=hw.len
 have lw1:=hw1.len
 have kR:=fun g:G=>sg (d:=d+1) (g:=g) (Nat.succ_pos d) (hw1.tree (h':=g.h) (Nat.le_refl 0))
 have ld:aL (.cells 2 [[a,b]] 0 false false) 0 0 true 2 0=.val (.agg [a,b]):=rfl
 have rest:∀(t:T) (g:G) (wl:AV) (l:List Nat),SlR NoP 0 .nil l wl->St t [(0,wl),(3,.hptr 0 0 0 0),(4,.hptr 1 0 0 0)]->g.h.get 0=.cells 2 [[a,b]] 0 false false->g.h.get 1=.cells 2 [[.nils,.nils]] 0 false false ->
   wp C0 (d+1) none eH (fnQ C0 (d+1) [SR.cell true 2 4] fun v g'=>∃P,GsV P 0 g'.h v) t [] g:=by
  rintro t g wl l hwl ⟨h0,h3,h4,-⟩ g0 g1
  simp only[sz,simprocAttr,eH,h0,h3,g0,ld]
  refine jy (zV (Nat.succ_pos d) (hm _)) ?_
  rintro z ⟨p,-,hz⟩
  have hz:SlR NoP 0 .nil p z:=by
   obtain ⟨z',e,hz'⟩:=aF.1 hz
   injection e with e
   subst e
   exact hz'
  have fw:fO [.nils,.nils] [((0,1),wl),((1,1),z)]=some [wl,z]:=by
   simp[fO,hwl.cell,hz.cell,ky]
   rfl
  simp only[sz,simprocAttr,h4,g1,fw]
  exact ⟨fun _=>True,(l,p),trivial,_,rfl,eK.2 ⟨[wl],[z],rfl,aF.2 ⟨_,rfl,hwl.wide (Nat.le_refl 0)⟩,aF.2 ⟨_,rfl,hz.wide (Nat.le_refl 0)⟩⟩⟩
 simp only[sz,simprocAttr,hZ,jb,List.cons_append,List.nil_append,lw,mn9,List.head?_nil,List.head?_cons,s1,kR]
 cases S.az (raw.take (min raw.length 9)) with
 | false =>
  simp only[sz,simprocAttr]
  exact rest _ _ w1 _ hw1 (by simp[St,sx]) (by simp[sx,H.get_put]) (by simp[sx,H.get_put])
 | true =>
  simp only[sz,simprocAttr,lw1]
  by_cases c:(6:Int)<((raw.take (min raw.length 9)).length:Int)
  ·simp only[sz,simprocAttr,c,List.head?_nil,List.head?_cons,s2]
   exact rest _ _ w2 _ hw2 (by simp[St,sx]) (by simp[sx,H.get_put]) (by simp[sx,H.get_put])
  ·simp only[sz,simprocAttr,c]
   exact rest _ _ w1 _ hw1 (by simp[St,sx]) (by simp[sx,H.get_put]) (by simp[sx,H.get_put])
def S.aU (x:Nat):Nat:=(x / 2 ^ 1 &&& 6148914691236517205)+(x &&& 6148914691236517205)
def S.aV (x:Nat):Nat:=(x / 2 ^ 2 &&& 3689348814741910323)+(x &&& 3689348814741910323)
def S.ba (x:Nat):Nat:=(x / 2 ^ 4+x) &&& 1085102592571150095
theorem EL:∀x:Nat,x<256->S.aU x<256/\S.aV (S.aU x)<256/\S.ba (S.aV (S.aU x))<256/\S.ba (S.aV (S.aU x))=S.ae x/\S.ae x &&& 127=S.ae x/\S.ae x<=8:=by decide +kernel
theorem EE (q:Nat)(h:q<=8):aS .and (.int .i64 (q:Int)) (.int .i64 127)=.val (.int .i64 (q:Int)) :=
 match q,h with
 | 0,_=>by kernel_rfl
 | 1,_=>by kernel_rfl
 | 2,_=>by kernel_rfl
 | 3,_=>by kernel_rfl
 | 4,_=>by kernel_rfl
 | 5,_=>by kernel_rfl
 | 6,_=>by kernel_rfl
 | 7,_=>by kernel_rfl
 | 8,_=>by kernel_rfl
theorem C2 {d x:Nat}{g:G}(hd:0<d)(hx:x<256):ap C0 d N.aE [.int .u64 (x:Int)] g=.val (.int .i64 (S.ae x:Int)):=by
 obtain ⟨h1,h2,h3,h4,h5,h6⟩:=EL x hx
 rw[ir]
 refine dZ jt (xs:=[.int .u64 (x:Int)]) (by simp only[az,aX]) (by simp[cE]) hd ?_
 have s1:∀x:Nat,x<256->aS .shr (.int .u64 (x:Int)) (.int .u64 1)=.val (.int .u64 ((x / 2 ^ 1:Nat):Int)):=fun x h=>aH .u64 x 1 (by omega)
 have s2:∀x:Nat,x<256->aS .shr (.int .u64 (x:Int)) (.int .u64 2)=.val (.int .u64 ((x / 2 ^ 2:Nat):Int)):=fun x h=>aH .u64 x 2 (by omega)
 have s3:∀x:Nat,x<256->aS .shr (.int .u64 (x:Int)) (.int .u64 4)=.val (.int .u64 ((x / 2 ^ 4:Nat):Int)):=fun x h=>aH .u64 x 4 (by omega)
 have s4:∀x:Nat,x<256->aS .shr (.int .u64 (x:Int)) (.int .u64 8)=.val (.int .u64 0):=fun x h=>by
  have:=aH .u64 x 8 (by omega)
  rw[Nat.div_eq_of_lt (by omega)] at this;exact this
 have s5:∀x:Nat,x<256->aS .shr (.int .u64 (x:Int)) (.int .u64 16)=.val (.int .u64 0):=fun x h=>by
  have:=aH .u64 x 16 (by omega)
  rw[Nat.div_eq_of_lt (by omega)] at this;exact this
 have s6:∀x:Nat,x<256->aS .shr (.int .u64 (x:Int)) (.int .u64 32)=.val (.int .u64 0):=fun x h=>by
  have:=aH .u64 x 32 (by omega)
  rw[Nat.div_eq_of_lt (by omega)] at this;exact this
 have d1:∀x k:Nat,x<256->x / 2 ^ k<256:=fun x k h=>Nat.lt_of_le_of_lt (Nat.div_le_self _ _) h
 have a1:∀x:Nat,x<256->aS .and (.int .u64 (x:Int)) (.int .u64 6148914691236517205)=.val (.int .u64 ((x &&& 6148914691236517205:Nat):Int)):=fun x h=>bj x 6148914691236517205 (by omega) (by decide)
 have a2:∀x:Nat,x<256->aS .and (.int .u64 (x:Int)) (.int .u64 3689348814741910323)=.val (.int .u64 ((x &&& 3689348814741910323:Nat):Int)):=fun x h=>bj x 3689348814741910323 (by omega) (by decide)
 have a3:∀x:Nat,x<512->aS .and (.int .u64 (x:Int)) (.int .u64 1085102592571150095)=.val (.int .u64 ((x &&& 1085102592571150095:Nat):Int)):=fun x h=>bj x 1085102592571150095 (by omega) (by decide)
 have w1:IntKind.wrap .u64 (((x / 2 ^ 1 &&& 6148914691236517205:Nat):Int)+((x &&& 6148914691236517205:Nat):Int))=((S.aU x:Nat):Int):=by
  rw[S.aU] at h1
  rw[bk (by omega) (by omega),S.aU];omega
 obtain ⟨y,hy⟩:∃y,y=S.aU x:=⟨_,rfl⟩
 rw[<-hy] at h1 h2 h3 h4 w1
 have w2:IntKind.wrap .u64 (((y / 2 ^ 2 &&& 3689348814741910323:Nat):Int)+((y &&& 3689348814741910323:Nat):Int))=((S.aV y:Nat):Int):=by
  rw[S.aV] at h2
  rw[bk (by omega) (by omega),S.aV];omega
 obtain ⟨z,hz⟩:∃z,z=S.aV y:=⟨_,rfl⟩
 rw[<-hz] at h2 h3 h4 w2
 have hz4:=d1 z 4 h2
 have w3:IntKind.wrap .u64 (((z / 2 ^ 4:Nat):Int)+(z:Int))=((z / 2 ^ 4+z:Nat):Int):=by rw[bk (by omega) (by omega)];omega
 have a3z:=a3 (z / 2 ^ 4+z) (by omega)
 rw[show z / 2 ^ 4+z &&& 1085102592571150095=S.ba z from rfl,h4] at a3z
 rw[h4] at h3
 have w4:IntKind.wrap .u64 ((S.ae x:Int)+0)=(S.ae x:Int):=by rw[bk (by omega) (by omega)];omega
 have w5:IntKind.wrap .i64 (S.ae x:Int)=(S.ae x:Int):=dO (by omega) (by omega)
 have a4:=EE (S.ae x) h6
 simp only[sz,simprocAttr,cE,s1 x hx,a1 _ (d1 x 1 hx),a1 x hx,w1,s2 y h1,a2 _ (d1 y 2 h1),a2 y h1,w2,s3 z h2,w3,a3z,s4 _ h3,s5 _ h3,s6 _ h3,w4,w5,a4]
theorem Ec {d x:Nat}{g:G}(hd:0<d)(hx:x<256):ap C0 d N.aw [.int .u64 (x:Int)] g=.val (.int .i64 (S.ae x:Int)):=by
 rw[jc]
 refine dZ kh (xs:=[.int .u64 (x:Int)]) (by simp only[az,aX]) (by simp[du]) hd ?_
 have k:=fun g=>C2 (d:=d+1) (g:=g) (Nat.succ_pos d) hx
 simp only[sz,simprocAttr,du,k]
structure LeB (a b:Nat) (pa ch:AV) (r e:AV) (ms:List Nat) (h:H):Prop where
 x:h.get 0=.cells 1 [[.int .i64 (a:Int)]] 0 false false
 y:h.get 1=.cells 1 [[.int .i64 (b:Int)]] 0 false false
 r:h.get 2=.cells 1 [[r]] 0 false false
 e:h.get 3=.cells 1 [[e]] 0 false false
 g:h.get 4=.cells 2 [[pa,ch]] 0 false false
 m:∀m∈ms,h.get m=.dfr true
theorem LeB.fr {a b:Nat}{pa ch r e:AV}{ms:List Nat}{h h':H}{n:Nat}(hb:LeB a b pa ch r e ms h)(h5:5<=n)(hm:∀m∈ms,m<n)(hf:∀i,i<n->h'.get i=h.get i):LeB a b pa ch r e ms h' :=
 ⟨by rw[hf 0 (by omega),hb.x],by rw[hf 1 (by omega),hb.y],by rw[hf 2 (by omega),hb.r],by rw[hf 3 (by omega),hb.e],by rw[hf 4 (by omega),hb.g],fun m hm'=>by rw[hf m (hm m hm'),hb.m m hm']⟩
def Ff (n:Nat):VS:=fun P k h v=>∃l:List Int,l.length=n/\One l P k h v
theorem De (n:Nat):Snb (Ff n) 0:=tT fun l=>dE l
theorem AO {s:Nat}(hs:s<256):S.ax s 64=S.ae s:=by
 have hb:∀i,8<=i->s.testBit i=false:=fun i hi=>Nat.testBit_lt_two_pow (Nat.lt_of_lt_of_le hs (show 2 ^ 8<=2 ^ i from Nat.pow_le_pow_right (by decide) hi))
 have:∀k,S.ax s (8+k)=S.ax s 8:=fun k=>by
  induction k with
  | zero=>rfl
  | succ k ih =>
   rw[show 8+(k+1)=(8+k)+1 from rfl,S.ax,ih,hb _ (by omega)];rfl
 exact this 56
theorem vM {d s:Nat}{g:G}(hd:0<d)(hs:s<256):∃r,ap C0 d N.aQ [.int .u64 (s:Int)] g=.val r/\Ff (S.ae s) NoP 0 .nil r:=by
 rw[mN]
 refine eS oP (xs:=[.int .u64 (s:Int)]) (by simp only[az,aX]) (by simp[gf]) (De _) (by decide) hd ?_
 simp only[sz,simprocAttr,gf]
 refine np 64 (by omega) (fun j t df g=>df=[]/\tat t 0=.int .u64 (s:Int)/\∃(u:AV) (L:List Int),tat t 3=u/\L.length=S.ax s j/\L.length<=j/\Own g 0 u 1 (L.map ci)) ⟨rfl,by simp[sx],.nils,[],by simp[sx],rfl,by simp,.inl ⟨rfl,rfl⟩⟩ (by simp[sx]) (by decide) (by rintro j t df g v s' (rfl | rfl | rfl)<;>simp[sx]) ?_ ?_ ?_
 ·rintro j t df g hj ⟨rfl,h0,u,L,h3,hL,hL2,hu⟩ h4
  simp only[sx,sy,SO.run,↓reduceIte,Nat.reduceEqDiff,h0,h3,h4]
  exact ⟨rfl,u,L,rfl,hL,hL2,hu⟩
 ·rintro j t df g hj ⟨rfl,h0,u,L,h3,hL,hL2,hu⟩ h4
  have ki:∀g,ap C0 (d+1) N.aa [.int .u64 (s:Int),.int .i64 (j:Int)] g=.val (.bool (s.testBit j)):=fun g=>by rw[j7 (Nat.succ_pos d) (by omega) (by omega),me]
  simp only[sz,simprocAttr,h0,h4,ki]
  cases hb:s.testBit j with
  | true =>
   simp only[sz,simprocAttr,h3,h4]
   refine bP (new:=[ci (j:Int)]) (hu.step (Fr.new _ _)) (by simp[sx,sy,ci]) (by simp) (by simp[dB];omega) fun v2 g2 hv2 n2 f2 _ l2=>?_
   simp only[sz,simprocAttr,h0,h4]
   exact ⟨_,L++[(j:Int)],rfl,by rw[S.ax,hb];simp[hL],by simp;omega,by simpa using hv2⟩
  | false =>
   simp only[sz,simprocAttr,h0,h3,h4]
   exact ⟨_,L,rfl,by rw[S.ax,hb];simp[hL],by omega,hu⟩
 ·rintro t df g ⟨rfl,h0,u,L,h3,hL,hL2,hu⟩
  simp only[gU,sz,simprocAttr,h3]
  exact ⟨_,L,by rw[hL,AO hs],hu.ints (by omega)⟩
theorem w7 {C:Cfg}{d:Nat}{rd:Option Nat}{body:SC}{c ti tn k B b:Nat}{Q:QT}{m:Nat}(hm:m<18446744073709551615)(J:Nat->PT){t:T}{df:List ADf}{g:G}
  (h0:J 0 t df g) (hi:tat t ti=.int .u64 0) (hn:tat t tn=.int .u64 (m:Int)) (hc:c≠ti/\c≠tn/\k≠tn/\ti≠tn/\b≠B)
  (hJ:∀j t df g v s,s=c\/s=ti\/s=k->J j t df g->J j (cg t s v) df g)
  (step:∀j t df g,j<m->J j t df g->tat t ti=.int .u64 (j:Int)->tat t tn=.int .u64 (m:Int) ->
   wp C d rd body (kR (fun t df g=>J (j+1) t df g/\tat t ti=.int .u64 (j:Int)/\tat t tn=.int .u64 (m:Int)) b Q) t df g)
  (fin:∀t df g,J m t df g->Q (.exit B) t df g) :
  wpL (wp C d rd (.seq (.ops [o c (.bin .lss (.t ti) (.t tn))]) (.seq (.cond (.t c) .skip (.exit B)) (.seq (.blk b body) (.ops [o k (.bin .add (.t ti) (.k (.int .u64 1))),o ti (.mv (.t k))]))))) Q t df g:=by
 obtain ⟨c1,c2,c3,c4,c5⟩:=hc
 refine oO (fun n t df g=>∃j:Nat,n=m - j/\j<=m/\J j t df g/\tat t ti=.int .u64 (j:Int)/\tat t tn=.int .u64 (m:Int)) m ⟨0,by omega,by omega,h0,hi,hn⟩ ?_
 rintro n t df g ⟨j,rfl,hj,hjj,h1,h2⟩
 simp only[sx,SO.run,↓reduceIte,h1,h2]
 refine ⟨fun hq=>?_,fun hq=>?_⟩
 ·have hlt:j<m:=by simpa using hq
  simp only[sx]
  refine dD _ (step j _ df g hlt (hJ _ _ _ _ _ _ (.inl rfl) hjj) (by simp only[fV];rw[if_neg (Ne.symm c1),h1]) (by simp only[fV];rw[if_neg (Ne.symm c2),h2])) fun e t df g h=>?_
  have key:J (j+1) t df g/\tat t ti=.int .u64 (j:Int)/\tat t tn=.int .u64 (m:Int)->wp C d rd (.ops [o k (.bin .add (.t ti) (.k (.int .u64 1))),o ti (.mv (.t k))])
    (kL (fun n t df g=>∃j:Nat,n=m - j/\j<=m/\J j t df g/\tat t ti=.int .u64 (j:Int)/\tat t tn=.int .u64 (m:Int)) (m - j) Q) t df g:=by
   rintro ⟨a1,a2,a3⟩
   simp only[sx,SO.run,a2,↓reduceIte]
   refine ⟨_,?_,j+1,rfl,by omega,hJ _ _ _ _ _ _ (.inr (.inl rfl)) (hJ _ _ _ _ _ _ (.inr (.inr rfl)) a1),?_,?_⟩
   ·omega
   ·rw[bk (by omega) (by omega)];rfl
   ·rw[if_neg (Ne.symm c4),if_neg (Ne.symm c3),a3]
  cases e with
  | norm=>exact key h
  | ret=>exact h
  | exit x =>
   rw[iI] at h
   rw[jM]
   split at h
   ·rename_i e;rw[if_pos e];exact key h
   ·rename_i e;rw[if_neg e];exact h
 ·have:j=m:=by simp at hq;omega
  subst this
  simp only[sx]
  exact fin _ _ _ (hJ _ _ _ _ _ _ (.inl rfl) hjj)
theorem DC {d k k2:Nat}{g:G}{P P2:Nat->Prop}{v w:AV}{l p:List Nat}(hd:0<d)(hv:SlR P k g.h l v)(hw:SlR P2 k2 g.h p w) :
  ap C0 d N.aD [v,w] g=.val (.bool (decide (l=p))):=by
 obtain ⟨v',e,r1⟩:=bN hv d
 obtain ⟨w',e2,r2⟩:=bN hw d
 rw[pA]
 refine cL rH (xs:=[v',w']) (by simp only[az,e,e2]) (by simp[jP]) hd ?_
 simp only[jP,sx,SO.run,↓reduceIte,Nat.reduceEqDiff,(r1 .nil).len,(r2 .nil).len]
 refine pE (fun hb=>?_) (fun hb=>?_)
 ·simp only[sx,SO.run,↓reduceIte]
  have:l≠p:=fun e=>by subst e;simp at hb
  simp[this]
 ·have hl:l.length=p.length:=by simp at hb;omega
  simp only[sx,SO.run]
  refine eW hv.1 (r1 .nil).len (fun j t df g=>df=[]/\tat t 1=w'/\l.take j=p.take j) ⟨rfl,by simp[sx],by simp⟩ (by simp[sx]) (by simp[sx]) (by decide)
   (by rintro j t df g v s (rfl | rfl | rfl | rfl | rfl | rfl | rfl)<;>simp[sx]) ?_ ?_
  ·rintro j t df g hj ⟨rfl,h1,ht⟩ h5 h0
   obtain ⟨x,hx,htk,hm⟩:=bh hj
   obtain ⟨y,hy,htk2,hm2⟩:=bh (l:=p) (j:=j) (by omega)
   have hj2:j<p.length:=by omega
   simp only[sx,sy,SO.run,↓reduceIte,Nat.reduceEqDiff,(r1 g.h).nats,(r2 g.h).nats,h0,h1,h5,hx,hy,hj,hj2,Option.isSome_some,Option.getD_some,List.length_map,List.getElem?_map,Option.map_some,cu]
   refine pE (fun hb=>?_) (fun hb=>?_)
   ·simp only[sx,sy,SO.run,↓reduceIte]
    have:l≠p:=fun e=>by subst e;rw[hx] at hy;injection hy with hy;subst hy;simp at hb
    simp[this]
   ·simp only[sx,sy,↓reduceIte,Nat.reduceEqDiff,h0,h1,h5,htk,htk2,ht]
    have:x=y:=by simp at hb;omega
    rw[this]
  ·rintro t df g ⟨rfl,h1,ht⟩ -
   simp only[jZ,sx,SO.run,↓reduceIte]
   rw[List.take_length,hl,List.take_length] at ht
   simp[ht]
theorem wK {d k:Nat}{g:G}{P:Nat->Prop}{w:AV}{L:List Nat}{z:Nat}(hd:0<d)(hw:SlR P k g.h L w)(hz:z<18446744073709551616) :
  ap C0 d N.ah [.int .u64 (z:Int),w] g=.val (.bool (L.any fun t=>S.aC t z)):=by
 obtain ⟨w',e,r1⟩:=bN hw d
 have hlt:=aZ hw
 have wl:∀g,dc .slice w' g=.val (.int .i64 (L.length:Int)):=fun g=>(r1 .nil).len g
 have rt:=fun h=>(r1 h).nats
 rw[lU]
 refine cL nB (xs:=[.int .u64 (z:Int),w']) (by simp only[az,e,aX]) (by simp[fy]) hd ?_
 simp only[sz,simprocAttr,fy,wl,gy]
 refine bV (m:=L.length) hw.1 (fun j t df g=>df=[]/\St t [(0,.int .u64 (z:Int)),(7,w')]/\(L.take j).any (fun t=>S.aC t z)=false) ⟨rfl,by simp[St,sx],by simp⟩ (by simp[sx]) (by simp[sx]) (by decide)
  (by rintro j t df g v s (rfl | rfl | rfl)<;>simp[sx,St]) ?_ ?_
 ·rintro j t df g hj ⟨rfl,⟨h0,h7,-⟩,hno⟩ h9 h8
  obtain ⟨y,hy,htk,hm⟩:=bh hj
  have hyl:=hlt y hm
  have z1:j<(L.map cu).length:=by simpa using hj
  have z2:(L.map cu)[j]?=some (cu y):=by rw[List.getElem?_map,hy];rfl
  by_cases c:y ^^^ (y &&& z)=0
  ·have hp:S.aC y z=true:=decide_eq_true c
   have:(L.any fun t=>S.aC t z)=true:=List.any_eq_true.2 ⟨y,hm,hp⟩
   have c':((y ^^^ (y &&& z):Nat):Int)=0:=by omega
   simp only[sz,simprocAttr,h0,h7,h9,rt,z1,z2,cu,aW y z hyl hz,c',this]
  ·have hp:S.aC y z=false:=decide_eq_false c
   have c':¬((y ^^^ (y &&& z):Nat):Int)=0:=by omega
   simp only[sz,simprocAttr,h0,h7,h9,rt,z1,z2,cu,aW y z hyl hz,c']
   refine ⟨⟨by simp[St,sx,h0,h7],?_⟩,h8⟩
   rw[htk,List.any_append,hno]
   simp[hp]
 ·rintro t df g ⟨rfl,-,hno⟩
  rw[List.take_length] at hno
  simp only[sz,simprocAttr,gt,hno]
theorem qK {p:List Nat}{a b seen k:Nat}(z:Nat):(S.am p a b seen k z).length<=z:=by
 have:=List.length_filter_le (fun t=>decide (S.ae t=k)&&S.ay p a b seen t) (List.range z)
 rw[List.length_range] at this
 exact this
theorem m6 {p:List Nat}{a b seen:Nat}:∀k,(S.af p a b seen k).length<=k*2 ^ p.length
 | 0=>Nat.zero_le _
 | k+1=>by
  have h1:=m6 (p:=p) (a:=a) (b:=b) (seen:=seen) k
  have h2:=qK (p:=p) (a:=a) (b:=b) (seen:=seen) (k:=k) (2 ^ p.length)
  rw[S.af,List.length_append,Nat.succ_mul]
  omega
def S.aM (seen a b:Nat):Nat:=seen ^^^ (seen &&& (2 ^ a ||| 2 ^ b))
def S.aY (p:List Nat)(a b seen:Nat):List Nat:=S.af p a b (S.aM seen a b) (S.ae (S.aM seen a b)+1)
def S.aR (p:List Nat)(x y:Int)(seen:Nat):List Nat:=if S.aB p x y 0 seen=0 then S.aY p x.toNat y.toNat seen else []
theorem vR {seen a b:Nat}{v:Nat}(h:Bt (S.aM seen a b) v):v≠a/\v≠b:=by
 have:=(pG.1 h).2
 rw[Ek] at this
 constructor
 ·rintro rfl;exact this (.inl (by rw[Bt,Nat.testBit_two_pow];simp))
 ·rintro rfl;exact this (.inr (by rw[Bt,Nat.testBit_two_pow];simp))
theorem sW {z seen a b:Nat}(h:Sub z (S.aM seen a b)):z.testBit a=false/\z.testBit b=false:=by
 constructor
 ·cases hb:z.testBit a with
  | false=>rfl
  | true=>exact absurd rfl (vR (h a hb)).1
 ·cases hb:z.testBit b with
  | false=>rfl
  | true=>exact absurd rfl (vR (h b hb)).2
def LBd (v:AV)(s a b:Nat):List (Nat×AV):=[(0,v),(1,.int .u64 (s:Int)),(2,.int .i64 (a:Int)),(3,.int .i64 (b:Int))]
theorem E6 {d:Nat}{Q:QT}{t:T}{g:G}{v u:AV}{p:List Nat}{a b seen s j M:Nat}(hd:0<d)(hv:SlR NoP 0 .nil p v)(hG:GOk p)(ha:a<p.length)(hb:b<p.length)(hab:a≠b)(hs:s=S.aM seen a b)(hsl:s<2 ^ p.length)(hj:j<=8)
  (ht:St t ((12,.int .i64 (j:Int))::(45,.int .i64 (j:Int))::(44,.int .i64 (M:Int))::LBd v s a b)) (h11:tat t 11=u) (h50:tat t 50=.int .u64 ((2 ^ p.length:Nat):Int)) (h51:tat t 51=.int .u64 0)
  (hO:Own g 0 u 1 ((S.af p a b s j).map cu))
  (fin:∀t g' u',St t ((45,.int .i64 (j:Int))::(44,.int .i64 (M:Int))::LBd v s a b)->tat t 11=u'->Own g' 0 u' 1 ((S.af p a b s (j+1)).map cu)->Q (.exit 2) t [] g'):wpL (wp C0 d none cS) Q t [] g:=by
 simp only[cS,fc]
 have n8:=hG.l8
 have h256:=im n8
 refine w7 (m:=2 ^ p.length) (by omega) (fun z t df g'=>df=[]/\St t ((12,.int .i64 (j:Int))::(45,.int .i64 (j:Int))::(44,.int .i64 (M:Int))::LBd v s a b)/\∃u,tat t 11=u/\Own g' 0 u 1 ((S.af p a b s j++S.am p a b s j z).map cu))
  ⟨rfl,ht,u,h11,by rw[sF,List.append_nil];exact hO⟩ h51 h50 (by decide)
  (by rintro k t df g v s (rfl | rfl | rfl) ⟨a1,⟨b1,b2,b3,b4,b5,b6,b7,-⟩,u,a2,a3⟩<;>exact ⟨a1,by simp[St,LBd,sx,b1,b2,b3,b4,b5,b6,b7],u,by simp[sx,a2],a3⟩) ?_ ?_
 ·clear ht h11 h50 h51 hO u
  rintro z t df g1 hz ⟨rfl,⟨h12,h45,h44,h0,h1,h2,h3,-⟩,u,h11,hO⟩ h51 h50
  have hz64:z<18446744073709551616:=by omega
  have hs64:s<18446744073709551616:=by omega
  have hmem:∀y∈S.af p a b s j++S.am p a b s j z,y<18446744073709551616:=fun y hy=>by
   rcases List.mem_append.1 hy with h | h
   ·have:=(nK.1 h).2.1;omega
   ·have:=(qk.1 h).1;omega
  have hlen:(S.af p a b s j++S.am p a b s j z).length<=2304:=by
   have e1:=m6 (p:=p) (a:=a) (b:=b) (seen:=s) j
   have e2:=qK (p:=p) (a:=a) (b:=b) (seen:=s) (k:=j) z
   have e3:j*2 ^ p.length<=8*256:=Nat.mul_le_mul hj h256
   rw[List.length_append];omega
  have stay:S.ay p a b s z=false\/S.ae z≠j->S.am p a b s j (z+1)=S.am p a b s j z:=fun h=>by
   rw[lM]
   have:(decide (S.ae z=j)&&S.ay p a b s z)=false:=by
    rcases h with h | h
    ·rw[h,Bool.and_false]
    ·rw[decide_eq_false h,Bool.false_and]
   rw[this];simp
  have kO:=fun g=>Ec (d:=d) (g:=g) hd (x:=z) (by omega)
  by_cases c1:z ^^^ (z &&& s)=0
  ·have hsub:=jp.1 c1
   have c1':((z ^^^ (z &&& s):Nat):Int)=0:=by omega
   by_cases c2:S.ae z=j
   ·have c2':decide ((S.ae z:Int)=(j:Int))=true:=decide_eq_true (by omega)
    have hF:=B7 (a:=a) (b:=b) n8 hz c2 hsub
    have hsf:=sW (a:=a) (b:=b) (seen:=seen) (by rw[<-hs];exact hsub)
    have kH:ap C0 d N.ah [.int .u64 (z:Int),u] g1=.val (.bool ((S.af p a b s j++S.am p a b s j z).any fun t=>S.aC t z)):=wK hd (hO.nats' (by omega) hmem) hz64
    have kB:=fun g=>vC (d:=d) (g:=g) hd hv hG ha hb hab hz hsf.1 hsf.2
    cases hany:(S.af p a b s j++S.am p a b s j z).any fun t=>S.aC t z with
    | true =>
     rw[hany] at kH hF
     simp only[sz,simprocAttr,h1,h11,h12,h51,aW z s hz64 hs64,c1',kO,c2',kH]
     exact ⟨⟨by simp[St,LBd,sx,h0,h1,h2,h3,h12,h44,h45],u,rfl,by rw[stay (.inl hF)];exact hO⟩,h50⟩
    | false =>
     rw[hany,Bool.not_false,Bool.true_and] at hF
     rw[hany] at kH
     cases hbd:S.an p a b z with
     | true =>
      rw[hbd] at kB hF
      simp only[sz,simprocAttr,h0,h1,h2,h3,h11,h12,h51,aW z s hz64 hs64,c1',kO,c2',kH,kB]
      refine bP (new:=[cu z]) (hO.step (Fr.new _ _)) (by simp[sx,sy,cu]) (by simp) (by rw[List.length_map,dB];simp;simp at hlen;omega) fun v2 g2 hv2 n2 f2 _ l2=>?_
      simp only[sz,simprocAttr,h51]
      have:S.af p a b s j++S.am p a b s j (z+1)=(S.af p a b s j++S.am p a b s j z)++[z]:=by
       rw[lM,hF,decide_eq_true c2,List.append_assoc];rfl
      exact ⟨⟨by simp[St,LBd,sx,h0,h1,h2,h3,h12,h44,h45],v2,rfl,by rw[this,List.map_append];exact hv2⟩,h50⟩
     | false =>
      rw[hbd] at kB hF
      simp only[sz,simprocAttr,h0,h1,h2,h3,h11,h12,h51,aW z s hz64 hs64,c1',kO,c2',kH,kB]
      exact ⟨⟨by simp[St,LBd,sx,h0,h1,h2,h3,h12,h44,h45],u,rfl,by rw[stay (.inl hF)];exact hO⟩,h50⟩
   ·have c2':decide ((S.ae z:Int)=(j:Int))=false:=decide_eq_false (by omega)
    simp only[sz,simprocAttr,h1,h11,h12,h51,aW z s hz64 hs64,c1',kO,c2']
    exact ⟨⟨by simp[St,LBd,sx,h0,h1,h2,h3,h12,h44,h45],u,rfl,by rw[stay (.inr c2)];exact hO⟩,h50⟩
  ·have c1':¬((z ^^^ (z &&& s):Nat):Int)=0:=by omega
   have hF:S.ay p a b s z=false:=by
    rw[<-Bool.not_eq_true]
    intro h
    exact c1 (jp.2 (gE.1 h).1)
   simp only[sz,simprocAttr,h1,h11,h12,h51,aW z s hz64 hs64,c1']
   exact ⟨⟨by simp[St,LBd,sx,h0,h1,h2,h3,h12,h44,h45],u,rfl,by rw[stay (.inl hF)];exact hO⟩,h50⟩
 ·rintro t df g' ⟨rfl,⟨-,ht⟩,u',h11,hO⟩
  exact fin t g' u' ht h11 hO
theorem ju {p:List Nat}{x y:Int}{seen:Nat}:S.aB p x y 0 seen=if S.az p then (if S.aK p.length x y&&decide (seen<2 ^ p.length) then 0 else 2) else 70:=by
 have:S.aq p.length x y 0 seen=(S.aK p.length x y&&decide (seen<2 ^ p.length)):=by
  simp only[S.aq,Nat.zero_testBit,Nat.two_pow_pos,decide_true,Bool.and_true,Bool.not_false]
 rw[S.aB,this]
theorem tU {d:Nat}{g:G}{v:AV}{p:List Nat}{x y:Int}{seen:Nat}(hd:0<d)(hv:SlR NoP 0 .nil p v)(hs:seen<18446744073709551616) :
  ∃r,ap C0 d N.aO [v,.int .u64 (seen:Int),.int .i64 x,.int .i64 y] g=.val r/\wy (One (S.aR p x y seen)) (One (S.aB p x y 0 seen)) NoP 0 .nil r:=by
 have e:=lJ (h:=g.h) d (hv.tree (h':=g.h) (Nat.le_refl 0))
 have kc:=fun g=>yX (d:=d+1) (g:=g) (Nat.succ_pos d) hv
 have lp:=hv.len
 have kt:=fun g=>uo (d:=d+1) (n:=p.length) (g:=g) (x:=x) (y:=y) (Nat.succ_pos d)
 rw[Bz] at kc
 have bad:∀{h:H} {c:Int},S.aB p x y 0 seen=c->c≠0->∃P,wy (One (S.aR p x y seen)) (One (S.aB p x y 0 seen)) P 0 h (.tup [.nils,.int .i64 c]):=fun h1 h2 =>
  ⟨fun _=>True,_,_,rfl,aF.2 ⟨_,rfl,by rw[S.aR,if_neg (by rw[h1];exact h2)];exact ⟨by show 0<9223372036854775808;decide,rfl⟩⟩,by rw[h1];exact bz.2 rfl⟩
 rw[ke]
 refine eS lR (xs:=[v,.int .u64 (seen:Int),.int .i64 x,.int .i64 y]) (by simp only[az,e,aX]) (by simp[br]) (nF (m:=1) (dE _) (dE _) (by decide) (by decide)) (by decide) hd ?_
 cases hG:S.az p with
 | false =>
  have:S.aB p x y 0 seen=70:=by rw[ju,hG];rfl
  rw[hG] at kc
  simp only[sz,simprocAttr,br,kc]
  exact bad this (by decide)
 | true =>
  rw[hG] at kc
  by_cases c:seen<2 ^ p.length
  ·cases h2:S.aK p.length x y with
   | false =>
    have:S.aB p x y 0 seen=2:=by rw[ju,hG,h2];rfl
    simp only[sz,simprocAttr,br,kc,lp,kt,h2,aH _ _ _ hs,eV,c]
    exact bad this (by decide)
   | true =>
    have hE:S.aB p x y 0 seen=0:=by rw[ju,hG,h2,decide_eq_true c];rfl
    obtain ⟨a,b,rfl,rfl,ha,hb,hab⟩:=pY.1 h2
    have hGo:=gF.1 hG
    have n8:=hGo.l8
    have h256:=im n8
    have hA:=vJ ha
    have hB:=vJ hb
    have hsa:aS .shl (.int .u64 1) (.int .i64 (a:Int))=.val (.int .u64 ((2 ^ a:Nat):Int)):=by rw[aI,cq (by omega)]
    have hsb:aS .shl (.int .u64 1) (.int .i64 (b:Int))=.val (.int .u64 ((2 ^ b:Nat):Int)):=by rw[aI,cq (by omega)]
    have hsn:aS .shl (.int .u64 1) (.int .i64 (p.length:Int))=.val (.int .u64 ((2 ^ p.length:Nat):Int)):=by rw[aI,cq (by omega)]
    have ho:=eY (2 ^ a) (2 ^ b) (by omega) (by omega)
    have hon:=aW seen (2 ^ a ||| 2 ^ b) hs (vK (by omega) (by omega))
    obtain ⟨s,hss⟩:∃s,s=S.aM seen a b:=⟨_,rfl⟩
    have hon:aS .andNot (.int .u64 (seen:Int)) (.int .u64 ((2 ^ a ||| 2 ^ b:Nat):Int))=.val (.int .u64 (s:Int)):=by rw[hss,S.aM];exact hon
    have hsl:s<2 ^ p.length:=by rw[hss,S.aM];exact tC c
    have kO:=fun g=>Ec (d:=d+1) (g:=g) (Nat.succ_pos d) (x:=s) (by omega)
    have hpop:=BW hsl n8
    have wp1:IntKind.wrap .i64 ((S.ae s:Int)+1)=((S.ae s+1:Nat):Int):=dO (by omega) (by omega)
    simp only[sz,simprocAttr,br,kc,lp,kt,h2,aH _ _ _ hs,eV,c,hsa,hsb,ho,hon,kO,wp1,fh,ff]
    refine bV (m:=S.ae s+1) (by omega) (fun j t df g=>df=[]/\St t (LBd v s a b)/\∃u,tat t 11=u/\Own g 0 u 1 ((S.af p a b s j).map cu)) ⟨rfl,by simp[St,LBd,sx],_,by simp[sx];rfl,.inr ⟨0,0,false,Nat.le_refl 0,by simp,rfl,by simp[sx,S.af]⟩⟩ (by simp[sx]) (by simp[sx]) (by decide)
     (by rintro k t df g v s (rfl | rfl | rfl) ⟨a1,⟨b1,b2,b3,b4,-⟩,u,a2,a3⟩<;>exact ⟨a1,by simp[St,LBd,sx,b1,b2,b3,b4],u,by simp[sx,a2],a3⟩) ?_ ?_
    ·rintro j t df g hj ⟨rfl,⟨h0,h1,h2,h3,-⟩,u,h11,hO⟩ h45 h44
     simp only[sz,simprocAttr,h0,h45,lp,hsn]
     refine E6 (u:=u) (j:=j) (M:=S.ae s+1) (seen:=seen) (Nat.succ_pos d) hv hGo ha hb hab hss hsl (by omega) (by simp[St,LBd,sx,h0,h1,h2,h3,h44,h45]) (by simp[sx,h11]) (by simp[sx]) (by simp[sx]) hO ?_
     rintro t g' u' ⟨h45,h44,h0,h1,h2,h3,-⟩ h11 hO
     simp only[sz,simprocAttr,h45]
     exact ⟨⟨by simp[St,LBd,sx,h0,h1,h2,h3],u',by simp[sx,h11],hO⟩,by simp[sx,h44]⟩
    ·rintro t df g ⟨rfl,-,u,h11,hO⟩
     simp only[sz,simprocAttr,e_,h11]
     have hl:S.aR p (a:Int) (b:Int) seen=S.af p a b s (S.ae s+1):=by rw[S.aR,if_pos hE,S.aY,Int.toNat_natCast,Int.toNat_natCast,<-hss]
     have hlen:=m6 (p:=p) (a:=a) (b:=b) (seen:=s) (S.ae s+1)
     have hle:(S.ae s+1)*2 ^ p.length<=9*256:=Nat.mul_le_mul (by omega) h256
     rw[hl,hE]
     exact ⟨fun _=>True,_,_,rfl,aF.2 ⟨_,rfl,hO.nats' (by omega) fun y hy=>by have:=(nK.1 hy).2.1;omega⟩,bz.2 rfl⟩
  ·have:S.aB p x y 0 seen=2:=by rw[ju,hG,decide_eq_false c];simp
   simp only[sz,simprocAttr,br,kc,lp,aH _ _ _ hs,eV,c]
   exact bad this (by decide)
def LRb (v:AV)(s a b:Nat):List (Nat×AV):=[(0,v),(1,.int .u64 (s:Int)),(2,.int .i64 (a:Int)),(3,.int .i64 (b:Int))]
theorem Dk {d kk:Nat}{Q:QT}{t:T}{g:G}{v:AV}{p:List Nat}{a b seen s z:Nat}(hd:0<d)(r1:∀h,SlR NoP kk h p v)(hG:GOk p)(ha:a<p.length)(hb:b<p.length)(hab:a≠b)(hs:s=S.aM seen a b)(hz:z<2 ^ p.length)(hzs:Sub z s)
  (ht:St t ((11,.int .u64 (z:Int))::LRb v s a b)) (h12:tat t 12=.bool true) (h13:tat t 13=.int .u64 0) {J:T->Prop} (hJ:J t) (hJs:∀t k w,(k=12\/k=13\/(56<=k/\k<=71))->J t->J (cg t k w))
  (fin:∀t,J t->St t ((11,.int .u64 (z:Int))::LRb v s a b)->tat t 12=.bool ((List.range z).all fun q=>!(S.aC q z&&S.an p a b q))->Q (.exit 4) t [] g):wpL (wp C0 d none dq) Q t [] g:=by
 have n8:=hG.l8
 have h256:=im n8
 simp only[dq,fZ]
 refine pH (m:=z) (fun q t df g'=>df=[]/\g'=g/\J t/\St t ((13,.int .u64 (q:Int))::(12,.bool ((List.range q).all fun q=>!(S.aC q z&&S.an p a b q)))::(11,.int .u64 (z:Int))::LRb v s a b)) ⟨rfl,rfl,hJ,h13,by rw[h12];rfl,ht⟩ ?_ ?_ ?_
 ·rintro q t df g' hq ⟨rfl,rfl,hj,h13,h12,h11,h0,h1,h2,h3,-⟩
  simp only[sz,simprocAttr,h11,h13]
  refine ⟨?_,?_,by simp[St,LRb,sx,h0,h1,h2,h3,h11,h12,h13]⟩
  ·congr 1
   exact decide_eq_decide.2 (by omega)
  ·exact hJs _ _ _ (by omega) (hJs _ _ _ (by omega) (hJs _ _ _ (by omega) hj))
 ·rintro q t df g' hq ⟨rfl,rfl,hj,h13,h12,h11,h0,h1,h2,h3,-⟩
  have wq:IntKind.wrap .u64 ((q:Int)+1)=((q+1:Nat):Int):=by rw[bk (by omega) (by omega)];omega
  by_cases c:q ^^^ (q &&& z)=0
  ·have c':((q ^^^ (q &&& z):Nat):Int)=0:=by omega
   have hsub:=jp.1 c
   have hsf:=sW (a:=a) (b:=b) (seen:=seen) (z:=q) (by rw[<-hs];exact fun v hv=>hzs v (hsub v hv))
   have kB:=fun g:G=>ux (d:=d) (g:=g) hd (r1 g.h) hG ha hb hab (show q<2 ^ p.length by omega) hsf.1 hsf.2
   have hp:S.aC q z=true:=decide_eq_true c
   cases hbd:S.an p a b q with
   | true =>
    rw[hbd] at kB
    simp only[sz,simprocAttr,h0,h2,h3,h11,h13,aW q z (by omega) (by omega),c',kB,wq]
    refine ⟨?_,by simp[St,LRb,sx,h0,h1,h2,h3,h11,h13,eX,hp,hbd]⟩
    repeat' first | exact hj | refine hJs _ _ _ (by omega) ?_
   | false =>
    rw[hbd] at kB
    simp only[sz,simprocAttr,h0,h2,h3,h11,h13,aW q z (by omega) (by omega),c',kB,wq]
    refine ⟨?_,by simp[St,LRb,sx,h0,h1,h2,h3,h11,h12,h13,eX,hp,hbd]⟩
    repeat' first | exact hj | refine hJs _ _ _ (by omega) ?_
  ·have c':¬((q ^^^ (q &&& z):Nat):Int)=0:=by omega
   have hp:S.aC q z=false:=decide_eq_false c
   simp only[sz,simprocAttr,h0,h2,h3,h11,h13,aW q z (by omega) (by omega),c',wq]
   refine ⟨?_,by simp[St,LRb,sx,h0,h1,h2,h3,h11,h12,h13,eX,hp]⟩
   repeat' first | exact hj | refine hJs _ _ _ (by omega) ?_
 ·rintro t df g' ⟨rfl,rfl,hj,h13,h12,ht⟩
  exact fin t hj ht h12
theorem CZ {d kk:Nat}{Q:QT}{t:T}{g:G}{v u:AV}{p:List Nat}{a b seen s j:Nat}(hd:0<d)(r1:∀h,SlR NoP kk h p v)(hG:GOk p)(ha:a<p.length)(hb:b<p.length)(hab:a≠b)(hs:s=S.aM seen a b)(hsl:s<2 ^ p.length)(hj:j<=8)
  (ht:St t ((10,.int .i64 (j:Int))::LRb v s a b)) (h9:tat t 9=u) (h11:tat t 11=.int .u64 0) (hO:Own g 0 u 1 ((S.af p a b s j).map cu))
  (fin:∀t g' u',St t ((10,.int .i64 (j:Int))::LRb v s a b)->tat t 9=u'->Own g' 0 u' 1 ((S.af p a b s (j+1)).map cu)->Q (.exit 2) t [] g'):wpL (wp C0 d none dk) Q t [] g:=by
 have n8:=hG.l8
 have h256:=im n8
 have vl:∀g,dc .slice v g=.val (.int .i64 (p.length:Int)):=fun g=>(r1 .nil).len g
 obtain ⟨M,hMe⟩:∃M,M=2 ^ p.length:=⟨_,rfl⟩
 have s3:aS .shl (.int .u64 1) (.int .u64 (p.length:Int))=.val (.int .u64 (M:Int)):=by rw[aI,cq (by omega),hMe]
 have wn:IntKind.wrap .u64 (p.length:Int)=(p.length:Int):=bk (by omega) (by omega)
 simp only[dk,f_]
 refine pH (m:=M) (fun z t df g'=>df=[]/\St t ((11,.int .u64 (z:Int))::(10,.int .i64 (j:Int))::LRb v s a b)/\∃u,tat t 9=u/\Own g' 0 u 1 ((S.af p a b s j++S.am p a b s j z).map cu))
  ⟨rfl,⟨h11,ht⟩,u,h9,by rw[sF,List.append_nil];exact hO⟩ ?_ ?_ ?_
 ·rintro z t df g hz ⟨rfl,⟨h11,h10,h0,h1,h2,h3,-⟩,u,h9,hO⟩
  simp only[sz,simprocAttr,h0,h11,vl,wn,s3]
  refine ⟨?_,by simp[St,LRb,sx,h0,h1,h2,h3,h10,h11],u,by simp[sx,h9],hO⟩
  congr 1
  exact decide_eq_decide.2 (by omega)
 ·rintro z t df g1 hz ⟨rfl,⟨h11,h10,h0,h1,h2,h3,-⟩,u,h9,hO⟩
  have hzl:z<2 ^ p.length:=by omega
  have hz64:z<18446744073709551616:=by omega
  have hs64:s<18446744073709551616:=by omega
  have wz:IntKind.wrap .u64 ((z:Int)+1)=((z+1:Nat):Int):=by rw[bk (by omega) (by omega)];omega
  have hlen:(S.af p a b s j++S.am p a b s j z).length<=2304:=by
   have e1:=m6 (p:=p) (a:=a) (b:=b) (seen:=s) j
   have e2:=qK (p:=p) (a:=a) (b:=b) (seen:=s) (k:=j) z
   have e3:j*2 ^ p.length<=8*256:=Nat.mul_le_mul hj h256
   rw[List.length_append];omega
  have stay:S.ay p a b s z=false\/S.ae z≠j->S.am p a b s j (z+1)=S.am p a b s j z:=fun h=>by
   rw[lM]
   have:(decide (S.ae z=j)&&S.ay p a b s z)=false:=by
    rcases h with h | h
    ·rw[h,Bool.and_false]
    ·rw[decide_eq_false h,Bool.false_and]
   rw[this];simp
  by_cases c1:z ^^^ (z &&& s)=0
  ·have hsub:=jp.1 c1
   have hps:S.aC z s=true:=decide_eq_true c1
   have c1':((z ^^^ (z &&& s):Nat):Int)=0:=by omega
   have hsf:=sW (a:=a) (b:=b) (seen:=seen) (by rw[<-hs];exact hsub)
   have kB:=fun g:G=>ux (d:=d) (g:=g) hd (r1 g.h) hG ha hb hab hzl hsf.1 hsf.2
   simp only[sz,simprocAttr,h0,h1,h2,h3,h10,h11,aW z s hz64 hs64,c1']
   refine jy (vM hd (show z<256 by omega)) fun r hr=>?_
   obtain ⟨l,hl,hr⟩:=hr
   have hr:SlR NoP 0 .nil l r:=by
    obtain ⟨z',e,hz'⟩:=aF.1 hr
    injection e with e
    subst e
    exact hz'
   have lz:=hr.len
   rw[hl] at lz
   by_cases c2:S.ae z=j
   ·have c2':decide ((S.ae z:Int)=(j:Int))=true:=decide_eq_true (by omega)
    cases hbd:S.an p a b z with
    | false =>
     have hF:S.ay p a b s z=false:=by rw[S.ay,hbd];simp
     rw[hbd] at kB
     simp only[sz,simprocAttr,h0,h1,h2,h3,h10,h11,lz,c2',kB,wz]
     exact ⟨by simp[St,LRb,sx,h0,h1,h2,h3,h10],u,by simp[sx,h9],by rw[stay (.inl hF)];exact hO⟩
    | true =>
     rw[hbd] at kB
     simp only[sz,simprocAttr,h0,h1,h2,h3,h10,h11,lz,c2',kB]
     refine Dk (p:=p) (a:=a) (b:=b) (seen:=seen) (s:=s) (z:=z) (v:=v) hd r1 hG ha hb hab hs hzl hsub (by simp[St,LRb,sx,h0,h1,h2,h3,h11]) (by simp[sx]) (by simp[sx])
      (J:=fun t=>tat t 9=u/\tat t 10=.int .i64 (j:Int)) (by simp[sx,h9,h10]) (fun t k w hk hJ=>?_) ?_
     ·simp only[fV]
      rw[if_neg (by omega),if_neg (by omega)];exact hJ
     clear h0 h1 h2 h3 h9 h10 h11
     rintro t ⟨h9,h10⟩ ⟨h11,h0,h1,h2,h3,-⟩ h12
     have hF:S.ay p a b s z=(List.range z).all fun q=>!(S.aC q z&&S.an p a b q):=by rw[S.ay,hps,hbd];simp
     rw[<-hF] at h12
     cases hm:S.ay p a b s z with
     | true =>
      rw[hm] at h12
      simp only[sz,simprocAttr,dw,h9,h11,h12]
      refine bP (new:=[cu z]) (hO.step (Fr.new _ _)) (by simp[sx,sy,cu]) (by simp) (by rw[List.length_map,dB];simp;simp at hlen;omega) fun v2 g2 hv2 n2 f2 _ l2=>?_
      simp only[sz,simprocAttr,h11,wz]
      have:S.af p a b s j++S.am p a b s j (z+1)=(S.af p a b s j++S.am p a b s j z)++[z]:=by
       rw[lM,hm,decide_eq_true c2,List.append_assoc];rfl
      exact ⟨by simp[St,LRb,sx,h0,h1,h2,h3,h10],v2,by simp[sx],by rw[this,List.map_append];exact hv2⟩
     | false =>
      rw[hm] at h12
      simp only[sz,simprocAttr,dw,h11,h12,wz]
      exact ⟨by simp[St,LRb,sx,h0,h1,h2,h3,h10],u,by simp[sx,h9],by rw[stay (.inl hm)];exact hO⟩
   ·have c2':decide ((S.ae z:Int)=(j:Int))=false:=decide_eq_false (by omega)
    simp only[sz,simprocAttr,h10,h11,lz,c2',wz]
    exact ⟨by simp[St,LRb,sx,h0,h1,h2,h3,h10],u,by simp[sx,h9],by rw[stay (.inr c2)];exact hO⟩
  ·have c1':¬((z ^^^ (z &&& s):Nat):Int)=0:=by omega
   have hF:S.ay p a b s z=false:=by
    rw[<-Bool.not_eq_true]
    intro h
    exact c1 (jp.2 (gE.1 h).1)
   simp only[sz,simprocAttr,h1,h11,aW z s hz64 hs64,c1',wz]
   exact ⟨by simp[St,LRb,sx,h0,h1,h2,h3,h10],u,by simp[sx,h9],by rw[stay (.inl hF)];exact hO⟩
 ·rintro t df g' ⟨rfl,⟨-,ht⟩,u',h9,hO⟩
  rw[hMe] at hO
  exact fin t g' u' ht h9 hO
theorem Dn {d k:Nat}{g:G}{P:Nat->Prop}{v:AV}{p:List Nat}{a b seen:Nat}(hd:0<d)(hv:SlR P k g.h p v)(hG:GOk p)(ha:a<p.length)(hb:b<p.length)(hab:a≠b)(hs:seen<2 ^ p.length) :
  ∃r,ap C0 d N.aF [v,.int .u64 (seen:Int),.int .i64 (a:Int),.int .i64 (b:Int)] g=.val r/\One (S.aY p a b seen) NoP 0 .nil r:=by
 obtain ⟨v',e,r1⟩:=bN hv d
 have n8:=hG.l8
 have h256:=im n8
 have vl:∀g,dc .slice v' g=.val (.int .i64 (p.length:Int)):=fun g=>(r1 .nil).len g
 have hA:=vJ ha
 have hB:=vJ hb
 have wa:IntKind.wrap .u64 (a:Int)=(a:Int):=bk (by omega) (by omega)
 have wb:IntKind.wrap .u64 (b:Int)=(b:Int):=bk (by omega) (by omega)
 have hsa:aS .shl (.int .u64 1) (.int .u64 (a:Int))=.val (.int .u64 ((2 ^ a:Nat):Int)):=by rw[aI,cq (by omega)]
 have hsb:aS .shl (.int .u64 1) (.int .u64 (b:Int))=.val (.int .u64 ((2 ^ b:Nat):Int)):=by rw[aI,cq (by omega)]
 have ho:=eY (2 ^ a) (2 ^ b) (by omega) (by omega)
 have hon:=aW seen (2 ^ a ||| 2 ^ b) (by omega) (vK (by omega) (by omega))
 obtain ⟨s,hss⟩:∃s,s=S.aM seen a b:=⟨_,rfl⟩
 have hon:aS .andNot (.int .u64 (seen:Int)) (.int .u64 ((2 ^ a ||| 2 ^ b:Nat):Int))=.val (.int .u64 (s:Int)):=by rw[hss,S.aM];exact hon
 have hsl:s<2 ^ p.length:=by rw[hss,S.aM];exact tC hs
 have hpop:=BW hsl n8
 rw[kP]
 refine eS mA (xs:=[v',.int .u64 (seen:Int),.int .i64 (a:Int),.int .i64 (b:Int)]) (by simp only[az,e,aX]) (by simp[e8]) (dE _) (by decide) hd ?_
 simp only[sz,simprocAttr,e8,wa,wb,hsa,hsb,ho,hon,f8,fS]
 refine np (p.length+1) (by omega) (fun j t df g=>df=[]/\St t (LRb v' s a b)/\∃u,tat t 9=u/\Own g 0 u 1 ((S.af p a b s j).map cu)) ⟨rfl,by simp[St,LRb,sx],.nils,by simp[sx],.inl ⟨rfl,by simp[S.af]⟩⟩ (by simp[sx]) (by decide)
  (by rintro k t df g v s (rfl | rfl | rfl) ⟨a1,⟨b1,b2,b3,b4,-⟩,u,a2,a3⟩<;>exact ⟨a1,by simp[St,LRb,sx,b1,b2,b3,b4],u,by simp[sx,a2],a3⟩) ?_ ?_ ?_
 ·rintro j t df g hj ⟨rfl,⟨h0,h1,h2,h3,-⟩,u,h9,hO⟩ h10
  simp only[sz,simprocAttr,h0,h10,vl]
  refine ⟨?_,by simp[St,LRb,sx,h0,h1,h2,h3],u,by simp[sx,h9],hO⟩
  congr 1
  exact decide_eq_decide.2 (by omega)
 ·rintro j t df g hj ⟨rfl,⟨h0,h1,h2,h3,-⟩,u,h9,hO⟩ h10
  simp only[sz,simprocAttr]
  refine CZ (u:=u) (j:=j) (seen:=seen) (Nat.succ_pos d) r1 hG ha hb hab hss hsl (by omega) (by simp[St,LRb,sx,h0,h1,h2,h3,h10]) (by simp[sx,h9]) (by simp[sx]) hO ?_
  rintro t g' u' ⟨h10,h0,h1,h2,h3,-⟩ h9 hO
  simp only[sz,simprocAttr]
  exact ⟨⟨by simp[St,LRb,sx,h0,h1,h2,h3],u',h9,hO⟩,h10⟩
 ·rintro t df g ⟨rfl,-,u,h9,hO⟩
  simp only[sz,simprocAttr,fP,h9]
  have hl:S.aY p a b seen=S.af p a b s (p.length+1):=by
   rw[S.aY,<-hss]
   exact (Cy (by omega)).symm
  have hlen:=m6 (p:=p) (a:=a) (b:=b) (seen:=s) (p.length+1)
  have hle:(p.length+1)*2 ^ p.length<=9*256:=Nat.mul_le_mul (by omega) h256
  rw[hl]
  exact ⟨fun _=>True,aF.2 ⟨_,rfl,hO.nats' (by omega) fun y hy=>by have:=(nK.1 hy).2.1;omega⟩⟩
theorem tR (g:G):ap C0 1 N.aY [] g=.val (.bool true):=by kernel_rfl
def LS0 (A gv T37:AV)(x y:Int)(zs kk i j:Nat):List (Nat×AV):=[(2,.int .i64 x),(3,.int .i64 y),(4,.int .u64 (zs:Int)),(5,.int .u8 (kk:Int)),(14,gv),(26,A),(27,.int .i64 (i:Int)),(37,T37),(38,.int .i64 (j:Int))]
theorem Dp {d:Nat}{Q:QT}{t:T}{g:G}{A gv T37 T52:AV}{x y:Int}{zs kk i j s:Nat}{p:List Nat}(hd:0<d)(hv:SlR NoP 0 .nil p gv)(hs:s<18446744073709551616)
  (hix:∀k:Nat,k<2->∃u w:Int,ixV true 2 2 T52 (.int .i64 (k:Int))=.val (.agg [.int .i64 u,.int .i64 w]))
  (ht:St t ((16,.int .u64 (s:Int))::(52,T52)::LS0 A gv T37 x y zs kk i j)) (h53:tat t 53=.int .i64 0)
  (fin:∀t g',St t (LS0 A gv T37 x y zs kk i j)->Fr g g'->Q (.exit 4) t [] g'):wpL (wp C0 d none cX) Q t [] g:=by
 simp only[cX]
 refine ku (m:=2) rfl (by omega) (fun k t df g'=>df=[]/\Fr g g'/\St t ((16,.int .u64 (s:Int))::(52,T52)::LS0 A gv T37 x y zs kk i j)) ⟨rfl,Fr.refl _,ht⟩ h53 (by decide)
  (by rintro j t df g v s (rfl | rfl | rfl) ⟨a1,a2,⟨b1,b2,b3,b4,b5,b6,b7,b8,b9,b10,b11,-⟩⟩<;>exact ⟨a1,a2,by simp[St,LS0,sx,b1,b2,b3,b4,b5,b6,b7,b8,b9,b10,b11]⟩) ?_ ?_
 ·rintro k t df g1 hk ⟨rfl,hF,h16,h52,h2,h3,h4,h5,h14,h26,h27,h37,h38,-⟩ h53
  obtain ⟨u,w,hi⟩:=hix k hk
  have hv':∀h,SlR NoP 0 h p gv:=fun h=>hv.tree (Nat.le_refl 0)
  have i0:∀id,AZ 2 1 (.hptr id 0 0 0) (.int .i64 0)=.val (.hptr id 0 0 0):=fun id=>rfl
  have i1:∀id,AZ 2 1 (.hptr id 0 0 0) (.int .i64 1)=.val (.hptr id 0 0 1):=fun id=>rfl
  have l0:aL (.cells 2 [[.int .i64 u,.int .i64 w]] 0 false false) 0 0 false 1 0=.val (.int .i64 u):=rfl
  have l1:aL (.cells 2 [[.int .i64 u,.int .i64 w]] 0 false false) 0 0 false 1 1=.val (.int .i64 w):=rfl
  obtain ⟨r,hr⟩:∃r,r=g1.nx:=⟨_,rfl⟩
  refine lE (P:=fun t' df g'=>df=[]/\St t' ((18,.hptr r 0 0 0)::(53,.int .i64 (k:Int))::(16,.int .u64 (s:Int))::(52,T52)::LS0 A gv T37 x y zs kk i j)/\Fr g g'/\r<g'.nx/\g'.h.get r=.cells 2 [[.int .i64 u,.int .i64 w]] 0 false false) ?_ ?_
  ·simp only[sz,simprocAttr,h52,h53,hi]
   refine ⟨by simp[St,LS0,sx,h2,h3,h4,h5,h14,h16,h26,h27,h37,h38,h52,h53,hr],⟨by have:=hF.1;simp;omega,fun i hi=>?_⟩,by simp[hr],by simp[H.get_put,hr]⟩
   have:=hF.1
   rw[<-hF.2 i hi]
   simp[H.get_put,show ¬i=g1.nx by omega]
  clear h2 h3 h4 h5 h14 h16 h26 h27 h37 h38 h52 h53 hr
  rintro t df g2 ⟨rfl,⟨h18,h53,h16,h52,h2,h3,h4,h5,h14,h26,h27,h37,h38,-⟩,hF2,hr,hg⟩
  have kF:∀g,ap C0 d N.aA [gv,.int .i64 u,.int .i64 w,.int .u64 0,.int .u64 (s:Int)] g=.val (.int .i64 (S.aB p u w 0 s)):=fun g=>tE (zs:=0) hd (hv' g.h) (by decide) hs
  simp only[sz,simprocAttr,h14,h16,h18,i0,i1,hg,l0,l1,kF]
  refine jy (tU hd hv hs) fun z hz=>?_
  obtain ⟨a1,b1,rfl,hz1,hz2⟩:=hz
  have hz2:=bz.1 hz2
  injection hz2 with hz2
  subst hz2
  obtain ⟨_,er,hz1⟩:=aF.1 hz1
  injection er with er
  subst er
  have lz:=hz1.len
  by_cases c:S.aB p u w 0 s=0
  ·obtain ⟨hG,a',b',rfl,rfl,ha,hb,hab,-,-,-⟩:=zh c
   have hsl:s<2 ^ p.length:=by
    rw[ju,gF.2 hG,if_pos rfl] at c
    split at c
    ·rename_i h
     simp only[Bool.and_eq_true,decide_eq_true_eq] at h
     exact h.2
    ·cases c
   have hE:S.aR p (a':Int) (b':Int) s=S.aY p a' b' s:=by rw[S.aR,if_pos c];simp
   rw[hE] at hz1 lz
   simp only[sz,simprocAttr,h14,h16,h18,i0,i1,hg,l0,l1,c,lz]
   refine jy (Dn hd (hv' _) hG ha hb hab hsl) fun z2 hz2=>?_
   obtain ⟨_,er,hz2⟩:=aF.1 hz2
   injection er with er
   subst er
   have kS:=fun g:G=>DC (d:=d) (g:=g) hd (hz1.tree (h':=g.h) (Nat.le_refl 0)) (hz2.tree (h':=g.h) (Nat.le_refl 0))
   simp only[sz,simprocAttr,kS,decide_true]
   exact ⟨⟨hF2,by simp[St,LS0,sx,h2,h3,h4,h5,h14,h16,h26,h27,h37,h38,h52]⟩,h53⟩
  ·have hE:S.aR p u w s=[]:=by rw[S.aR,if_neg c]
   rw[hE] at lz
   have lz:∀g,dc .slice a1 g=.val (.int .i64 0):=lz
   simp only[sz,simprocAttr,h14,h16,h18,i0,i1,hg,l0,l1,c,lz]
   exact ⟨⟨hF2,by simp[St,LS0,sx,h2,h3,h4,h5,h14,h16,h26,h27,h37,h38,h52]⟩,h53⟩
 ·rintro t df g' ⟨rfl,hF,-,-,ht⟩
  exact fin t g' ht hF
def LS1 (A gv T37:AV)(x y:Int)(zs kk i:Nat):List (Nat×AV):=[(2,.int .i64 x),(3,.int .i64 y),(4,.int .u64 (zs:Int)),(5,.int .u8 (kk:Int)),(14,gv),(26,A),(27,.int .i64 (i:Int)),(37,T37)]
theorem DE {d:Nat}{Q:QT}{t:T}{g:G}{A gv T37:AV}{x y:Int}{zs kk i:Nat}{p:List Nat}(hd:0<d)(hv:SlR NoP 0 .nil p gv)(hk8:kk<256)
  (hix:∀k:Nat,k<2->∃s:Nat,s<18446744073709551616/\ixV false 2 1 T37 (.int .i64 (k:Int))=.val (.int .u64 (s:Int)))
  (ht:St t (LS1 A gv T37 x y zs kk i)) (h38:tat t 38=.int .i64 0)
  (fin:∀t g',St t (LS1 A gv T37 x y zs kk i)->Fr g g'->Q (.exit 2) t [] g'):wpL (wp C0 d none cV) Q t [] g:=by
 simp only[cV,fe]
 refine ku (m:=2) rfl (by omega) (fun k t df g'=>df=[]/\Fr g g'/\St t (LS1 A gv T37 x y zs kk i)) ⟨rfl,Fr.refl _,ht⟩ h38 (by decide)
  (by rintro j t df g v s (rfl | rfl | rfl) ⟨a1,a2,⟨b1,b2,b3,b4,b5,b6,b7,b8,-⟩⟩<;>exact ⟨a1,a2,by simp[St,LS1,sx,b1,b2,b3,b4,b5,b6,b7,b8]⟩) ?_ ?_
 ·rintro k t df g1 hk ⟨rfl,hF,h2,h3,h4,h5,h14,h26,h27,h37,-⟩ h38
  obtain ⟨s,hs,hi⟩:=hix k hk
  obtain ⟨a,ea,ha⟩:∃a:Nat,a=kk % 6/\a<6:=⟨_,rfl,by omega⟩
  obtain ⟨b,eb,hb⟩:∃b:Nat,b=kk / 6 % 6/\b<6:=⟨_,rfl,by omega⟩
  have r1:aS .rem (.int .u8 (kk:Int)) (.int .u8 6)=.val (.int .u8 (a:Int)):=by rw[tZ .u8 (by omega) (by omega)];congr 2;omega
  have q1:aS .quo (.int .u8 (kk:Int)) (.int .u8 6)=.val (.int .u8 ((kk / 6:Nat):Int)):=by
   rw[DK .u8 (by omega) (by omega)]
   have:IntKind.wrap .u8 ((kk:Int) / 6)=((kk / 6:Nat):Int):=by
    show ((kk:Int) / 6) % 256=_
    omega
   rw[this]
  have r2:aS .rem (.int .u8 ((kk / 6:Nat):Int)) (.int .u8 6)=.val (.int .u8 (b:Int)):=by rw[tZ .u8 (by omega) (by omega)];congr 2;omega
  have wa:IntKind.wrap .i64 (a:Int)=(a:Int):=dO (by omega) (by omega)
  have wb:IntKind.wrap .i64 (b:Int)=(b:Int):=dO (by omega) (by omega)
  refine lE (P:=fun t' df g'=>df=[]/\g'=g1/\St t' ((16,.int .u64 (s:Int))::LS0 A gv T37 x y zs kk i k)) ?_ ?_
  ·simp only[sz,simprocAttr,h37,h38,hi]
   simp[St,LS0,sx,h2,h3,h4,h5,h14,h26,h27,h37,h38]
  clear h2 h3 h4 h5 h14 h26 h27 h37 h38
  rintro t df g2 ⟨rfl,hg2,h16,h2,h3,h4,h5,h14,h26,h27,h37,h38,-⟩
  rw[hg2];clear hg2
  refine lE (P:=fun t' df g'=>df=[]/\g'=g1/\St t' ((53,.int .i64 0)::(16,.int .u64 (s:Int))::(52,.agg [.int .i64 x,.int .i64 y,.int .i64 (a:Int),.int .i64 (b:Int)])::LS0 A gv T37 x y zs kk i k)) ?_ ?_
  ·simp only[sz,simprocAttr,h2,h3,h5,r1,q1,r2,wa,wb]
   simp[St,LS0,sx,h2,h3,h4,h5,h14,h16,h26,h27,h37,h38]
  clear h2 h3 h4 h5 h14 h16 h26 h27 h37 h38
  rintro t df g2 ⟨rfl,hg2,h53,ht⟩
  rw[hg2];clear hg2
  simp only[sz,simprocAttr]
  refine Dp (p:=p) hd hv hs (fun k hk=>?_) ht h53 ?_
  ·match k,hk with
   | 0,_=>exact ⟨x,y,rfl⟩
   | 1,_=>exact ⟨a,b,rfl⟩
  rintro t g2 ⟨h2,h3,h4,h5,h14,h26,h27,h37,h38,-⟩ hF2
  simp only[sz,simprocAttr]
  exact ⟨⟨hF.trans hF2,h2,h3,h4,h5,h14,h26,h27,h37,trivial⟩,h38⟩
 ·rintro t df g' ⟨rfl,hF,ht⟩
  exact fin t g' ht hF
theorem CO {d:Nat}{Q:QT}{t:T}{g:G}{A:AV}{x y:Int}{zs kk:Nat}(hd:0<d)(hz:zs<18446744073709551616)(hk8:kk<256)
  (hA:∀j:Nat,j<2->∃(gv:AV) (p:List Nat),SlR NoP 0 .nil p gv/\ixV false 2 1 A (.int .i64 (j:Int))=.val gv)
  (ht:St t [(2,.int .i64 x),(3,.int .i64 y),(4,.int .u64 (zs:Int)),(5,.int .u8 (kk:Int)),(26,A)]) (h27:tat t 27=.int .i64 0)
  (fin:∀t g',Q (.exit 0) t [] g'):wpL (wp C0 d none cU) Q t [] g:=by
 simp only[cU,fg]
 refine ku (m:=2) rfl (by omega) (fun j t df g'=>df=[]/\St t [(2,.int .i64 x),(3,.int .i64 y),(4,.int .u64 (zs:Int)),(5,.int .u8 (kk:Int)),(26,A)]) ⟨rfl,ht⟩ h27 (by decide)
  (by rintro j t df g v s (rfl | rfl | rfl) ⟨a1,⟨b1,b2,b3,b4,b5,-⟩⟩<;>exact ⟨a1,by simp[St,sx,b1,b2,b3,b4,b5]⟩) ?_ ?_
 ·rintro j t df g1 hj ⟨rfl,h2,h3,h4,h5,h26,-⟩ h27
  obtain ⟨gv,p,hv,hi⟩:=hA j hj
  have lv:=hv.len
  obtain ⟨m,hm,hml⟩:=AN ((S.aF p.length:Int) - 1)
  have hsl:aS .shl (.int .u64 1) (.int .i64 (p.length:Int))=.val (.int .u64 (S.aF p.length:Int)):=aI .i64 p.length
  have n0:=bj zs m hz hml
  obtain ⟨u0,hu0⟩:∃u,u=zs &&& m:=⟨_,rfl⟩
  have lu0:u0<18446744073709551616:=by rw[hu0];exact EP hz
  rw[<-hu0] at n0
  clear hu0
  refine lE (P:=fun t' df g'=>df=[]/\g'=g1/\St t' [(14,gv),(27,.int .i64 (j:Int)),(2,.int .i64 x),(3,.int .i64 y),(4,.int .u64 (zs:Int)),(5,.int .u8 (kk:Int)),(26,A)]) ?_ ?_
  ·simp only[sz,simprocAttr,h26,h27,hi]
   simp[St,sx,h2,h3,h4,h5,h26,h27]
  clear h2 h3 h4 h5 h26 h27
  rintro t df g2 ⟨rfl,hg2,h14,h27,h2,h3,h4,h5,h26,-⟩
  rw[hg2];clear hg2
  refine lE (P:=fun t' df g'=>df=[]/\g'=g1/\St t' ((38,.int .i64 0)::LS1 A gv (.agg [.int .u64 (zs:Int),.int .u64 (u0:Int)]) x y zs kk j)) ?_ ?_
  ·simp only[sz,simprocAttr,h4,h14,lv,hsl,hm,n0]
   simp[St,LS1,sx,h2,h3,h4,h5,h14,h26,h27]
  clear h2 h3 h4 h5 h14 h26 h27
  rintro t df g2 ⟨rfl,hg2,h38,ht⟩
  rw[hg2];clear hg2
  simp only[sz,simprocAttr]
  refine DE (p:=p) hd hv hk8 (fun k hk=>?_) ht h38 ?_
  ·match k,hk with
   | 0,_=>exact ⟨zs,hz,rfl⟩
   | 1,_=>exact ⟨u0,lu0,rfl⟩
  rintro t g2 ⟨h2,h3,h4,h5,h14,h26,h27,h37,-⟩ hF2
  simp only[sz,simprocAttr]
  exact ⟨⟨h2,h3,h4,h5,h26,trivial⟩,h27⟩
 ·rintro t df g' ⟨rfl,-⟩
  exact fin t g'
theorem pq {x:ua}{raw:List Nat}{w:AV}{xs:List AV}{u v:Int}{zs kk:Nat}(hw:SlR NoP 0 .nil raw w)(hr:Raw w)(hx:Rp.rp NoP 0 .nil x xs)(_:-9223372036854775808<=u/\u<9223372036854775808)(_:-9223372036854775808<=v/\v<9223372036854775808)(hz:zs<18446744073709551616)(hk:kk<256) :
  ∃g',(I C0).call 1 N.aX [w,.agg xs,.int .i64 u,.int .i64 v,.int .u64 (zs:Int),.int .u8 (kk:Int)] G.empty=.ok (.bool true) g':=by
 have hgr:=fun g=>uS (d:=1) (g:=g) (by decide) hx hw hr
 obtain ⟨_,_,rfl,ha',hb'⟩:=eK.1 hx
 obtain ⟨a,rfl,-⟩:=aF.1 ha'
 obtain ⟨b,rfl,-⟩:=aF.1 hb'
 rw[List.cons_append,List.nil_append] at hgr ⊢
 have key:=lC (C:=C0) (d:=1) (f:=N.aX) («as»:=[w,.agg [a,b],.int .i64 u,.int .i64 v,.int .u64 (zs:Int),.int .u8 (kk:Int)]) (g:=G.empty) (K:=fun v g'=>v=.bool true) lY (by simp[d7]) ?_
 ·cases hc':(I C0).call 1 N.aX [w,.agg [a,b],.int .i64 u,.int .i64 v,.int .u64 (zs:Int),.int .u8 (kk:Int)] G.empty with
  | fail=>rw[hc'] at key;exact key.elim
  | ok v g'=>rw[hc'] at key;exact ⟨g',by rw[show v=.bool true from key]⟩
 have ld:aL (.cells 2 [[a,b]] 0 false false) 0 0 true 2 0=.val (.agg [a,b]):=rfl
 simp only[sz,simprocAttr,d7,Fu,fY,tR,ld]
 refine jy (hgr _) fun z hz'=>?_
 obtain ⟨y,-,cz,rfl,hz'⟩:=hz'
 obtain ⟨_,_,rfl,ha',hb'⟩:=eK.1 hz'
 obtain ⟨g1,rfl,q1⟩:=aF.1 ha'
 obtain ⟨g2,rfl,q2⟩:=aF.1 hb'
 simp only[sz,simprocAttr]
 refine CO (A:=.agg [g1,g2]) (x:=u) (y:=v) (zs:=zs) (kk:=kk) (by decide) hz hk (fun j hj=>?_) (by simp[St,sx]) (by simp[sx]) ?_
 ·match j,hj with
  | 0,_=>exact ⟨g1,y.1,q1,rfl⟩
  | 1,_=>exact ⟨g2,y.2,q2,rfl⟩
 intro t g'
 simp only[sz,simprocAttr,fj]
end
end Hx
end
