/- A part of the proof: an interpreter over abstract values, shown right against the model, and what the functions of the chapter compute on it. -/
import Derived.OpenShut
import Derived.DataReads
import Derived.Test.YtfpjoiojhegfaaaDoorHx13
set_option linter.unusedVariables false
set_option linter.unusedSimpArgs false
set_option linter.unnecessarySimpa false
section
namespace Hx
open Go
noncomputable section
def S.bw (p:List Nat)(xs ys zs:Nat):Bool:=decide (S.aX p [xs,ys,zs]=0)&&decide (S.a_ p xs zs &&& ys=0)
theorem Jw {n x y z:Nat}:S.aN n [x,y,z] 0=true↔x<2 ^ n/\y<2 ^ n/\y &&& x=0/\z<2 ^ n/\z &&& (x ||| y)=0:=by
 simp[S.aN,and_assoc]
theorem KY {g:G}{id:Nat}{l:List Nat}(h:g.h.get id=.cells 1 (l.map cu) 0 false false)(hi:id<g.nx)  (hl:l.length<9223372036854775808)(hb:∀y∈l,y<18446744073709551616):SlR (fun i=>some id=some i) 0 g.h l (.hsl id 0 0 l.length none) :=
 Own.natsV (b:=0) (v:=.hsl id 0 0 l.length none) (.inr ⟨id,0,false,Nat.zero_le _,hi,by simp,h⟩) hl hb
theorem zM {α:Type} [Rp α]{x:α}{k:Nat}{h h':H}{v:AV}(r:Agg x NoP k h v):Agg x NoP k h' v:=by
 obtain ⟨cs,rfl,r⟩:=r
 exact ⟨cs,rfl,Rp.tree r (Nat.le_refl _)⟩
theorem Dp {d:Nat}{g:G}{v:AV}{p:List Nat}{xs ys zs:Nat}(hd:0<d)(hv:SlR NoP 0 .nil p v)(hx:xs<18446744073709551616)(hy:ys<18446744073709551616)(hz:zs<18446744073709551616) :
  aA C0 d N.aB [v,.int .u64 (xs:Int),.int .u64 (ys:Int),.int .u64 (zs:Int)] g=.val (.tup [.bool (S.bw p xs ys zs),.int .i64 (S.aX p [xs,ys,zs])]):=by
 have key:∃r,aA C0 d N.aB [v,.int .u64 (xs:Int),.int .u64 (ys:Int),.int .u64 (zs:Int)] g=.val r/\rA (One (S.bw p xs ys zs)) (One (S.aX p [xs,ys,zs])) NoP 0 .nil r:=by
  have e:=tD (h:=g.h) d (hv.tree (h':=g.h) (Nat.le_refl 0))
  have fin:∀{h:H} {r:Bool} {x:Int},S.bw p xs ys zs=r->S.aX p [xs,ys,zs]=x->∃P,rA (One (S.bw p xs ys zs)) (One (S.aX p [xs,ys,zs])) P 0 h (.tup [.bool r,.int .i64 x]):=fun h1 h2 =>
   ⟨fun _=>True,_,_,rfl,by rw[h1];exact dU.2 rfl,by rw[h2];exact aX.2 rfl⟩
  rw[pW]
  refine bD q7 (xs:=[v,.int .u64 (xs:Int),.int .u64 (ys:Int),.int .u64 (zs:Int)]) (by simp only[aG,e,dT]) (by simp[im]) (eI (m:=1) (bc _) (bc _) (by decide) (by decide)) (by decide) hd ?_
  simp only[sz,simprocAttr,im]
  refine pu (Gb (Nat.succ_pos d) hv) fun z hz'=>?_
  obtain ⟨a,b,rfl,ha',hb⟩:=hz'
  have hA:=ha'
  obtain ⟨cs,rfl,hcs⟩:=ha'
  obtain ⟨_,_,rfl,ha,hb2⟩:=rh.1 hcs
  obtain ⟨pa,rfl,-⟩:=cA.1 ha
  obtain ⟨ch,rfl,-⟩:=cA.1 hb2
  obtain rfl:b=.int .i64 (if S.bg p then (0:Int) else 70):=by simpa using aX.1 hb
  have ld:aN (.cells 2 [[pa,ch]] 0 false false) 0 0 true 2 0=.val (.agg [pa,ch]):=rfl
  cases hG:S.bg p with
  | false =>
   have h70:S.aX p [xs,ys,zs]=70:=by simp[S.aX,hG]
   simp only[sz,simprocAttr,List.cons_append,List.nil_append]
   exact fin (by simp[S.bw,h70]) h70
  | true =>
   have hGo:=rO.1 hG
   have h256:=zh hGo.l8
   rw[S.gr,hG,if_pos rfl,List.cons_append,List.nil_append] at hA
   have kD:∀g:G,g.h.get 1=.cells 1 [[.int .u64 (xs:Int)],[.int .u64 (ys:Int)],[.int .u64 (zs:Int)]] 0 false false->1<g.nx->aA C0 (d+1) N.ay [.agg [pa,ch],.hsl 1 0 0 3 none] g=.val (.bool (S.aN p.length [xs,ys,zs] 0)) :=
    fun g h hn=>If (Nat.succ_pos d) (zM hA) (KY (l:=[xs,ys,zs]) h hn (by simp) (by simp[hx,hy,hz])) hGo.l8
   have kR:=fun (h1:xs<2 ^ p.length) (h2:zs<2 ^ p.length) g=>Fv (d:=d+1) (g:=g) (Nat.succ_pos d) (zM hA) hGo.hp hGo.l1 hGo.l8 (HH hGo.hp) h1 h2
   simp only[sz,simprocAttr,List.cons_append,List.nil_append,ld,D9]
   rw[kD _ (by simp[sx,H.get_put]) (by simp)]
   cases hD:S.aN p.length [xs,ys,zs] 0 with
   | false =>
    have h2:S.aX p [xs,ys,zs]=2:=by simp[S.aX,hG,hD]
    simp only[sz,simprocAttr]
    exact fin (by simp[S.bw,h2]) h2
   | true =>
    have h0:S.aX p [xs,ys,zs]=0:=by simp[S.aX,hG,hD]
    obtain ⟨d1,d2,-,d3,-⟩:=Jw.1 hD
    have hR:S.a_ p xs zs<2 ^ p.length:=tS _ _
    have hq:decide (((S.a_ p xs zs &&& ys:Nat):Int)=0)=decide (S.a_ p xs zs &&& ys=0):=by
     by_cases h:S.a_ p xs zs &&& ys=0
     ·simp[h]
     ·have:¬((S.a_ p xs zs &&& ys:Nat):Int)=0:=by omega
      simp[h]
    simp only[sz,simprocAttr,H.get_put,ld,kR d1 d3,dm _ _ (show S.a_ p xs zs<18446744073709551616 by omega) hy,hq]
    exact fin (by simp[S.bw,h0]) h0
 obtain ⟨r,h1,a,b,rfl,h2,h3⟩:=key
 have h2:=dU.1 h2
 have h3:=aX.1 h3
 injection h2 with h2
 injection h3 with h3
 rw[h1,h2,h3]
structure GD (a b u v:AV) (n:Nat) (num:Nat->Nat) (pl:List Int) (Y:List Nat) (g:G):Prop where
 h0:g.h.get 0=.cells 2 [[a,b]] 0 false false
 nu:Own g 1 u 1 (pl.map ci)
 ou:Own g 1 v 1 (Y.map cu)
 ne:∀i,vid u=some i->vid v≠some i
 ni:NumI n num Y
section
variable {d n:Nat}{a b u v:AV}{num:Nat->Nat}{pl:List Int}
end
end
end Hx
end
section
namespace Hx
open Go
noncomputable section
theorem EI {p l:List Nat}:S.aX p l=0↔GOk p/\S.aN p.length l 0=true:=by
 rw[S.aX]
 cases h1:S.bg p with
 | false=>simp;intro h;rw[rO.2 h] at h1;cases h1
 | true =>
  cases h2:S.aN p.length l 0 with
  | false=>simp
  | true=>simp[rO.1 h1]
theorem Ep {m n:Nat}(h:m<18446744073709551616)(h':n<18446744073709551616):m ^^^ (m &&& n)<18446744073709551616:=Nat.xor_lt_two_pow (n:=64) h (AR h)
theorem zL (g:G):aA C0 1 N.a9 [] g=.val (.bool true):=by kernel_rfl
theorem zO {p:List Nat}{x y z:Nat}(hG:GOk p)(hx:x<2 ^ p.length)(hy:y<2 ^ p.length)(hz:z<2 ^ p.length)(h1:y &&& x=0)(h2:z &&& x=0)(h3:z &&& y=0):S.aX p [x,y,z]=0:=by
 refine EI.2 ⟨hG,Jw.2 ⟨hx,hy,h1,hz,?_⟩⟩
 exact ii.2 fun v h=>(Dc.1 h.2).elim (fun h'=>ii.1 h2 v ⟨h.1,h'⟩) fun h'=>ii.1 h3 v ⟨h.1,h'⟩
theorem Fg {p:List Nat}{x y z:Nat}(hG:GOk p)(hx:x<2 ^ p.length)(hy:y<2 ^ p.length)(hz:z<2 ^ p.length)(h1:y &&& x=0)(h2:z &&& x=0)(h3:z &&& y=0):S.bw p x y z=true↔Apt p x y z:=by
 rw[S.bw,zO hG hx hy hz h1 h2 h3,<-Ip hy]
 simp only[decide_true,Bool.true_and,S.a_]
 exact ⟨of_decide_eq_true,fun h=>decide_eq_true h⟩
def S.wt (n:Net)(w:Nat):Int:=S.aJ n (S.aw (S.aa n) (w:Int))
structure BeJ (g0:G) (w m b:Int) (h:H):Prop where
 fr:∀i,i<g0.nx->i≠1->i≠5->i≠6->h.get i=g0.h.get i
 h1:h.get 1=.cells 1 [[.int .i64 w]] 0 false false
 h5:h.get 5=.cells 1 [[.int .i64 m]] 0 false false
 h6:h.get 6=.cells 1 [[.int .i64 b]] 0 false false
def S.bH (n:Net)(xs ys zs i w:Nat):Int:=S.bp n ((S.aC xs ys zs)[i]?.getD 0) w
structure DpM (n:Net) (xs ys zs mb j k:Nat) (h:H):Prop where
 hm:∀i,i<4->∃L:List (Int×Int),h.get (mb+i)=.map (mcl ik L)/\∀K,mgt L K=S.a9 n ((S.aC xs ys zs)[i]?.getD 0) K j+if i<k/\S.bH n xs ys zs i j=K then S.wt n j else 0
structure DpK (g0:G) (mb:Nat) (g:G):Prop where
 nx:g0.nx<=g.nx
 fr:∀i,(i<mb\/mb+4<=i)->i<g0.nx->g.h.get i=g0.h.get i
theorem ixm (mb p k:Nat)(h:k<4):aN (.cells 4 [[.hmap mb,.hmap (mb+1),.hmap (mb+2),.hmap (mb+3)]] 0 false false) 0 0 false 1 k=.val (.hmap (mb+k)):=by
 have:k=0\/k=1\/k=2\/k=3:=by omega
 rcases this with rfl | rfl | rfl | rfl<;>rfl
theorem KM (f:Nat->Int)(k:Nat)(h:k<4):ixV false 4 1 (.agg [.int .u64 (f 0),.int .u64 (f 1),.int .u64 (f 2),.int .u64 (f 3)]) (.int .i64 (k:Int))=.val (.int .u64 (f k)):=by
 have:k=0\/k=1\/k=2\/k=3:=by omega
 rcases this with rfl | rfl | rfl | rfl<;>rfl
def vT (xs ys zs:Nat):AV:=.agg [.int .u64 (((S.aC xs ys zs)[0]?.getD 0:Nat):Int),.int .u64 (((S.aC xs ys zs)[1]?.getD 0:Nat):Int),.int .u64 (((S.aC xs ys zs)[2]?.getD 0:Nat):Int),.int .u64 (((S.aC xs ys zs)[3]?.getD 0:Nat):Int)]
def LDm (xs ys zs p q r:Nat):List (Nat×AV):=[(10,.hptr q 0 0 0),(13,.hptr p 0 0 0),(14,.hptr r 0 0 0),(83,vT xs ys zs)]
set_option maxRecDepth 20000 in
theorem J1 {d lo xs ys zs p q r mb j:Nat}{rd:Option Nat}{n:Net}{y:QnM}{b fl S_ u:AV}{Q:QT}{t:T}{g0:G}(hd:0<d)(hr:NR n)(hx:xs<18446744073709551616)(hy:ys<18446744073709551616)(hz:zs<18446744073709551616)(hj:j<1024)
  (hc:Rp.rp NoP 0 .nil y [.int .i64 n.grain,b,fl,S_]) (hq:QnOk n y)
  (hu:SlR (fun i=>lo<=i/\i<g0.nx) 0 g0.h (S.aw (S.aa n) (j:Int)) u) (hlo:mb+4<=lo)
  (hp:(p<mb\/mb+4<=p)/\p<g0.nx) (hq':(q<mb\/mb+4<=q)/\q<g0.nx) (hr':(r<mb\/mb+4<=r)/\r<g0.nx)
  (k13:g0.h.get p=.cells 4 [[.hmap mb,.hmap (mb+1),.hmap (mb+2),.hmap (mb+3)]] 0 false false) (k10:g0.h.get q=.cells 4 [[.int .i64 n.grain,b,fl,S_]] 0 false false) (k14:g0.h.get r=.cells 3 [[.int .i64 (j:Int),.int .i64 (S.wt n j),u]] 0 false false)
  (h0:DpM n xs ys zs mb j 0 g0.h) (ht:St t (LDm xs ys zs p q r)) (h84:tat t 84=.int .i64 0)
  (fin:∀t g,DpK g0 mb g->DpM n xs ys zs mb j 4 g.h->Q (.exit 2) t [] g):wpL (wp C0 d rd gA) Q t [] g0:=by
 simp only[gA]
 refine tc (m:=4) rfl (by omega) (fun k t df g=>df=[]/\St t (LDm xs ys zs p q r)/\DpK g0 mb g/\DpM n xs ys zs mb j k g.h) ⟨rfl,ht,⟨Nat.le_refl _,fun _ _ _=>rfl⟩,h0⟩ h84 (by decide) (by rintro i t df g v s (rfl | rfl | rfl)<;>simp[St,LDm,sx]) ?_ ?_
 ·rintro k t df g hk ⟨rfl,⟨h10,h13,h14,h83,-⟩,hK,hM⟩ h84
  obtain ⟨L,l1,l2⟩:=hM.hm k hk
  have ix:=KM (fun i=>(((S.aC xs ys zs)[i]?.getD 0:Nat):Int)) k hk
  have hds:(S.aC xs ys zs)[k]?.getD 0<18446744073709551616:=by
   obtain ⟨s,hs⟩:∃s,(S.aC xs ys zs)[k]?=some s:=⟨_,List.getElem?_eq_getElem (by simp[S.aC];omega)⟩
   rw[hs];exact Dh hx hy hz s (List.mem_of_getElem? hs)
  obtain ⟨sk,hsk⟩:∃sk,sk=(S.aC xs ys zs)[k]?.getD 0:=⟨_,rfl⟩
  rw[<-hsk] at hds
  refine bS (P:=fun t' df g'=>df=[]/\g'=g/\St t' ((15,.int .i64 (k:Int))::(16,.int .u64 (sk:Int))::(84,.int .i64 (k:Int))::LDm xs ys zs p q r)) ?_ ?_
  ·simp only[sz,simprocAttr,h83,h84,vT,ix]
   simp[St,LDm,vT,sx,h10,h13,h14,h83,h84,hsk]
  clear h10 h13 h14 h83 h84
  rintro t df g' ⟨rfl,rfl,h15,h16,h84,h10,h13,h14,h83,-⟩
  have hinC:=jX (fun c hc=>(hr.cs c hc).1) (j:Int)
  obtain ⟨K,hKd⟩:∃K,K=S.bH n xs ys zs k j:=⟨_,rfl⟩
  have hu':SlR (fun _=>True) 0 g'.h (S.aw (S.aa n) (j:Int)) u:=hu.wd fun i hi=>⟨trivial,hK.fr i (by omega) hi.2⟩
  have kn:∀g:G,g.h=g'.h->aA C0 d N.ak [.agg [.int .i64 n.grain,b,fl,S_],u,.int .u64 (sk:Int)] g=.val (.int .i64 K):=fun g hgh=>by
   have:=wF (d:=d) (g:=g) (v:=.agg [.int .i64 n.grain,b,fl,S_]) (w:=u) (s:=sk) hd hr ⟨_,rfl,Rp.tree hc (Nat.le_refl 0)⟩ hq (hgh ▸ hu') hinC hds
   rw[this,hKd,S.bH,hsk,S.bp]
  have hb:=CE hr (p:=fun u=>decide (S.bp n sk u=K)) (j:=j+1) (by omega)
  have hmK:mgt L K=S.a9 n sk K j:=by rw[l2,hsk];simp
  have hs:S.a9 n sk K (j+1)=mgt L K+S.wt n j:=by
   rw[hmK,S.a9,S.a9,S.aO,if_pos];· rfl
   ·rw[hKd,S.bH,<-hsk];simp
  have w1:IntKind.wrap .i64 (mgt L K+S.wt n j)=mgt L K+S.wt n j:=by rw[<-hs,aH (by have:=hb.1;unfold S.a9;omega) (by have:=hb.2;unfold S.a9;omega)]
  have g13:g'.h.get p=.cells 4 [[.hmap mb,.hmap (mb+1),.hmap (mb+2),.hmap (mb+3)]] 0 false false:=by rw[hK.fr p hp.1 hp.2,k13]
  have g10:g'.h.get q=.cells 4 [[.int .i64 n.grain,b,fl,S_]] 0 false false:=by rw[hK.fr q hq'.1 hq'.2,k10]
  have g14:g'.h.get r=.cells 3 [[.int .i64 (j:Int),.int .i64 (S.wt n j),u]] 0 false false:=by rw[hK.fr r hr'.1 hr'.2,k14]
  have i1:qz 4 1 (.hptr p 0 0 0) (.int .i64 (k:Int))=.val (.hptr p 0 0 k):=by have:=Cv 4 1 p 0 0 0 .i64 hk;simpa using this
  have i2:=ixm mb p k hk
  have lk:∀(t:T) (g:G),tat t 90=.hmap (mb+k)->tat t 95=.int .i64 K->g.h.get (mb+k)=.map (mcl ik L)->(bM C0 (.lookup 129 (.tmp 90) (.tmp 95) false)).run (I C0) d rd t g=.val (.int .i64 (mgt L K)):=fun t g a b c=>Cb a b c
  have up:∀(t:T) (g:G),tat t 90=.hmap (mb+k)->tat t 95=.int .i64 K->tat t 99=.int .i64 (mgt L K+S.wt n j)->g.h.get (mb+k)=.map (mcl ik L)->(bM C0 (.mapUpdate 129 (.tmp 90) (.tmp 95) (.tmp 99))).run (I C0) d rd t g=.upd .undef (g.put (mb+k) (.map (mcl ik (mst K (mgt L K+S.wt n j) L)))):=fun t g a b c e=>Km a b c e
  simp only[sz,simprocAttr,sf,h10,h13,h14,h15,h16,g10,g13,g14,i1,i2,kn,lk,l1,w1,up,wO,Ed,d6]
  have hnx:=hK.nx
  refine ⟨?_,⟨by simp[St,LDm,vT,sx,h10,h13,h14,h83],⟨by simp;omega,fun i h1 h2=>?_⟩,⟨fun i hi=>?_⟩⟩,?_⟩
  ·simp only[List.reverse_cons,List.reverse_nil,List.nil_append,List.cons_append]
   exact td [(false,false),(false,false),(false,false),(false,false),(false,false),(false,false),(false,false),(false,false),(false,true),(false,false),(false,false),(false,false),(true,false)] [] (by simp[All2,am,aD]) (by decide) (by decide) (by simp)
  ·simp[H.get_put,show ¬i=mb+k by omega];exact hK.fr i h1 h2
  ·by_cases hik:i=k
   ·subst hik
    refine ⟨mst K (mgt L K+S.wt n j) L,by simp[H.get_put],fun K'=>?_⟩
    rw[De]
    by_cases e:K'=K
    ·rw[if_pos e,e,hmK,hsk,if_pos ⟨by omega,hKd.symm⟩]
    ·rw[if_neg e,l2,if_neg (fun h=>by omega),if_neg (fun h=>e (by rw[<-h.2,hKd]))]
   ·obtain ⟨L',m1,m2⟩:=hM.hm i hi
    refine ⟨L',by simp[H.get_put,hik];exact m1,fun K'=>?_⟩
    rw[m2]
    have:i<k+1↔i<k:=by omega
    simp only[this]
  ·exact h84
 ·rintro t df g ⟨rfl,-,hK,hM⟩
  exact fin t g hK hM
def nY (c:Int->AV)(f:Nat->Int):List AV:=[c (f 0),c (f 1),c (f 2),c (f 3)]
def qJ (x:Int):AV:=.int .u64 x
theorem ld4 (c:Int->AV)(f:Nat->Int)(k:Nat)(h:k<4):aN (.cells 4 [nY c f] 0 false false) 0 0 false 1 k=.val (c (f k)):=by
 have:k=0\/k=1\/k=2\/k=3:=by omega
 rcases this with rfl | rfl | rfl | rfl<;>rfl
def S.bW (n:Net)(xs ys zs w i u:Nat):Int:=S.a9 n ((S.aC xs ys zs)[i]?.getD 0) (S.bp n ((S.aC xs ys zs)[i]?.getD 0) w) u
structure DpL (n:Net) (U V:AV) (g:G):Prop where
 u:∃rows,Own g 1 U 1 rows/\All2 (Rp.rp NoP 0 .nil) ((List.range (S.aD n)).map fun w:Nat=>S.aw (S.aa n) (w:Int)) rows
 v:Own g 1 V 1 ((List.range (S.aD n)).map fun w:Nat=>[AV.int .i64 (S.aJ n (S.aw (S.aa n) (w:Int)))])
theorem Bf {c:Int->AV}{f f':Nat->Int}(h:∀i,i<4->f i=f' i):nY c f=nY c f':=by
 unfold nY
 rw[h 0 (by omega),h 1 (by omega),h 2 (by omega),h 3 (by omega)]
theorem oY {n:Net}(hr:NR n)(xs ys zs k w:Nat):S.bW n xs ys zs w k (S.aD n)=((S.aG n xs ys zs k w:Nat):Int)/\S.aG n xs ys zs k w<18446744073709551616:=by
 have hb:=sS hr ((S.aC xs ys zs)[k]?.getD 0) w
 have e:S.bW n xs ys zs w k (S.aD n)=S.aM n ((S.aC xs ys zs)[k]?.getD 0) w:=rfl
 rw[e,S.aG]
 omega
def mT (n:Net)(xs ys zs w k:Nat):Nat->Int:=fun i=>if i<k then ((S.aG n xs ys zs i w:Nat):Int) else 0
theorem KC (f:Nat->Int)(k:Nat)(x:Int)(h:k<4):(if k+1<=(nY qJ f).length then some ((nY qJ f).take k++AV.int .u64 x::(nY qJ f).drop (k+1)) else none)=some (nY qJ fun i=>if i=k then x else f i):=by
 have:k=0\/k=1\/k=2\/k=3:=by omega
 rcases this with rfl | rfl | rfl | rfl<;>rfl
def LDn (xs ys zs p q r v:Nat):List (Nat×AV):=[(10,.hptr q 0 0 0),(13,.hptr p 0 0 0),(17,.hptr r 0 0 0),(18,.hptr v 0 0 0),(104,vT xs ys zs),(8,.hptr 1 0 0 0),(9,.hptr 2 0 0 0)]
set_option maxRecDepth 20000 in
theorem Kq {d lo xs ys zs p q r v mb w:Nat}{rd:Option Nat}{n:Net}{y:QnM}{b fl S_ u:AV}{Q:QT}{t:T}{g0:G}(hd:0<d)(hr:NR n)(hx:xs<18446744073709551616)(hy:ys<18446744073709551616)(hz:zs<18446744073709551616)
  (hc:Rp.rp NoP 0 .nil y [.int .i64 n.grain,b,fl,S_]) (hq:QnOk n y)
  (hu:SlR (fun i=>lo<=i/\i<v) 0 g0.h (S.aw (S.aa n) (w:Int)) u)
  (hp:p<v) (hq':q<v) (hr':r<v) (hm':mb+4<=v) (hv:v<g0.nx)
  (k13:g0.h.get p=.cells 4 [[.hmap mb,.hmap (mb+1),.hmap (mb+2),.hmap (mb+3)]] 0 false false) (k10:g0.h.get q=.cells 4 [[.int .i64 n.grain,b,fl,S_]] 0 false false) (k17:g0.h.get r=.cells 3 [[.int .i64 (w:Int),.int .i64 (S.wt n w),u]] 0 false false)
  (h0:DpM n xs ys zs mb (S.aD n) 0 g0.h) (k18:g0.h.get v=.cells 4 [nY qJ (mT n xs ys zs w 0)] 0 false false) (ht:St t (LDn xs ys zs p q r v)) (h105:tat t 105=.int .i64 0)
  (fin:∀t g,St t (LDn xs ys zs p q r v)->g0.nx<=g.nx->(∀i,i≠v->i<g0.nx->g.h.get i=g0.h.get i)->g.h.get v=.cells 4 [nY qJ (mT n xs ys zs w 4)] 0 false false->Q (.exit 6) t [] g):wpL (wp C0 d rd gB) Q t [] g0:=by
 simp only[gB]
 refine tc (m:=4) rfl (by omega) (fun k t df g=>df=[]/\St t (LDn xs ys zs p q r v)/\g0.nx<=g.nx/\(∀i,i≠v->i<g0.nx->g.h.get i=g0.h.get i)/\g.h.get v=.cells 4 [nY qJ (mT n xs ys zs w k)] 0 false false) ⟨rfl,ht,Nat.le_refl _,fun _ _ _=>rfl,k18⟩ h105 (by decide) (by rintro i t df g v s (rfl | rfl | rfl)<;>simp[St,LDn,sx]) ?_ ?_
 ·rintro k t df g hk ⟨rfl,⟨h10,h13,h17,h18,h104,h8,h9,-⟩,hnx,hfr,kv⟩ h105
  have ix:=KM (fun i=>(((S.aC xs ys zs)[i]?.getD 0:Nat):Int)) k hk
  have hds:(S.aC xs ys zs)[k]?.getD 0<18446744073709551616:=by
   obtain ⟨s,hs⟩:∃s,(S.aC xs ys zs)[k]?=some s:=⟨_,List.getElem?_eq_getElem (by simp[S.aC];omega)⟩
   rw[hs];exact Dh hx hy hz s (List.mem_of_getElem? hs)
  obtain ⟨L,l1,l2⟩:=h0.hm k hk
  obtain ⟨K,hKd⟩:∃K,K=S.bH n xs ys zs k w:=⟨_,rfl⟩
  obtain ⟨cm,cb⟩:=oY hr xs ys zs k w
  have hmK:mgt L K=((S.aG n xs ys zs k w:Nat):Int):=by rw[l2,<-cm,hKd];simp;rfl
  obtain ⟨sk,hsk⟩:∃sk,sk=(S.aC xs ys zs)[k]?.getD 0:=⟨_,rfl⟩
  rw[<-hsk] at hds
  refine bS (P:=fun t' df g'=>df=[]/\g'=g/\St t' ((19,.int .i64 (k:Int))::(20,.int .u64 (sk:Int))::(105,.int .i64 (k:Int))::LDn xs ys zs p q r v)) ?_ ?_
  ·simp only[sz,simprocAttr,h104,h105,vT,ix]
   simp[St,LDn,vT,sx,h10,h13,h17,h18,h104,h8,h9,h105,hsk]
  clear h10 h13 h17 h18 h104 h105 h8 h9
  rintro t df g' ⟨rfl,rfl,h19,h20,h105,h10,h13,h17,h18,h104,h8,h9,-⟩
  have hinC:=jX (fun c hc=>(hr.cs c hc).1) (w:Int)
  have hu':SlR (fun _=>True) 0 g'.h (S.aw (S.aa n) (w:Int)) u:=hu.wd fun i hi=>⟨trivial,hfr i (by omega) (by omega)⟩
  have kn:∀g:G,g.h=g'.h->aA C0 d N.ak [.agg [.int .i64 n.grain,b,fl,S_],u,.int .u64 (sk:Int)] g=.val (.int .i64 K):=fun g hgh=>by
   have:=wF (d:=d) (g:=g) (v:=.agg [.int .i64 n.grain,b,fl,S_]) (w:=u) (s:=sk) hd hr ⟨_,rfl,Rp.tree hc (Nat.le_refl 0)⟩ hq (hgh ▸ hu') hinC hds
   rw[this,hKd,S.bH,hsk,S.bp]
  have g13:g'.h.get p=.cells 4 [[.hmap mb,.hmap (mb+1),.hmap (mb+2),.hmap (mb+3)]] 0 false false:=by rw[hfr p (by omega) (by omega),k13]
  have g10:g'.h.get q=.cells 4 [[.int .i64 n.grain,b,fl,S_]] 0 false false:=by rw[hfr q (by omega) (by omega),k10]
  have g17:g'.h.get r=.cells 3 [[.int .i64 (w:Int),.int .i64 (S.wt n w),u]] 0 false false:=by rw[hfr r (by omega) (by omega),k17]
  have gm:g'.h.get (mb+k)=.map (mcl ik L):=by rw[hfr _ (by omega) (by omega),l1]
  have i1:qz 4 1 (.hptr p 0 0 0) (.int .i64 (k:Int))=.val (.hptr p 0 0 k):=by have:=Cv 4 1 p 0 0 0 .i64 hk;simpa using this
  have i3:qz 4 1 (.hptr v 0 0 0) (.int .i64 (k:Int))=.val (.hptr v 0 0 k):=by have:=Cv 4 1 v 0 0 0 .i64 hk;simpa using this
  have i2:=ixm mb p k hk
  have w1:IntKind.wrap .u64 (mgt L K)=((S.aG n xs ys zs k w:Nat):Int):=by rw[hmK,lF (by omega) (by omega)]
  have lk:∀(t:T) (g:G),tat t 112=.hmap (mb+k)->tat t 117=.int .i64 K->g.h.get (mb+k)=.map (mcl ik L)->(bM C0 (.lookup 129 (.tmp 112) (.tmp 117) false)).run (I C0) d rd t g=.val (.int .i64 (mgt L K)):=fun t g a b c=>Cb a b c
  have pt:=KC (mT n xs ys zs w k) k ((S.aG n xs ys zs k w:Nat):Int) hk
  have e:nY qJ (mT n xs ys zs w (k+1))=nY qJ (fun i=>if i=k then ((S.aG n xs ys zs k w:Nat):Int) else mT n xs ys zs w k i):=Bf fun i _=>by
   unfold mT
   by_cases hi:i=k
   ·subst hi;simp
   ·have:i<k+1↔i<k:=by omega
    simp only[this,if_neg hi]
  simp only[sz,simprocAttr,sf,h10,h13,h17,h18,h19,h20,g10,g13,g17,i1,i2,i3,kn,lk,gm,w1,kv,pt,wO,d6]
  rw[e]
  refine ⟨?_,⟨by simp[St,LDn,vT,sx,h10,h13,h17,h18,h104,h8,h9],by omega,fun i h1 h2=>?_,by simp[H.get_put]⟩,h105⟩
  ·simp only[List.reverse_cons,List.reverse_nil,List.nil_append,List.cons_append]
   exact td [(false,false),(false,false),(false,false),(false,false),(false,false),(false,false),(false,false),(false,false),(false,false),(false,true),(false,false),(false,false),(true,false)] [] (by simp[All2,am,aD]) (by decide) (by decide) (by simp)
  ·simp[H.get_put,h1];exact hfr i h1 h2
 ·rintro t df g ⟨rfl,ht,hnx,hfr,kv⟩
  exact fin t g ht hnx hfr kv
theorem HX (v k:Nat)(h:k<4):qz 4 1 (.hptr v 0 0 0) (.int .i64 (k:Int))=.val (.hptr v 0 0 k):=by
 have:=Cv 4 1 v 0 0 0 .i64 h;simpa using this
theorem Ka {d xs ys zs w v:Nat}{rd:Option Nat}{n:Net}{Q:QT}{t:T}{g:G}(hd:0<d)(hr:NR n)
  (kp:g.h.get v=.cells 4 [nY qJ (mT n xs ys zs w 4)] 0 false false) (ht:St t [(18,.hptr v 0 0 0),(8,.hptr 1 0 0 0),(9,.hptr 2 0 0 0)])
  (q1:g.h.get 1=.cells 1 [[.bool false]] 0 false false) (q2:g.h.get 2=.cells 1 [[.int .i64 0]] 0 false false)
  (bad:∀t,S.bu n xs ys zs w=true->Q .ret t [] ((g.put 1 (.cells 1 [[.bool true]] 0 false false)).put 2 (.cells 1 [[.int .i64 0]] 0 false false)))
  (fin:∀t',S.bu n xs ys zs w=false->Q .norm t' [] g):wp C0 d rd gY Q t [] g:=by
 have i0:qz 4 1 (.hptr v 0 0 0) (.int .i64 0)=.val (.hptr v 0 0 0):=HX v 0 (by omega)
 have i1:qz 4 1 (.hptr v 0 0 0) (.int .i64 1)=.val (.hptr v 0 0 1):=HX v 1 (by omega)
 have i2:qz 4 1 (.hptr v 0 0 0) (.int .i64 2)=.val (.hptr v 0 0 2):=HX v 2 (by omega)
 have i3:qz 4 1 (.hptr v 0 0 0) (.int .i64 3)=.val (.hptr v 0 0 3):=HX v 3 (by omega)
 have l:∀k,k<4->aN (.cells 4 [nY qJ (mT n xs ys zs w 4)] 0 false false) 0 0 false 1 k=.val (.int .u64 ((S.aG n xs ys zs k w:Nat):Int)):=fun k hk=>by rw[ld4 qJ _ k hk,mT,if_pos hk];rfl
 have l0:=l 0 (by omega)
 have l1:=l 1 (by omega)
 have l2:=l 2 (by omega)
 have l3:=l 3 (by omega)
 obtain ⟨-,b0⟩:=oY hr xs ys zs 0 w
 obtain ⟨-,b1⟩:=oY hr xs ys zs 1 w
 obtain ⟨-,b2⟩:=oY hr xs ys zs 2 w
 obtain ⟨-,b3⟩:=oY hr xs ys zs 3 w
 have hdep:S.bu n xs ys zs w = !decide (S.aT (S.aG n xs ys zs 0 w) (S.aG n xs ys zs 1 w)=S.aT (S.aG n xs ys zs 2 w) (S.aG n xs ys zs 3 w)):=rfl
 clear l
 generalize S.aG n xs ys zs 0 w=m0 at *
 generalize S.aG n xs ys zs 1 w=m1 at *
 generalize S.aG n xs ys zs 2 w=m2 at *
 generalize S.aG n xs ys zs 3 w=m3 at *
 have k1:∀g,aA C0 d N.aa [.int .u64 (m0:Int),.int .u64 (m1:Int)] g=.val (.tup [.int .u64 ((S.aT m0 m1).1:Int),.int .u64 ((S.aT m0 m1).2:Int)]):=fun g=>su hd b0 b1
 have k2:∀g,aA C0 d N.aa [.int .u64 (m2:Int),.int .u64 (m3:Int)] g=.val (.tup [.int .u64 ((S.aT m2 m3).1:Int),.int .u64 ((S.aT m2 m3).2:Int)]):=fun g=>su hd b2 b3
 generalize S.aT m0 m1=A at *
 generalize S.aT m2 m3=B at *
 obtain ⟨a1,a2⟩:=A
 obtain ⟨b1',b2'⟩:=B
 unfold gY
 refine bS (P:=fun t' df g'=>df=[]/\g'=g/\St t' [(21,.int .u64 (a1:Int)),(22,.int .u64 (a2:Int)),(18,.hptr v 0 0 0),(8,.hptr 1 0 0 0),(9,.hptr 2 0 0 0)]) ?_ ?_
 ·obtain ⟨h18,h8,h9,-⟩:=ht
  simp only[sz,simprocAttr,h18,kp,i0,i1,l0,l1,k1]
  simp[St,sx,h18,h8,h9]
 clear ht
 rintro t1 df g1 ⟨rfl,rfl,ht⟩
 refine bS (P:=fun t' df g'=>df=[]/\g'=g1/\St t' [(23,.int .u64 (b1':Int)),(24,.int .u64 (b2':Int)),(21,.int .u64 (a1:Int)),(22,.int .u64 (a2:Int)),(8,.hptr 1 0 0 0),(9,.hptr 2 0 0 0)]) ?_ ?_
 ·obtain ⟨h21,h22,h18,h8,h9,-⟩:=ht
  simp only[sz,simprocAttr,h18,kp,i2,i3,l2,l3,k2]
  simp[St,sx,h21,h22,h8,h9]
 clear ht
 rintro t2 df g2 ⟨rfl,rfl,h23,h24,h21,h22,h8,h9,-⟩
 by_cases e1:b1'=a1
 ·by_cases e2:b2'=a2
  ·have hD:S.bu n xs ys zs w=false:=by rw[hdep,e1,e2];simp
   have q1:decide ((a1:Int)=(a1:Int))=true:=by simp
   have q2:decide ((a2:Int)=(a2:Int))=true:=by simp
   rw[e1] at h23
   rw[e2] at h24
   simp only[sz,simprocAttr,h21,h22,h23,h24,q1,q2]
   exact fin _ hD
  ·have hD:S.bu n xs ys zs w=true:=by rw[hdep,decide_eq_false (fun h=>e2 (congrArg Prod.snd h).symm)];rfl
   have q1':decide ((a1:Int)=(a1:Int))=true:=by simp
   have q2':decide ((b2':Int)=(a2:Int))=false:=by simp;omega
   rw[e1] at h23
   simp only[sz,simprocAttr,h21,h22,h23,h24,q1',q2',h8,h9,q1,q2]
   exact bad _ hD
 ·have hD:S.bu n xs ys zs w=true:=by rw[hdep,decide_eq_false (fun h=>e1 (congrArg Prod.fst h).symm)];rfl
  have q1':decide ((b1':Int)=(a1:Int))=false:=by simp;omega
  simp only[sz,simprocAttr,h21,h22,h23,h24,q1',h8,h9,q1,q2]
  exact bad _ hD
theorem DpM.next {n:Net}{xs ys zs mb j:Nat}{h:H}(hM:DpM n xs ys zs mb j 4 h):DpM n xs ys zs mb (j+1) 0 h:=⟨fun i hi=>by
 obtain ⟨L,l1,l2⟩:=hM.hm i hi
 refine ⟨L,l1,fun K=>?_⟩
 rw[l2,S.a9,S.a9,S.aO]
 simp only[hi,true_and,Nat.not_lt_zero,false_and,if_false,Int.add_zero,decide_eq_true_eq]
 rfl⟩
theorem DpM.cong {n:Net}{xs ys zs mb j k:Nat}{h h':H}(hM:DpM n xs ys zs mb j k h)(hh:∀i,i<4->h'.get (mb+i)=h.get (mb+i)):DpM n xs ys zs mb j k h':=⟨fun i hi=>by
 obtain ⟨L,l1,l2⟩:=hM.hm i hi
 exact ⟨L,by rw[hh i hi,l1],l2⟩⟩
theorem uh {C:Cfg}{d:Nat}{r:List SR}{t:T}{g:G}{K:AV->G->Prop}{i j:Nat}(hi:g.h.get i=.dfr true)(hj:g.h.get j=.dfr true)(hij:i≠j)(h:qF r t ((g.put i (.dfr false)).put j (.dfr false)) fun vs=>K (eJ vs) ((g.put i (.dfr false)).put j (.dfr false))):oQ C d r t [.mark i,.mark j] g K:=by
 unfold oQ
 have:cW (I C) d [.mark i,.mark j] g=some ((g.put i (.dfr false)).put j (.dfr false)):=by
  have hj':(g.put i (.dfr false)).h.get j=.dfr true:=by simp[H.get_put,show ¬j=i by omega,hj]
  simp only[cW,G.get_eq,hi,hj']
 rw[this];exact h
def S.bI (l xs ys zs:Nat):Bool:=(!decide ((xs ||| ys ||| zs) / 2 ^ l=0)) || !decide (xs &&& ys=0) || !decide (xs &&& zs=0) || !decide (ys &&& zs=0)
def S.bc (n:Net)(xs ys zs:Nat):Int:=if S.aQ n then (if S.bI n.nodes.length xs ys zs then 2 else 0) else 50
def S.bm (n:Net)(xs ys zs:Nat):Bool:=decide (S.bc n xs ys zs=0)&&S.bh n xs ys zs
def LDd (xs ys zs:Nat):List (Nat×AV):=[(1,.int .u64 (xs:Int)),(2,.int .u64 (ys:Int)),(3,.int .u64 (zs:Int)),(8,.hptr 1 0 0 0),(9,.hptr 2 0 0 0),(10,.hptr 3 0 0 0)]
structure DpS (n:Net) (xs ys zs:Nat) (b a3 a4:AV) (g:G):Prop where
 h1:g.h.get 1=.cells 1 [[.bool false]] 0 false false
 h2:g.h.get 2=.cells 1 [[.int .i64 0]] 0 false false
 h3:g.h.get 3=.cells 4 [[.int .i64 n.grain,b,a3,a4]] 0 false false
 h4:g.h.get 4=.cells 4 [[.int .u64 (((S.aC xs ys zs)[0]?.getD 0:Nat):Int),.int .u64 (((S.aC xs ys zs)[1]?.getD 0:Nat):Int),.int .u64 (((S.aC xs ys zs)[2]?.getD 0:Nat):Int),.int .u64 (((S.aC xs ys zs)[3]?.getD 0:Nat):Int)]] 0 false false
 h9:g.h.get 9=.cells 4 [[.hmap 5,.hmap (5+1),.hmap (5+2),.hmap (5+3)]] 0 false false
theorem Ia {d xs ys zs l:Nat}{gr:Int}{b a3 a4:AV}{Q:QT}{t:T}{g:G}(hx:xs<18446744073709551616)(hy:ys<18446744073709551616)(hz:zs<18446744073709551616)(hb:∀g,gT .slice b g=.val (.int .i64 (l:Int)))
  (ht:St t (LDd xs ys zs)) (k3:g.h.get 3=.cells 4 [[.int .i64 gr,b,a3,a4]] 0 false false) (k1:g.h.get 1=.cells 1 [[.bool false]] 0 false false) (k2:g.h.get 2=.cells 1 [[.int .i64 0]] 0 false false)
  (bad:∀t,S.bI l xs ys zs=true->tat t 8=.hptr 1 0 0 0->tat t 9=.hptr 2 0 0 0->Q .ret t [] ((g.put 1 (.cells 1 [[.bool false]] 0 false false)).put 2 (.cells 1 [[.int .i64 2]] 0 false false)))
  (fin:∀t,S.bI l xs ys zs=false->St t (LDd xs ys zs)->Q .norm t [] g):wp C0 d none (sQ [oM 33 1,oM 34 2,o 35 (.bin .or (.t 33) (.t 34)),oM 36 3,o 37 (.bin .or (.t 35) (.t 36)),oF 38 0 10,oF 39 1 38,oL 40 39,oN 41 40,o 42 (.bin .shr (.t 37) (.t 41)),o 43 (.bin .neq (.t 42) (.k (.int .u64 0))),oM 44 43,og 45 44 false (.mv (.t 1)),og 46 44 false (.mv (.t 2)),og 47 44 false (.bin .and (.t 45) (.t 46)),og 48 44 false (.bin .neq (.t 47) (.k (.int .u64 0))),o 49 (.pick (.t 44) (.k (.bool true)) (.t 48)),oM 50 49,og 51 50 false (.mv (.t 1)),og 52 50 false (.mv (.t 3)),og 53 50 false (.bin .and (.t 51) (.t 52)),og 54 50 false (.bin .neq (.t 53) (.k (.int .u64 0))),o 55 (.pick (.t 50) (.k (.bool true)) (.t 54)),oM 56 55,og 57 56 false (.mv (.t 2)),og 58 56 false (.mv (.t 3)),og 59 56 false (.bin .and (.t 57) (.t 58)),og 60 56 false (.bin .neq (.t 59) (.k (.int .u64 0))),o 61 (.pick (.t 56) (.k (.bool true)) (.t 60))] (.cond (.t 61) (sQ [oz (.store 1 (.t 8) (.k (.bool false))),oz (.store 1 (.t 9) (qI 2))] (.ret)) (.skip))) Q t [] g:=by
 obtain ⟨h1,h2,h3,h8,h9,h10,-⟩:=ht
 have o1:=gC xs ys hx hy
 have o2:=gC (xs ||| ys) zs (sX hx hy) hz
 have s1:=bJ .i64 (xs ||| ys ||| zs) l (sX (sX hx hy) hz)
 have a1:=dm xs ys hx hy
 have a2:=dm xs zs hx hz
 have a3':=dm ys zs hy hz
 have hB:S.bI l xs ys zs=((!decide ((xs ||| ys ||| zs) / 2 ^ l=0)) || !decide (xs &&& ys=0) || !decide (xs &&& zs=0) || !decide (ys &&& zs=0)):=rfl
 generalize (xs ||| ys ||| zs) / 2 ^ l=A at *
 generalize xs &&& ys=B at *
 generalize xs &&& zs=C at *
 generalize ys &&& zs=D at *
 have dz:∀m:Nat,decide ((m:Int)=0)=decide (m=0):=fun m=>by rw[Bool.eq_iff_iff];simp
 have d1:=dz A
 have d2:=dz B
 have d3:=dz C
 have d4:=dz D
 by_cases c1:A=0
 ·rw[decide_eq_true c1] at d1 hB
  by_cases c2:B=0
  ·rw[decide_eq_true c2] at d2 hB
   by_cases c3:C=0
   ·rw[decide_eq_true c3] at d3 hB
    by_cases c4:D=0
    ·rw[decide_eq_true c4] at d4 hB
     simp only[sz,simprocAttr,h1,h2,h3,h8,h9,h10,k3,hb,o1,o2,s1,a1,a2,a3',d1,d2,d3,d4]
     exact fin _ hB (by simp[St,LDd,sx,h1,h2,h3,h8,h9,h10])
    ·rw[decide_eq_false c4] at d4 hB
     simp only[sz,simprocAttr,h1,h2,h3,h8,h9,h10,k3,hb,o1,o2,s1,a1,a2,a3',d1,d2,d3,d4,k1,k2]
     exact bad _ hB (by simp[sx,h8]) (by simp[sx,h9])
   ·rw[decide_eq_false c3] at d3 hB
    simp only[sz,simprocAttr,h1,h2,h3,h8,h9,h10,k3,hb,o1,o2,s1,a1,a2,a3',d1,d2,d3,k1,k2]
    exact bad _ (by simpa using hB) (by simp[sx,h8]) (by simp[sx,h9])
  ·rw[decide_eq_false c2] at d2 hB
   simp only[sz,simprocAttr,h1,h2,h3,h8,h9,h10,k3,hb,o1,o2,s1,a1,a2,a3',d1,d2,k1,k2]
   exact bad _ (by simpa using hB) (by simp[sx,h8]) (by simp[sx,h9])
 ·rw[decide_eq_false c1] at d1 hB
  simp only[sz,simprocAttr,h1,h2,h3,h8,h9,h10,k3,hb,o1,o2,s1,a1,a2,a3',d1,k1,k2]
  exact bad _ (by simpa using hB) (by simp[sx,h8]) (by simp[sx,h9])
set_option maxRecDepth 20000 in
theorem Kx {d xs ys zs:Nat}{n:Net}{b a3 a4:AV}{Q:QT}{t:T}{g:G}{c:SC}(hx:xs<18446744073709551616)(hy:ys<18446744073709551616)(hz:zs<18446744073709551616)(hn:g.nx=4)
  (ht:St t (LDd xs ys zs)) (k3:g.h.get 3=.cells 4 [[.int .i64 n.grain,b,a3,a4]] 0 false false) (k1:g.h.get 1=.cells 1 [[.bool false]] 0 false false) (k2:g.h.get 2=.cells 1 [[.int .i64 0]] 0 false false)
  (fin:∀t g',g'.nx=10->DpS n xs ys zs b a3 a4 g'->DpM n xs ys zs 5 0 0 g'.h->St t ((12,.hptr 4 0 0 0)::(13,.hptr 9 0 0 0)::LDd xs ys zs)->wp C0 d none c Q t [] g'):wp C0 d none (sQ [oM 62 1,oM 63 2,o 64 (.bin .or (.t 62) (.t 63)),oM 65 3,o 66 (.bin .or (.t 64) (.t 65)),oM 67 3,oM 68 1,oM 69 3,o 70 (.bin .or (.t 68) (.t 69)),oM 71 2,oM 72 3,o 73 (.bin .or (.t 71) (.t 72)),o 74 (.build [.int .u64 0,.int .u64 0,.int .u64 0,.int .u64 0] [(0,1),(1,1),(2,1),(3,1)] [.t 66,.t 67,.t 70,.t 73]),o 12 (.alloc [.int .u64 0,.int .u64 0,.int .u64 0,.int .u64 0]),oz (.store 4 (.t 12) (.t 74))] (sQ [o 75 (.raw (.makeMap 129 none)),o 76 (.raw (.makeMap 129 none)),o 77 (.raw (.makeMap 129 none)),o 78 (.raw (.makeMap 129 none)),o 79 (.build [.nilm,.nilm,.nilm,.nilm] [(0,1),(1,1),(2,1),(3,1)] [.t 75,.t 76,.t 77,.t 78]),o 13 (.alloc [.nilm,.nilm,.nilm,.nilm]),oz (.store 4 (.t 13) (.t 79))] c)) Q t [] g:=by
 obtain ⟨h1,h2,h3,h8,h9,h10,-⟩:=ht
 have o1:=gC xs ys hx hy
 have o2:=gC (xs ||| ys) zs (sX hx hy) hz
 have o3:=gC xs zs hx hz
 have o4:=gC ys zs hy hz
 have b2:∀x y z w:Nat,dk [.nilm,.nilm,.nilm,.nilm] [((0,1),.hmap x),((1,1),.hmap y),((2,1),.hmap z),((3,1),.hmap w)]=some [.hmap x,.hmap y,.hmap z,.hmap w]:=fun _ _ _ _=>rfl
 have hrm:∀(d:Nat) (rd:Option Nat) (t:T) (g:G),(bM C0 (.makeMap 129 none)).run (I C0) d rd t g=.upd (.hmap g.nx) (g.new (.map [])):=fun d rd t g=>G9 d rd t g
 have st1:∀(g:G) (i:Nat) (x y z w:Int),eS (.cells 4 [[.int .u64 0,.int .u64 0,.int .u64 0,.int .u64 0]] 0 false false) g i 0 0 4 0 (.agg [.int .u64 x,.int .u64 y,.int .u64 z,.int .u64 w])=.upd .undef (g.put i (.cells 4 [[.int .u64 x,.int .u64 y,.int .u64 z,.int .u64 w]] 0 false false)):=fun _ _ _ _ _ _=>rfl
 have st2:∀(g:G) (i x y z w:Nat),eS (.cells 4 [[.nilm,.nilm,.nilm,.nilm]] 0 false false) g i 0 0 4 0 (.agg [.hmap x,.hmap y,.hmap z,.hmap w])=.upd .undef (g.put i (.cells 4 [[.hmap x,.hmap y,.hmap z,.hmap w]] 0 false false)):=fun _ _ _ _ _ _=>rfl
 refine bS (P:=fun t' df g'=>df=[]/\g'.nx=5/\g'.h.get 1=.cells 1 [[.bool false]] 0 false false/\g'.h.get 2=.cells 1 [[.int .i64 0]] 0 false false/\g'.h.get 3=.cells 4 [[.int .i64 n.grain,b,a3,a4]] 0 false false/\g'.h.get 4=.cells 4 [[.int .u64 ((xs ||| ys ||| zs:Nat):Int),.int .u64 (zs:Int),.int .u64 ((xs ||| zs:Nat):Int),.int .u64 ((ys ||| zs:Nat):Int)]] 0 false false/\St t' ((12,.hptr 4 0 0 0)::LDd xs ys zs)) ?_ ?_
 ·simp only[sz,simprocAttr,h1,h2,h3,o1,o2,o3,o4,st1,hn]
  simp[H.get_put,hn,k1,k2,k3,St,LDd,sx,h1,h2,h3,h8,h9,h10]
 clear h1 h2 h3 h8 h9 h10 k1 k2 k3
 rintro t df g1 ⟨rfl,n1,k1,k2,k3,k4,h12,h1,h2,h3,h8,h9,h10,-⟩
 refine bS (P:=fun t' df g'=>df=[]/\g'.nx=10/\DpS n xs ys zs b a3 a4 g'/\DpM n xs ys zs 5 0 0 g'.h/\St t' ((12,.hptr 4 0 0 0)::(13,.hptr 9 0 0 0)::LDd xs ys zs)) ?_ ?_
 ·simp only[sz,simprocAttr,hrm,n1,b2,st2]
  refine ⟨⟨by simp[H.get_put,n1,k1],by simp[H.get_put,n1,k2],by simp[H.get_put,n1,k3],by simp[H.get_put,n1,k4,S.aC],by simp[H.get_put,n1]⟩,⟨fun i hi=>⟨[],?_,fun K=>by simp[mgt,S.a9,S.aO]⟩⟩,by simp[St,LDd,sx,h1,h2,h3,h8,h9,h10,h12]⟩
  have:i=0\/i=1\/i=2\/i=3:=by omega
  rcases this with rfl | rfl | rfl | rfl<;>simp[H.get_put,n1,mcl]
 rintro t df g2 ⟨rfl,n2,hS,hM,ht⟩
 exact fin t g2 n2 hS hM ht
structure DpJ (g0:G) (n:Net) (xs ys zs j:Nat) (h:H):Prop where
 fr:∀i,i<10->(i<5\/9<=i)->h.get i=g0.h.get i
 m:DpM n xs ys zs 5 j 0 h
theorem JJ {d xs ys zs t1 t2 ky ke:Nat}{n:Net}{y:QnM}{cs:List AV}{b a3 a4 z:AV}{Q:QT}{t:T}{g:G}(hd:0<d)(hr:NR n)(hq:QnOk n y)(hcs:Rp.rp NoP ky .nil y cs)(hc:Rp.rp NoP 0 .nil y [.int .i64 n.grain,b,a3,a4])(hz':SlR NoP ke .nil ([]:List Int) z)(hx:xs<18446744073709551616)(hy:ys<18446744073709551616)(hz:zs<18446744073709551616)(hn:g.nx=10)
  (hS:DpS n xs ys zs b a3 a4 g) (hM:DpM n xs ys zs 5 0 0 g.h) (ht:St t ((81,.clo N.af [] [.tptr t1 4 [cs] 0 0,.tptr t2 1 [[z]] 0 0])::(12,.hptr 4 0 0 0)::(13,.hptr 9 0 0 0)::LDd xs ys zs))
  (fin:∀g',12<=g'.nx->g'.h.get 10=.dfr true->DpS n xs ys zs b a3 a4 g'->DpM n xs ys zs 5 (S.aD n) 0 g'.h->Q .norm t [.mark 10] g'):wp C0 d none (.rng 146 (.t 81) [82] g7 gV) Q t [] g:=by
 obtain ⟨h81,h12,h13,h1,h2,h3,h8,h9,h10,-⟩:=ht
 obtain ⟨W1,W2,W3⟩:=hr.wl
 refine wM (t1:=t1) (t2:=t2) (n:=n) (y:=y) (e:=[]) (cs:=cs) (w:=z) hd hr hq hcs hz' (by simp) h81 (by decide)
  (fun j h=>DpJ g n xs ys zs j h) (fun _=>False) (fun j h h' hh hg=>⟨fun i h1 h2=>by rw[hh i (by omega),hg.fr i h1 h2],hg.m.cong fun i hi=>hh _ (by omega)⟩) (fun _ _ _ h=>h) ⟨fun _ _ _=>rfl,hM⟩ ?_ ?_ ?_ (fun _ h=>h.elim)
 ·intro j h hj hmt hg
  simp[S.jm] at hmt
 ·intro j u g2 hj hmt hg hn2 hu
  simp only[sz,simprocAttr,g7]
  refine ⟨I8 _ _ _,?_⟩
  intro g3 n3 f3
  obtain ⟨r,hre⟩:∃r,r=g2.nx:=⟨_,rfl⟩
  rw[<-hre]
  have jo:∀i,i<g.nx->g3.h.get i=g2.h.get i:=fun i hi=>by rw[f3 i (by omega),if_neg (by omega),if_neg (by omega)]
  have j14:g3.h.get r=.cells 3 [[.int .i64 (j:Int),.int .i64 (S.wt n j),u]] 0 false false:=by rw[f3 _ (by omega),if_pos hre];rfl
  have j3:g3.h.get 3=.cells 4 [[.int .i64 n.grain,b,a3,a4]] 0 false false:=by rw[jo 3 (by omega),hg.fr 3 (by omega) (by omega),hS.h3]
  have j4:=hS.h4
  rw[<-hg.fr 4 (by omega) (by omega),<-jo 4 (by omega)] at j4
  have j9:g3.h.get 9=.cells 4 [[.hmap 5,.hmap (5+1),.hmap (5+2),.hmap (5+3)]] 0 false false:=by rw[jo 9 (by omega),hg.fr 9 (by omega) (by omega),hS.h9]
  have hu3:SlR (fun i=>12<=i/\i<g3.nx) 0 g3.h (S.aw (S.aa n) (j:Int)) u:=hu.wd fun i hi=>⟨⟨by omega,by omega⟩,by rw[f3 i (by omega),if_neg (by omega),if_neg (by omega)]⟩
  have hn3:r<g3.nx:=by omega
  have l4:∀x y z w:Int,aN (.cells 4 [[.int .u64 x,.int .u64 y,.int .u64 z,.int .u64 w]] 0 false false) 0 0 true 4 0=.val (.agg [.int .u64 x,.int .u64 y,.int .u64 z,.int .u64 w]):=fun _ _ _ _=>rfl
  unfold gV
  rw[qq]
  refine bS (P:=fun t' df g'=>df=[]/\g'=g3/\St t' (LDm xs ys zs 9 3 r)/\tat t' 84=.int .i64 0) ?_ ?_
  ·simp only[sz,simprocAttr,h12,j4,l4]
   simp[St,LDm,vT,sx,h10,h13]
  rintro t df g4 ⟨rfl,rfl,ht,h84⟩
  simp only[qq,tK]
  refine J1 (lo:=12) (p:=9) (q:=3) (r:=r) (mb:=5) (j:=j) (n:=n) (y:=y) (b:=b) (fl:=a3) (S_:=a4) (u:=u) hd hr hx hy hz (by omega) hc hq hu3 (by omega) (by omega) (by omega) (by omega) j9 j3 j14 (hg.m.cong fun i hi=>jo _ (by omega)) ht h84 ?_
  intro t g5 hK hM5
  simp only[ju,if_true]
  refine ⟨rfl,hK.nx,fun i h1 h2=>hK.fr i (by omega) h2,.inl ⟨rfl,fun i h1 h2=>?_,hM5.next⟩⟩
  rw[hK.fr i (by omega) (by omega),jo i (by omega),hg.fr i h1 h2]
 ·intro g' hg hn' hdf
  rw[hn] at hdf ⊢
  refine fin g' (by omega) hdf ⟨?_,?_,?_,?_,?_⟩ hg.m
  ·rw[hg.fr 1 (by omega) (by omega),hS.h1]
  ·rw[hg.fr 2 (by omega) (by omega),hS.h2]
  ·rw[hg.fr 3 (by omega) (by omega),hS.h3]
  ·rw[hg.fr 4 (by omega) (by omega),hS.h4]
  ·rw[hg.fr 9 (by omega) (by omega),hS.h9]
theorem Kd {d xs ys zs t1 t2 ky ke:Nat}{n:Net}{y:QnM}{cs:List AV}{b a3 a4 z:AV}{Q:QT}{t:T}{g:G}(hd:0<d)(hr:NR n)(hq:QnOk n y)(hcs:Rp.rp NoP ky .nil y cs)(hc:Rp.rp NoP 0 .nil y [.int .i64 n.grain,b,a3,a4])(hz':SlR NoP ke .nil ([]:List Int) z)(hx:xs<18446744073709551616)(hy:ys<18446744073709551616)(hz:zs<18446744073709551616)(hn:12<=g.nx)
  (hS:DpS n xs ys zs b a3 a4 g) (hM:DpM n xs ys zs 5 (S.aD n) 0 g.h) (ht:St t ((102,.clo N.af [] [.tptr t1 4 [cs] 0 0,.tptr t2 1 [[z]] 0 0])::(12,.hptr 4 0 0 0)::(13,.hptr 9 0 0 0)::LDd xs ys zs)) (hdf:g.h.get 10=.dfr true)
  (fin:∀g',S.bh n xs ys zs=false->g'.h.get g.nx=.dfr true->g'.h.get 10=.dfr true->g'.h.get 1=.cells 1 [[.bool false]] 0 false false->g'.h.get 2=.cells 1 [[.int .i64 0]] 0 false false->Q .norm t [.mark g.nx,.mark 10] g')
  (bad:∀g',S.bh n xs ys zs=true->g'.h.get g.nx=.dfr true->g'.h.get 10=.dfr true->g'.h.get 1=.cells 1 [[.bool true]] 0 false false->g'.h.get 2=.cells 1 [[.int .i64 0]] 0 false false->Q .ret t [.mark g.nx,.mark 10] g'):wp C0 d none (.rng 146 (.t 102) [103] gS gK) Q t [.mark 10] g:=by
 obtain ⟨h102,h12,h13,h1,h2,h3,h8,h9,h10,-⟩:=ht
 obtain ⟨W1,W2,W3⟩:=hr.wl
 refine wM (t1:=t1) (t2:=t2) (n:=n) (y:=y) (e:=[]) (cs:=cs) (w:=z) hd hr hq hcs hz' (by simp) h102 (by decide)
  (fun j h=>(∀i,i<g.nx->h.get i=g.h.get i)/\∀w,w<j->S.bu n xs ys zs w=false)
  (fun h=>h.get 10=.dfr true/\h.get 1=.cells 1 [[.bool true]] 0 false false/\h.get 2=.cells 1 [[.int .i64 0]] 0 false false/\S.bh n xs ys zs=true) (fun j h h' hh hg=>⟨fun i h1=>by rw[hh i h1,hg.1 i h1],hg.2⟩) (fun h h' hh hg=>⟨by rw[hh 10 (by omega)];exact hg.1,by rw[hh 1 (by omega)];exact hg.2.1,by rw[hh 2 (by omega)];exact hg.2.2.1,hg.2.2.2⟩) ⟨fun _ _=>rfl,fun w hw=>by omega⟩ ?_ ?_ ?_ ?_
 ·intro j h hj hmt hg
  simp[S.jm] at hmt
 ·intro j u g2 hj hmt hg hn2 hu
  simp only[sz,simprocAttr,gS]
  refine ⟨I8 _ _ _,?_⟩
  intro g3 n3 f3
  obtain ⟨r,hre⟩:∃r,r=g2.nx:=⟨_,rfl⟩
  rw[<-hre]
  have jo:∀i,i<g.nx->g3.h.get i=g.h.get i:=fun i hi=>by rw[f3 i (by omega),if_neg (by omega),if_neg (by omega),hg.1 i hi]
  have j17:g3.h.get r=.cells 3 [[.int .i64 (j:Int),.int .i64 (S.wt n j),u]] 0 false false:=by rw[f3 _ (by omega),if_pos hre];rfl
  have hu3:SlR (fun i=>12<=i/\i<g3.nx) 0 g3.h (S.aw (S.aa n) (j:Int)) u:=hu.wd fun i hi=>⟨⟨by omega,by omega⟩,by rw[f3 i (by omega),if_neg (by omega),if_neg (by omega)]⟩
  have hn3:r<g3.nx:=by omega
  have j4:=hS.h4
  rw[<-jo 4 (by omega)] at j4
  have l4:∀x y z w:Int,aN (.cells 4 [[.int .u64 x,.int .u64 y,.int .u64 z,.int .u64 w]] 0 false false) 0 0 true 4 0=.val (.agg [.int .u64 x,.int .u64 y,.int .u64 z,.int .u64 w]):=fun _ _ _ _=>rfl
  obtain ⟨v,hv⟩:∃v,v=g3.nx:=⟨_,rfl⟩
  unfold gK
  rw[qq]
  refine bS (P:=fun t' df g'=>df=[]/\g'.nx=v+1/\g'.h.get v=.cells 4 [nY qJ (mT n xs ys zs j 0)] 0 false false/\(∀i,i<v->g'.h.get i=g3.h.get i)/\St t' [(18,.hptr v 0 0 0),(17,.hptr r 0 0 0),(10,.hptr 3 0 0 0),(12,.hptr 4 0 0 0),(13,.hptr 9 0 0 0),(8,.hptr 1 0 0 0),(9,.hptr 2 0 0 0)]) ?_ ?_
  ·simp only[sz,simprocAttr]
   refine ⟨hv.symm,by rw[hv];simp[H.get_put,nY,qJ,mT],fun i hi=>by simp[H.get_put,show ¬i=g3.nx by omega],by simp[St,sx,h12,h13,h8,h9,h10,hv]⟩
  clear h102 h12 h13 h1 h2 h3 h8 h9 h10
  rintro t df g4 ⟨rfl,n4,k18,f4,h18,h17,h10,h12,h13,h8,h9,-⟩
  have k4:=j4
  rw[<-f4 4 (by omega)] at k4
  refine eU (P:=fun t' df g'=>df=[]/\g'.h.get v=.cells 4 [nY qJ (mT n xs ys zs j 4)] 0 false false/\(∀i,i<v->g'.h.get i=g3.h.get i)/\v<g'.nx/\St t' [(18,.hptr v 0 0 0),(8,.hptr 1 0 0 0),(9,.hptr 2 0 0 0)]) ?_ ?_
  ·refine bS (P:=fun t' df g'=>df=[]/\g'=g4/\St t' (LDn xs ys zs 9 3 r v)/\tat t' 105=.int .i64 0) ?_ ?_
   ·simp only[sz,simprocAttr,h12,k4,l4]
    simp[St,LDn,vT,sx,h10,h13,h17,h18,h8,h9]
   clear h18 h17 h10 h12 h13 h8 h9
   rintro t df g5 ⟨rfl,rfl,ht,h105⟩
   simp only[qq,tK]
   refine Kq (lo:=12) (p:=9) (q:=3) (r:=r) (v:=v) (mb:=5) (w:=j) (n:=n) (y:=y) (b:=b) (fl:=a3) (S_:=a4) (u:=u) hd hr hx hy hz hc hq (hu3.wd fun i hi=>⟨⟨hi.1,by omega⟩,f4 i (by omega)⟩) (by omega) (by omega) (by omega) (by omega) (by omega) (by rw[f4 9 (by omega),jo 9 (by omega),hS.h9]) (by rw[f4 3 (by omega),jo 3 (by omega),hS.h3]) (by rw[f4 r (by omega),j17]) (hM.cong fun i hi=>by rw[f4 _ (by omega),jo _ (by omega)]) k18 ht h105 ?_
   rintro t g6 ⟨h10,h13,h17,h18,h104,h8,h9,-⟩ hn6 hf6 kv
   simp only[ju,if_true]
   exact ⟨trivial,trivial,kv,fun i hi=>by rw[hf6 i (by omega) (by omega),f4 i hi],by omega,h18,h8,h9,trivial⟩
  ·rintro t df g6 ⟨rfl,kv,f6,n6,ht⟩
   have e1:g6.h.get 1=.cells 1 [[.bool false]] 0 false false:=by rw[f6 1 (by omega),jo 1 (by omega),hS.h1]
   have e2:g6.h.get 2=.cells 1 [[.int .i64 0]] 0 false false:=by rw[f6 2 (by omega),jo 2 (by omega),hS.h2]
   have e10:g6.h.get 10=.dfr true:=by rw[f6 10 (by omega),jo 10 (by omega),hdf]
   refine Ka (v:=v) (w:=j) hd hr kv ht e1 e2 ?_ ?_
   ·intro t hD
    refine ⟨rfl,by simp;omega,fun i a1 a2=>by simp[H.get_put,show ¬i=1 by omega,show ¬i=2 by omega];rw[f6 i (by omega)],.inr ⟨rfl,?_,?_,?_,?_⟩⟩
    ·simp[H.get_put,e10]
    ·simp[H.get_put]
    ·simp[H.get_put]
    ·rw[S.bh,List.any_eq_true];exact ⟨j,by simp[hj],hD⟩
   ·intro t hD
    refine ⟨rfl,by omega,fun i a1 a2=>f6 i (by omega),.inl ⟨rfl,fun i hi=>by rw[f6 i (by omega),jo i hi],fun w hw=>?_⟩⟩
    by_cases e:w=j
    ·rw[e];exact hD
    ·exact hg.2 w (by omega)
 ·intro g' hg hn' hdf'
  refine fin g' ?_ hdf' (by rw[hg.1 10 (by omega),hdf]) (by rw[hg.1 1 (by omega),hS.h1]) (by rw[hg.1 2 (by omega),hS.h2])
  rw[S.bh,List.any_eq_false]
  intro w hw
  rw[hg.2 w (by simpa using hw)];simp
 ·rintro g' ⟨e10,e1,e2,hD⟩ hn' hdf'
  exact bad g' hD hdf' e10 e1 e2
theorem Au {d xs ys zs:Nat}{g:G}{v:AV}{n:Net}(hd:0<d)(hm:Agg n NoP 0 g.h v)(hx:xs<18446744073709551616)(hy:ys<18446744073709551616)(hz:zs<18446744073709551616) :
  aA C0 d N.aC [v,.int .u64 (xs:Int),.int .u64 (ys:Int),.int .u64 (zs:Int)] g=.val (.tup [.bool (S.bm n xs ys zs),.int .i64 (S.bc n xs ys zs)]):=by
 have key:∃r,aA C0 d N.aC [v,.int .u64 (xs:Int),.int .u64 (ys:Int),.int .u64 (zs:Int)] g=.val r/\rA (One (S.bm n xs ys zs)) (One (S.bc n xs ys zs)) NoP 0 .nil r:=by
  obtain ⟨b,rows,rfl,e1,hm',hN,r1,r2,r3,r4⟩:=mJ d hm
  rw[qU]
  refine bD tw (xs:=[.agg [.int .i64 n.grain,b],.int .u64 (xs:Int),.int .u64 (ys:Int),.int .u64 (zs:Int)]) (by simp only[aG,e1,dT 0]) (by simp[jR]) (eI (m:=1) (bc _) (bc _) (by decide) (by decide)) (by decide) hd ?_
  simp only[jR]
  obtain ⟨Qf,hQf⟩:∃Qf,Qf=fnQ C0 (d+1) [SR.cell false 1 8,SR.cell false 1 9] (fun v g'=>∃P,rA (One (S.bm n xs ys zs)) (One (S.bc n xs ys zs)) P 0 g'.h v):=⟨_,rfl⟩
  rw[<-hQf]
  refine bS (P:=fun t' df g'=>df=[]/\g'.nx=3/\g'.h.get 0=.cells 2 [[.int .i64 n.grain,b]] 0 false false/\g'.h.get 1=.cells 1 [[.bool false]] 0 false false/\g'.h.get 2=.cells 1 [[.int .i64 0]] 0 false false/\St t' [(1,.int .u64 (xs:Int)),(2,.int .u64 (ys:Int)),(3,.int .u64 (zs:Int)),(4,.hptr 0 0 0 0),(8,.hptr 1 0 0 0),(9,.hptr 2 0 0 0)]) ?_ ?_
  ·simp only[sz,simprocAttr]
   simp[St,sx,H.get_put]
  rintro t df g0 ⟨rfl,n0,f0,f1,f2,h1,h2,h3,h4,h8,h9,-⟩
  unfold mi
  obtain ⟨va,ea,hva⟩:=JN (d:=d+1) (g:=g0) (w:=.nils) (P:=NoP) (kk:=0) (n:=n) (ls:=[]) (Nat.succ_pos d) (hm' _) ⟨by show 0<9223372036854775808;decide,rfl⟩
  obtain ⟨y,cs,rfl,hy',hc,a1,a2,a3,a4,rfl⟩:=AF hva
  cases hnr:S.aQ n with
  | false =>
   have hE:S.bc n xs ys zs=50:=by rw[S.bc,hnr];rfl
   have hV:S.bm n xs ys zs=false:=by rw[S.bm,hE];rfl
   have hL:S.aW n []=50:=by rw[S.aW,hnr];rfl
   rw[hL] at ea
   simp only[sz,simprocAttr,h1,h2,h3,h4,h8,h9,f0,ea,n0,f1,f2,hQf]
   rw[hE,hV]
   exact ⟨fun _=>True,_,_,rfl,dU.2 rfl,aX.2 rfl⟩
  | true =>
   have hr:=fJ.1 hnr
   have hL:S.aW n []=0:=by rw[S.aW,hnr];rfl
   have hyo:=hy' hL
   rw[hL] at ea
   obtain ⟨b',b2,b3,ecs,hb',hb2,hb3⟩:=qV.1 hc
   injection ecs with ec1 ecs
   injection ecs with ec2 ecs
   rw[hyo.net] at ec1 hb'
   subst ec1 ec2
   have hN':SlR NoP 0 .nil n.nodes a2:=hb'.tree (Nat.le_refl _)
   refine bS (P:=fun t' df g'=>df=[]/\g'.nx=4/\g'.h.get 1=.cells 1 [[.bool false]] 0 false false/\g'.h.get 2=.cells 1 [[.int .i64 0]] 0 false false/\g'.h.get 3=.cells 4 [[.int .i64 n.grain,a2,a3,a4]] 0 false false/\tat t' 11=.int .i64 0/\St t' (LDd xs ys zs)) ?_ ?_
   ·simp only[sz,simprocAttr,h4,f0,ea]
    simp[St,LDd,sx,H.get_put,h1,h2,h3,h8,h9,n0,f1,f2]
   clear h1 h2 h3 h4 h8 h9
   rintro t df g1 ⟨rfl,n1,k1,k2,k3,h11,ht⟩
   refine eU (P:=fun t' df g'=>df=[]/\g'=g1/\St t' (LDd xs ys zs)) ?_ ?_
   ·obtain ⟨h1,h2,h3,h8,h9,h10,-⟩:=ht
    simp only[sz,simprocAttr,h11]
    simp[St,LDd,sx,h1,h2,h3,h8,h9,h10]
   clear ht
   rintro t df g2 ⟨rfl,rfl,ht⟩
   rw[du]
   refine Ia (l:=n.nodes.length) hx hy hz (hN'.len) ht k3 k1 k2 ?_ ?_
   ·intro t hB h8 h9
    have hE:S.bc n xs ys zs=2:=by rw[S.bc,hnr,hB];rfl
    have hV:S.bm n xs ys zs=false:=by rw[S.bm,hE];rfl
    simp only[sz,simprocAttr,hQf,h8,h9]
    rw[hE,hV]
    exact ⟨fun _=>True,_,_,rfl,dU.2 rfl,aX.2 rfl⟩
   intro t hB ht
   have hE:S.bc n xs ys zs=0:=by rw[S.bc,hnr,hB];rfl
   have hV:S.bm n xs ys zs=S.bh n xs ys zs:=by rw[S.bm,hE];rfl
   rw[yi]
   refine Kx hx hy hz n1 ht k3 k1 k2 ?_
   clear ht
   intro t g3 n3 hS hM ht
   have hnil:∀h,SlR NoP 0 h ([]:List Int) .nils:=fun h=>⟨by show 0<9223372036854775808;decide,rfl⟩
   rw[du,du]
   obtain ⟨cs',z',t1,t2,ez,hcs',hz'⟩:=sU (d:=d+1) (g:=g3) (y:=y) (e:=[]) (v:=.agg [.int .i64 n.grain,a2,a3,a4]) (w:=.nils) (Nat.succ_pos d) ⟨_,rfl,Rp.tree hc (Nat.le_refl _)⟩ (hnil _)
   obtain ⟨h12,h13,h1,h2,h3,h8,h9,h10,-⟩:=ht
   have s3:=hS.h3
   simp only[sz,simprocAttr,h10,s3,ez]
   refine JJ (t1:=t1) (t2:=t2) (y:=y) (n:=n) (b:=a2) (a3:=a3) (a4:=a4) (Nat.succ_pos d) hr hyo hcs' hc hz' hx hy hz n3 hS hM (by simp[St,LDd,sx,h12,h13,h1,h2,h3,h8,h9,h10]) ?_
   clear hS hM s3 ez
   intro g4 n4 d4 hS hM
   obtain ⟨cs',z',t1,t2,ez,hcs',hz'⟩:=sU (d:=d+1) (g:=g4) (y:=y) (e:=[]) (v:=.agg [.int .i64 n.grain,a2,a3,a4]) (w:=.nils) (Nat.succ_pos d) ⟨_,rfl,Rp.tree hc (Nat.le_refl _)⟩ (hnil _)
   have s3:=hS.h3
   simp only[sz,simprocAttr,lI,h10,s3,ez]
   refine Kd (t1:=t1) (t2:=t2) (y:=y) (n:=n) (b:=a2) (a3:=a3) (a4:=a4) (Nat.succ_pos d) hr hyo hcs' hc hz' hx hy hz n4 hS hM (by simp[St,LDd,sx,h12,h13,h1,h2,h3,h8,h9,h10]) d4 ?_ ?_
   ·intro g5 hD m1 m2 r1 r2
    simp only[sz,simprocAttr,lA,h8,h9,r1,r2,hQf]
    refine uh (by simp[H.get_put,show ¬g4.nx=2 by omega,show ¬g4.nx=1 by omega,m1]) (by simp[H.get_put,m2]) (by omega) ?_
    simp only[sx,sy,↓reduceIte,Nat.reduceEqDiff,h8,h9,show ¬1=g4.nx by omega,show ¬2=g4.nx by omega]
    rw[hE,hV,hD]
    exact ⟨fun _=>True,_,_,rfl,dU.2 rfl,aX.2 rfl⟩
   ·intro g5 hD m1 m2 r1 r2
    simp only[sz,simprocAttr,hQf]
    refine uh m1 m2 (by omega) ?_
    simp only[sx,sy,↓reduceIte,Nat.reduceEqDiff,h8,h9,show ¬1=g4.nx by omega,show ¬2=g4.nx by omega,r1,r2]
    rw[hE,hV,hD]
    exact ⟨fun _=>True,_,_,rfl,dU.2 rfl,aX.2 rfl⟩
 obtain ⟨r,hr,a,c,rfl,ha,hc⟩:=key
 have ha:=dU.1 ha
 injection ha with ha
 have hc:=aX.1 hc
 injection hc with hc
 rw[hr,ha,hc]
def KU (n:Net):VS:=fun P k h v=>rA (One (S.ak n)) (One (0:Int)) P k h v
theorem JV {d:Nat}{g:G}{v:AV}{n:Net}(hd:0<d)(hr:NR n)(hm:Agg n NoP 0 g.h v):∃r,aA C0 d N.aI [v] g=.val r/\KU n NoP 0 .nil r:=by
 obtain ⟨b,rows,rfl,e1,hm',-⟩:=mJ d hm
 rw[so]
 refine bD uz (xs:=[.agg [.int .i64 n.grain,b]]) (by simp only[aG,e1]) (by simp[mg]) (eI (m:=1) (bc _) (bc _) (by decide) (by decide)) (by decide) hd ?_
 simp only[sz,simprocAttr,mg]
 obtain ⟨g0,hg0⟩:∃g0,g0=G.empty.new (.cells 2 [[.int .i64 n.grain,b]] 0 false false):=⟨_,rfl⟩
 rw[<-hg0]
 have f0:g0.h.get 0=.cells 2 [[.int .i64 n.grain,b]] 0 false false:=by rw[hg0];simp[sx]
 have n0:g0.nx=1:=by rw[hg0];simp[sx]
 clear hg0
 have ld:aN (.cells 2 [[.int .i64 n.grain,b]] 0 false false) 0 0 true 2 0=.val (.agg [.int .i64 n.grain,b]):=rfl
 simp only[sz,simprocAttr,nR,f0,ld]
 refine pu (x6 (Nat.succ_pos d) (n:=n) (hm' _)) fun z hz=>?_
 rcases oJ hz with ⟨hn,-⟩ | ⟨-,b',cv,sv,oz,o,rfl,hb,hcv,hsv,hoz⟩
 ·rw[fJ.2 hr] at hn;cases hn
 ·have st:∀g:G,eS (.cells 5 [[.int .i64 0,.nils,.nils,.nils,.nils]] 0 false false) g 1 0 0 5 0 (.agg [.int .i64 n.grain,b',cv,sv,oz])=.upd .undef (g.put 1 (.cells 5 [[.int .i64 n.grain,b',cv,sv,oz]] 0 false false)):=fun g=>by
   have h1:=hb.2
   have h2:=hcv.2
   have h3:=hsv.2
   have h4:=hoz.2
   unfold SlV at h1 h2 h3 h4
   split at h1<;>split at h2<;>split at h3<;>split at h4<;>first | rfl | exact h1.elim | exact h2.elim | exact h3.elim | exact h4.elim
  simp only[sz,simprocAttr,n0,st]
  exact ⟨fun _=>True,_,_,rfl,cA.2 ⟨sv,rfl,hsv.wide (Nat.le_refl 0)⟩,aX.2 rfl⟩
theorem Ku {n:Net}(hr:NR n):GOk (S.ak n) :=
 ⟨by simp[S.ak];exact hr.l1,by simp[S.ak];exact hr.l2,qZ hr,hr.acyc⟩
theorem Ii {n:Net}(hr:NR n){x y z:Nat}(hx:x<2 ^ n.nodes.length)(hy:y<2 ^ n.nodes.length)(hz:z<2 ^ n.nodes.length)(zx:z &&& x=0)(zy:z &&& y=0)(yx:y &&& x=0):S.bc n x y z=0:=by
 have h1:(x ||| y ||| z) / 2 ^ n.nodes.length=0:=Nat.div_eq_of_lt (Nat.or_lt_two_pow (Nat.or_lt_two_pow hx hy) hz)
 rw[S.bc,fJ.2 hr,if_pos rfl,S.bI,h1,Nat.and_comm x y,yx,Nat.and_comm x z,zx,Nat.and_comm y z,zy];rfl
set_option maxRecDepth 20000 in
theorem qM {x:sF}{u1:AV}{s0 s1 s2:Nat}(hx:Agg x NoP 0 .nil u1)(hs:s0<18446744073709551616/\s1<18446744073709551616/\s2<18446744073709551616):∃g',(I C0).call 1 N.a7 [u1,.agg [.int .u64 (s0:Int),.int .u64 (s1:Int),.int .u64 (s2:Int)]] G.empty=.ok (.bool true) g':=by
 obtain ⟨q0,q1,q2⟩:=hs
 obtain ⟨xs,rfl,qx⟩:=hx
 obtain ⟨a1',a2',e1,-⟩:=wS.1 qx
 have hxl:xs.length=3:=by rw[e1];rfl
 clear e1 a1' a2'
 have key:=pG (C:=C0) (d:=1) (f:=N.a7) («as»:=[.agg xs,.agg [.int .u64 (s0:Int),.int .u64 (s1:Int),.int .u64 (s2:Int)]]) (g:=G.empty) (K:=fun v g'=>v=.bool true) mW (by simp[dM]) ?_
 ·cases hc':(I C0).call 1 N.a7 [.agg xs,.agg [.int .u64 (s0:Int),.int .u64 (s1:Int),.int .u64 (s2:Int)]] G.empty with
  | fail=>rw[hc'] at key;exact key.elim
  | ok v g'=>rw[hc'] at key;exact ⟨g',by rw[show v=.bool true from key]⟩
 simp only[sz,simprocAttr,dM,vy]
 obtain ⟨g0,hg0⟩:∃g0,g0=(G.empty.new (AObj.cells xs.length [xs] 0 false false)).new (.cells 3 [[.int .u64 (s0:Int),.int .u64 (s1:Int),.int .u64 (s2:Int)]] 0 false false):=⟨_,rfl⟩
 have f0:g0.h.get 0=.cells 3 [xs] 0 false false:=by rw[hg0,hxl];simp[sx,H.get_put]
 have f1:g0.h.get 1=.cells 3 [[.int .u64 (s0:Int),.int .u64 (s1:Int),.int .u64 (s2:Int)]] 0 false false:=by rw[hg0];simp[sx]
 have f3:g0.nx=2:=by rw[hg0];simp[sx]
 have ld0:aN (.cells 3 [xs] 0 false false) 0 0 true 3 0=.val (.agg xs):=by
  match xs,hxl with
  | [a,b,c],_=>rfl
 simp only[fZ]
 refine eU (P:=fun t' df g'=>df=[]/\g'=g0/\St t' [(2,.hptr 0 0 0 0),(3,.hptr 1 0 0 0)]) ?_ ?_
 ·simp only[sz,simprocAttr,zL]
  simp[St,sx,hg0]
 clear hg0
 rintro t df g1 ⟨rfl,rfl,h2,h3,-⟩
 obtain ⟨rn,en,n,hdr,cn,rfl,hcn⟩:=Io (g:=g1) (d:=1) (by decide) (C4 (P:=NoP) qx g1.h)
 obtain ⟨bb,rfl,hNb⟩:=lT.1 hcn
 have hM:∀h,Agg n NoP 0 h (.agg [.int .i64 n.grain,bb]):=fun h=>C4 hcn h
 refine bS (P:=fun t' df g'=>df=[]/\St t' [(3,.hptr 1 0 0 0),(5,.hptr 2 0 0 0)]/\g'.h.get 1=.cells 3 [[.int .u64 (s0:Int),.int .u64 (s1:Int),.int .u64 (s2:Int)]] 0 false false/\g'.h.get 2=.cells 2 [[.int .i64 n.grain,bb]] 0 false false) ?_ ?_
 ·simp only[sz,simprocAttr,h2,f0,ld0,en]
  simp[St,sx,h3,f1,f3]
 clear f0 f1 f3 h2 h3 en
 rintro t df g2 ⟨rfl,⟨h3,h5,-⟩,k1,k2⟩
 have hN':SlR NoP 0 .nil n.nodes bb:=hNb
 have lb:=fun g=>hN'.len g
 have hr:=hdr.nr
 have n8:=hr.l2
 have hG:=Ku hr
 have hpl:(S.ak n).length=n.nodes.length:=by simp[S.ak]
 have ldn:aN (.cells 2 [[.int .i64 n.grain,bb]] 0 false false) 0 0 true 2 0=.val (.agg [.int .i64 n.grain,bb]):=rfl
 refine bS (P:=fun t' df g'=>df=[]/\g'=g2/\∃pv,SlR NoP 0 .nil (S.ak n) pv/\St t' [(3,.hptr 1 0 0 0),(5,.hptr 2 0 0 0),(6,pv),(7,.int .i64 0)]) ?_ ?_
 ·simp only[sz,simprocAttr,h5,k2,ldn]
  refine pu (JV (by decide) hr (hM _)) fun z hz=>?_
  obtain ⟨a,b,rfl,ha,hb⟩:=hz
  obtain ⟨pv,e,hpv⟩:=cA.1 ha
  injection e with e
  subst e
  have hb:=aX.1 hb
  injection hb with hb
  subst hb
  simp only[sz,simprocAttr]
  exact ⟨_,hpv,by simp[St,sx,h3,h5]⟩
 clear h3 h5
 rintro t df g3 ⟨rfl,rfl,pv,hp,h3,h5,h6,h7,-⟩
 have i0:∀id,qz 3 1 (.hptr id 0 0 0) (.int .i64 0)=.val (.hptr id 0 0 0):=fun id=>rfl
 have i1:∀id,qz 3 1 (.hptr id 0 0 0) (.int .i64 1)=.val (.hptr id 0 0 1):=fun id=>rfl
 have i2:∀id,qz 3 1 (.hptr id 0 0 0) (.int .i64 2)=.val (.hptr id 0 0 2):=fun id=>rfl
 have l0:aN (.cells 3 [[.int .u64 (s0:Int),.int .u64 (s1:Int),.int .u64 (s2:Int)]] 0 false false) 0 0 false 1 0=.val (.int .u64 (s0:Int)):=rfl
 have l1:aN (.cells 3 [[.int .u64 (s0:Int),.int .u64 (s1:Int),.int .u64 (s2:Int)]] 0 false false) 0 0 false 1 1=.val (.int .u64 (s1:Int)):=rfl
 have l2:aN (.cells 3 [[.int .u64 (s0:Int),.int .u64 (s1:Int),.int .u64 (s2:Int)]] 0 false false) 0 0 false 1 2=.val (.int .u64 (s2:Int)):=rfl
 have hsl:bA .shl (.int .u64 1) (.int .i64 (n.nodes.length:Int))=.val (.int .u64 ((2 ^ n.nodes.length:Nat):Int)):=by rw[gg,sG (by omega)]
 have h2p:1<=2 ^ n.nodes.length:=Nat.one_le_two_pow
 have h256:=zh n8
 have hw:IntKind.wrap .u64 (((2 ^ n.nodes.length:Nat):Int) - 1)=((2 ^ n.nodes.length - 1:Nat):Int):=by rw[lF (by omega) (by omega)];omega
 obtain ⟨x,y,z,-,⟨ex,ey,ez,-⟩,⟨lx,ly,lz,-⟩,yx,zx,zy,-⟩:=Ej (n:=n.nodes.length) (a:=s0) (b:=s1) (c:=s2) (e:=0)
 have hap:=Fg hG (x:=x) (y:=y) (z:=z) (by rw[hpl];exact lx) (by rw[hpl];exact ly) (by rw[hpl];exact lz) yx zx zy
 have hE7:=zO hG (x:=x) (y:=y) (z:=z) (by rw[hpl];exact lx) (by rw[hpl];exact ly) (by rw[hpl];exact lz) yx zx zy
 have hE6:=Ii hr lx ly lz zx zy yx
 have hsd:Apt (S.ak n) x y z->S.bh n x y z=false:=KD g3 hr hdr.l.2 lx ly lz zx zy yx
 obtain ⟨m,hmm⟩:∃m,m=2 ^ n.nodes.length - 1:=⟨_,rfl⟩
 have hml:m<18446744073709551616:=by omega
 rw[<-hmm] at hw ex ey ez
 have b0:=dm s0 m q0 hml
 rw[<-ex] at b0
 have b1:=dm s1 m q1 hml
 have b2:=dm s2 m q2 hml
 obtain ⟨u1,hu1⟩:∃u,u=s1 &&& m:=⟨_,rfl⟩
 obtain ⟨u2,hu2⟩:∃u,u=s2 &&& m:=⟨_,rfl⟩
 have lu1:u1<18446744073709551616:=by rw[hu1];exact AR q1
 have lu2:u2<18446744073709551616:=by rw[hu2];exact AR q2
 rw[<-hu1] at b1 ey
 rw[<-hu2] at b2 ez
 clear hu1 hu2 ex
 have lx':x<18446744073709551616:=by omega
 have ly':y<18446744073709551616:=by omega
 have lz':z<18446744073709551616:=by omega
 have c1:=jZ u1 x lu1 lx'
 rw[<-ey] at c1
 have c2:=jZ u2 x lu2 lx'
 obtain ⟨v2,hv2⟩:∃u,u=u2 ^^^ u2 &&& x:=⟨_,rfl⟩
 have lv2:v2<18446744073709551616:=by rw[hv2];exact Ep lu2 lx'
 rw[<-hv2] at c2 ez
 clear hv2 ey
 have d2:=jZ v2 y lv2 ly'
 rw[<-ez] at d2
 clear ez
 have kA:=fun g=>Dp (d:=1) (g:=g) (by decide) hp lx' ly' lz'
 have kD:=fun g=>Au (d:=1) (g:=g) (by decide) (hM g.h) lx' ly' lz'
 rw[hE7] at kA
 have hV:S.bm n x y z=S.bh n x y z:=by rw[S.bm,hE6];rfl
 rw[hE6,hV] at kD
 cases hA:S.bw (S.ak n) x y z with
 | true =>
  rw[hsd (hap.1 hA)] at kD
  rw[hA] at kA
  simp only[sz,simprocAttr,h3,h5,h6,h7,k1,k2,lb,ldn,hsl,hw,i0,i1,i2,l0,l1,l2,b0,b1,b2,c1,c2,d2,kA,kD]
 | false =>
  rw[hA] at kA
  simp only[sz,simprocAttr,h3,h5,h6,h7,k1,k2,lb,ldn,hsl,hw,i0,i1,i2,l0,l1,l2,b0,b1,b2,c1,c2,d2,kA,kD]
end
end Hx
end
section
namespace Hx
open Go Go.RowKit Go.ChangeShapes Go.WideShapes
def qK (P:Program):List Field->Nat->Option Nat
 | [],k=>some k
 | f::fs,k=>if f.offset=k then qK P fs (k+P.cellsOf f.type) else none
def oV (P:Program):Nat->TypeId->Bool
 | 0,_=>false
 | n+1,t=>match P.underlying t with
  | some .bool=>true
  | some (.int _)=>true
  | some (.slice e)=>decide (0<P.cellsOf e)&&oV P n e
  | some (.struct fs)=>(qK P fs.toList 0 == some (P.cellsOf t))&&fs.toList.all (fun f=>oV P n f.type)
  | some (.array m e)=>decide (m*P.cellsOf e=P.cellsOf t)&&oV P n e
  | _=>false
def Sh (P:Program):Nat->TypeId->List AV->Prop
 | 0,_,_=>False
 | n+1,t,xs=>match P.underlying t with
  | some .bool=>∃b,xs=[.bool b]
  | some (.int k)=>∃z,xs=[.int k z]/\(Lit.int k z).wf=true
  | some (.slice e)=>xs=[.nils]\/∃rows,xs=[.tsl 0 (P.cellsOf e) rows]/\rows.length<9223372036854775808/\∀row∈rows,Sh P n e row
  | some (.struct fs)=>∃xss,xs=xss.flatten/\All2 (fun (f:Field) ys=>Sh P n f.type ys) fs.toList xss
  | some (.array m e)=>∃xss:List (List AV),xs=xss.flatten/\xss.length=m/\∀ys∈xss,Sh P n e ys
  | _=>False
def zX (P:Program)(w:World)(n:Nat)(t:TypeId)(xs:List AV)(cs:List Value):Prop :=
 RVs0 w xs cs/\(∀y∈xs,y.one=true/\Closed y)/\Sh P n t xs
theorem RVs0.append {w:World}{xs ys:List AV}{cs ds:List Value}(h:RVs0 w xs cs)(h':RVs0 w ys ds):RVs0 w (xs++ys) (cs++ds):=by
 refine ⟨by rw[List.length_append,List.length_append,h.1,h'.1],fun i x v hx hv=>?_⟩
 rcases Nat.lt_or_ge i xs.length with hi | hi
 ·rw[List.getElem?_append_left hi] at hx
  rw[List.getElem?_append_left (by rw[<-h.1];exact hi)] at hv
  exact h.2 i x v hx hv
 ·rw[List.getElem?_append_right hi] at hx
  rw[List.getElem?_append_right (by rw[<-h.1];exact hi),<-h.1] at hv
  exact h'.2 _ x v hx hv
theorem BV (b o n:Nat):(⟨b,o,none⟩:Addr).add n=adr b (o+n):=by
 unfold Addr.add
 split
 ·rename_i h;subst h;rfl
 ·rfl
variable {H:Type}{enc:TypeId×Value->H}{P:Program}{w:World}
theorem wQ:∀{fl:List Field} {k K:Nat},qK P fl k=some K->k<=K
 | [],k,K,h=>by injection h with h;omega
 | f::fl,k,K,h=>by
  unfold qK at h
  split at h
  ·have:=wQ h;omega
  ·cases h
theorem FG {n:Nat}{cs:List Value}:∀{fl:List Field} {k K:Nat},qK P fl k=some K ->
  (∀f∈fl,∃xs,zX P w n f.type xs ((cs.drop f.offset).take (P.cellsOf f.type))) ->
  ∃xss,All2 (fun (f:Field) ys=>Sh P n f.type ys) fl xss/\RVs0 w xss.flatten ((cs.drop k).take (K - k))/\∀y∈xss.flatten,y.one=true/\Closed y
 | [],k,K,h,_=>by
  injection h with h;subst h
  exact ⟨[],trivial,by rw[Nat.sub_self,List.take_zero];exact ⟨rfl,fun i x v hx=>by simp at hx⟩,fun y hy=>by simp at hy⟩
 | f::fl,k,K,h,hg=>by
  unfold qK at h
  split at h
  ·rename_i ho
   subst ho
   obtain ⟨xs,h1,h2,h3⟩:=hg f (by simp)
   obtain ⟨xss,a1,a2,a3⟩:=FG h fun f' hf'=>hg f' (by simp[hf'])
   have hle:=wQ h
   refine ⟨xs::xss,⟨h3,a1⟩,?_,fun y hy=>?_⟩
   ·have e:(cs.drop f.offset).take (K - f.offset)=(cs.drop f.offset).take (P.cellsOf f.type)++(cs.drop (f.offset+P.cellsOf f.type)).take (K - (f.offset+P.cellsOf f.type)):=by
     rw[show K - f.offset=P.cellsOf f.type+(K - (f.offset+P.cellsOf f.type)) by omega,List.take_add,List.drop_drop]
    rw[e,List.flatten_cons]
    exact h1.append a2
   ·rw[List.flatten_cons,List.mem_append] at hy
    rcases hy with hy | hy
    ·exact h2 y hy
    ·exact a3 y hy
  ·cases h
theorem B7 {n:Nat}{e:TypeId}{cs:List Value}:∀{m k:Nat},
  (∀i,i<m->∃xs,zX P w n e xs ((cs.drop ((k+i)*P.cellsOf e)).take (P.cellsOf e))) ->
  ∃xss:List (List AV),xss.length=m/\(∀ys∈xss,Sh P n e ys)/\RVs0 w xss.flatten ((cs.drop (k*P.cellsOf e)).take (m*P.cellsOf e))/\∀y∈xss.flatten,y.one=true/\Closed y
 | 0,k,_=>⟨[],rfl,fun y hy=>by simp at hy,by rw[Nat.zero_mul,List.take_zero];exact ⟨rfl,fun i x v hx=>by simp at hx⟩,fun y hy=>by simp at hy⟩
 | m+1,k,hg=>by
  obtain ⟨xs,h1,h2,h3⟩:=hg 0 (by omega)
  rw[Nat.add_zero] at h1
  obtain ⟨xss,a0,a1,a2,a3⟩:=B7 (m:=m) (k:=k+1) fun i hi=>by
   have:=hg (i+1) (by omega)
   rwa [show k+(i+1)=k+1+i by omega] at this
  refine ⟨xs::xss,by simp[a0],fun ys hy=>?_,?_,fun y hy=>?_⟩
  ·rcases List.mem_cons.1 hy with rfl | hy
   ·exact h3
   ·exact a1 ys hy
  ·have e:(cs.drop (k*P.cellsOf e)).take ((m+1)*P.cellsOf e)=(cs.drop (k*P.cellsOf e)).take (P.cellsOf e)++(cs.drop ((k+1)*P.cellsOf e)).take (m*P.cellsOf e):=by
    rw[show (m+1)*P.cellsOf e=P.cellsOf e+m*P.cellsOf e by rw[Nat.add_mul];omega,List.take_add,List.drop_drop,Nat.add_mul,Nat.one_mul]
   rw[e,List.flatten_cons]
   exact h1.append a2
  ·rw[List.flatten_cons,List.mem_append] at hy
   rcases hy with hy | hy
   ·exact h2 y hy
   ·exact a3 y hy
theorem yX:∀(n:Nat) (t:TypeId),oV P n t=true->∀(fuel:Nat) (cs:List Value) (x:DataW H×List MemPlace),DataW.trod enc P w 0 (fun _=>true) true fuel t cs=some x->∃xs,zX P w n t xs cs:=by
 intro n
 induction n with
 | zero=>intro t h;simp[oV] at h
 | succ n ih =>
  intro t h fuel cs x hx
  unfold oV at h
  split at h
  ·rename_i hu
   obtain ⟨b,rfl,-⟩:=DataW.trod_bool hu hx
   refine ⟨[.bool b],⟨rfl,fun i x v h1 h2=>?_⟩,fun y hy=>?_,?_⟩
   ·cases i with
    | zero=>simp at h1 h2;subst h1;subst h2;exact .bool _ _
    | succ i=>simp at h1
   ·simp at hy;subst hy;exact ⟨rfl,.bool _⟩
   ·unfold Sh;rw[hu];exact ⟨b,rfl⟩
  ·rename_i k hu
   obtain ⟨z,rfl,-,hwf⟩:=DataW.trod_int hu hx
   refine ⟨[.int k z],⟨rfl,fun i x v h1 h2=>?_⟩,fun y hy=>?_,?_⟩
   ·cases i with
    | zero=>simp at h1 h2;subst h1;subst h2;exact .int _ _ _
    | succ i=>simp at h1
   ·simp at hy;subst hy;exact ⟨rfl,.int _ _⟩
   ·unfold Sh;rw[hu];exact ⟨z,rfl,hwf⟩
  ·rename_i e hu
   rw[Bool.and_eq_true,decide_eq_true_eq] at h
   obtain ⟨hpos,hp⟩:=h
   rcases DataW.trod_slice hu hx with ⟨rfl,-⟩ | ⟨a,len,cap,elems,rest,m,-,rfl,-,-,hlc,hcm,hlen,hel,-,-⟩
   ·refine ⟨[.nils],⟨rfl,fun i x v h1 h2=>?_⟩,fun y hy=>?_,?_⟩
    ·cases i with
     | zero=>simp at h1 h2;subst h1;subst h2;exact .nils _
     | succ i=>simp at h1
    ·simp at hy;subst hy;exact ⟨rfl,.nils⟩
    ·unfold Sh;rw[hu];exact .inl rfl
   ·have each:∀i,i<len->∃xs vs,w.cells? 0 (a.add (i*P.cellsOf e)) (P.cellsOf e)=some vs/\zX P w n e xs vs:=by
     intro i hi
     have:=hel i hi
     rw[List.getElem?_eq_getElem (show i<elems.length by omega),Option.bind_eq_some_iff] at this
     obtain ⟨vs,h1,h2⟩:=this
     obtain ⟨xs,hg⟩:=ih e hp _ _ _ h2
     exact ⟨xs,vs,h1,hg⟩
    let rowf:Nat->List AV:=fun i=>if hi:i<len then Classical.choose (each i hi) else []
    let valf:Nat->List Value:=fun i=>if hi:i<len then Classical.choose (Classical.choose_spec (each i hi)) else []
    have hrow:∀i,i<len->w.cells? 0 (a.add (i*P.cellsOf e)) (P.cellsOf e)=some (valf i)/\zX P w n e (rowf i) (valf i):=by
     intro i hi
     have:=Classical.choose_spec (Classical.choose_spec (each i hi))
     simpa only[rowf,valf,dif_pos hi] using this
    have hget:∀(i:Nat) (row:List AV),((List.range len).map rowf)[i]?=some row->i<len/\row=rowf i:=by
     intro i row h1
     rw[List.getElem?_map] at h1
     rcases Nat.lt_or_ge i len with hi | hi
     ·rw[List.getElem?_range hi] at h1
      injection h1 with h1
      exact ⟨hi,h1.symm⟩
     ·rw[List.getElem?_eq_none (by simpa using hi)] at h1;cases h1
    refine ⟨[.tsl 0 (P.cellsOf e) ((List.range len).map rowf)],⟨rfl,fun i x v h1 h2=>?_⟩,fun y hy=>?_,?_⟩
    ·cases i with
     | succ i=>simp at h1
     | zero =>
      simp at h1 h2;subst h1;subst h2
      rcases Nat.eq_zero_or_pos len with h0 | h0
      ·subst h0
       exact .tnil 0 0 _ a cap (Nat.le_refl _)
      ·obtain ⟨b,o,spot⟩:=a
       have hc0:=World.cells?_some (hrow 0 h0).1
       have hv0:(valf 0)[0]?=some (valf 0)[0]:=List.getElem?_eq_getElem (by rw[hc0.2.1];exact hpos)
       have h00:=hc0.2.2 0 hpos
       rw[hv0] at h00
       have hspot:spot=none:=by simpa [Addr.add] using World.cell?_spot h00
       subst hspot
       have cellat:∀i j row x,((List.range len).map rowf)[i]?=some row->row[j]?=some x->∃v,(valf i)[j]?=some v/\w.cell? (adr b (o+i*P.cellsOf e+j))=some v/\RV w gm0 av0 0 x v:=by
        intro i j row x hr hxj
        obtain ⟨hi,rfl⟩:=hget i row hr
        obtain ⟨q1,q2⟩:=hrow i hi
        have hj:j<(rowf i).length:=(List.getElem?_eq_some_iff.1 hxj).1
        have hj':j<(valf i).length:=by rw[<-q2.1.1];exact hj
        have hcs:=World.cells?_some q1
        have hcell:=hcs.2.2 j (by rw[<-hcs.2.1];exact hj')
        rw[List.getElem?_eq_getElem hj'] at hcell
        refine ⟨_,List.getElem?_eq_getElem hj',?_,q2.1.2 j x _ hxj (List.getElem?_eq_getElem hj')⟩
        rw[BV,show adr b (o+i*P.cellsOf e)=(⟨b,o+i*P.cellsOf e,none⟩:Addr) from rfl,BV] at hcell
        exact hcell
       have hb:b<w.heap.size:=by
        have:=uE h00
        simpa [Addr.add] using this
       have hrl:((List.range len).map rowf).length=len:=by simp
       have key:=RV.tsl (w:=w) (γ:=gm0) (A:=av0) 0 0 (P.cellsOf e) ((List.range len).map rowf) b o cap (fun i j=>(valf i)[j]?.getD undef) (Nat.le_refl _) (by rw[hrl];exact hlc) hb (Kh b) (fun h=>h)
        (fun i row hr=>by
         obtain ⟨hi,rfl⟩:=hget i row hr
         obtain ⟨q1,q2⟩:=hrow i hi
         rw[q2.1.1,(World.cells?_some q1).2.1])
        (fun i j row x hr hxj=>by
         obtain ⟨hi,rfl⟩:=hget i row hr
         exact ((hrow i hi).2.2.1 x (List.mem_of_getElem? hxj)).1)
        (fun i j row x hr hxj=>by
         obtain ⟨v,v1,v2,v3⟩:=cellat i j row x hr hxj
         rw[v2,v1];rfl)
        (fun i j row x hr hxj=>by
         obtain ⟨v,v1,v2,v3⟩:=cellat i j row x hr hxj
         rw[v1];exact v3)
        (fun row hr x hx=>by
         obtain ⟨i,hi⟩:=List.getElem?_of_mem hr
         obtain ⟨hi2,rfl⟩:=hget i row hi
         exact ((hrow i hi2).2.2.1 x hx).2)
       rw[hrl] at key
       exact key
    ·simp only[List.mem_singleton] at hy;subst hy
     refine ⟨rfl,.tsl _ _ _ fun row hr x hx=>?_⟩
     obtain ⟨i,hi⟩:=List.getElem?_of_mem hr
     obtain ⟨hi2,rfl⟩:=hget i row hi
     exact ((hrow i hi2).2.2.1 x hx).2
    ·unfold Sh;rw[hu]
     refine .inr ⟨_,rfl,?_,fun row hr=>?_⟩
     ·rw[List.length_map,List.length_range]
      have:maxLen<9223372036854775808:=by decide
      omega
     ·obtain ⟨i,hi⟩:=List.getElem?_of_mem hr
      obtain ⟨hi2,rfl⟩:=hget i row hi
      exact (hrow i hi2).2.2.2
  ·rename_i fs hu
   rw[Bool.and_eq_true] at h
   obtain ⟨hc,hp⟩:=h
   have hc:qK P fs.toList 0=some (P.cellsOf t):=eq_of_beq hc
   obtain ⟨ys,m,-,-,hl,hyl,hel⟩:=DataW.trod_struct hu hx
   obtain ⟨xss,a1,a2,a3⟩:=FG (w:=w) (n:=n) (cs:=cs) hc fun f hf=>by
    obtain ⟨i,hi,e⟩:=List.mem_iff_getElem.1 hf
    have hfi:fs[i]?=some f:=by rw[<-Array.getElem?_toList,List.getElem?_eq_getElem hi,e]
    have:=hel i f hfi
    rw[List.getElem?_eq_getElem (show i<ys.length by rw[hyl];simpa using hi)] at this
    exact ih f.type (List.all_eq_true.1 hp f hf) _ _ _ this
   rw[List.drop_zero,Nat.sub_zero,<-hl,List.take_length] at a2
   refine ⟨xss.flatten,a2,a3,?_⟩
   unfold Sh;rw[hu];exact ⟨xss,rfl,a1⟩
  ·rename_i m e hu
   rw[Bool.and_eq_true,decide_eq_true_eq] at h
   obtain ⟨hc,hp⟩:=h
   obtain ⟨ys,q,-,-,hl,hyl,hel⟩:=DataW.trod_array hu hx
   obtain ⟨xss,a0,a1,a2,a3⟩:=B7 (w:=w) (n:=n) (e:=e) (cs:=cs) (m:=m) (k:=0) fun i hi=>by
    have:=hel i hi
    rw[List.getElem?_eq_getElem (show i<ys.length by omega)] at this
    rw[Nat.zero_add]
    exact ih e hp _ _ _ this
   rw[Nat.zero_mul,List.drop_zero,hc,<-hl,List.take_length] at a2
   refine ⟨xss.flatten,a2,a3,?_⟩
   unfold Sh;rw[hu];exact ⟨xss,rfl,a0,a1⟩
  ·cases h
theorem Ae {n:Nat}{t:TypeId}{xs:List AV}(hu:P.underlying t=some (.int .u8))(h:Sh P n t xs):∃x:UInt8,Rp.rp NoP 0 .nil x xs:=by
 cases n with
 | zero=>exact h.elim
 | succ n =>
  unfold Sh at h;rw[hu] at h
  obtain ⟨z,rfl,hw⟩:=h
  simp only[Lit.wf,IntKind.min,IntKind.max,IntKind.signed,IntKind.bits,Bool.and_eq_true] at hw
  refine ⟨UInt8.ofNat z.toNat,oE.2 ?_⟩
  have h1:0<=z:=by simpa using hw.1
  have h2:z<=255:=by simpa using hw.2
  have h3:(UInt8.ofNat z.toNat).toNat=z.toNat:=UInt8.toNat_ofNat_of_lt' (by show z.toNat<256;omega)
  rw[h3,Int.toNat_of_nonneg h1]
theorem yg {α:Type} [Rp α]{n:Nat}{t e:TypeId}{xs:List AV}(hu:P.underlying t=some (.slice e))(hsz:P.cellsOf e=Rp.sz α)(hel:∀ys,Sh P n e ys->∃y:α,Rp.rp NoP 0 .nil y ys)(h:Sh P (n+1) t xs) :
  ∃l:List α,Rp.rp NoP 0 .nil l xs:=by
 unfold Sh at h;rw[hu] at h
 rcases h with rfl | ⟨rows,rfl,hl,hr⟩
 ·exact ⟨[],.nils,rfl,by simp,rfl⟩
 ·have:∀rows:List (List AV),(∀row∈rows,Sh P n e row)->∃l:List α,All2 (Rp.rp NoP 0 .nil) l rows:=by
   intro rows
   induction rows with
   | nil=>intro _;exact ⟨[],trivial⟩
   | cons r rows ih =>
    intro h
    obtain ⟨y,hy⟩:=hel r (h r (by simp))
    obtain ⟨l,hl⟩:=ih fun row hrow=>h row (by simp[hrow])
    exact ⟨y::l,hy,hl⟩
  obtain ⟨l,ha⟩:=this rows hr
  exact ⟨l,_,rfl,by rw[ha.len];exact hl,Nat.le_refl _,.inl hsz,ha⟩
theorem ES {n m:Nat}{t e:TypeId}{xs:List AV}(hu:P.underlying t=some (.array m e))(h:Sh P (n+1) t xs):∃xss:List (List AV),xs=xss.flatten/\xss.length=m/\∀ys∈xss,Sh P n e ys:=by
 unfold Sh at h;rw[hu] at h;exact h
theorem wX {n:Nat}{t:TypeId}{fs:Array Field}{xs:List AV}(hu:P.underlying t=some (.struct fs))(h:Sh P (n+1) t xs):∃xss,xs=xss.flatten/\All2 (fun (f:Field) ys=>Sh P n f.type ys) fs.toList xss:=by
 unfold Sh at h;rw[hu] at h;exact h
end Hx
end
