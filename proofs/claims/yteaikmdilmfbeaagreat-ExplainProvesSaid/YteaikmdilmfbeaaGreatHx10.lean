/- A part of the proof. -/
import Derived.Test.YteaikmdilmfbeaaGreatHx9
set_option linter.all false
set_option maxRecDepth 20000
set_option maxHeartbeats 8000000
namespace Hx
open Go
noncomputable section
variable {d k k2 k3 i j N:Nat}{g:G}{n:Xb}{l XF e XB Xd mw cs:List Int}{v w q u vv pv z:AV}{P P2:Nat->Prop}{m x:Int}{t:T}{proof:List (List Int)}
def vP[Xr]{l2:List Int}(hd:0<d)(hl:Xu P k g.h l v)(hl2:Xu P2 k2 g.h l2 w):ah C0 d 18 [v,w] g=.val (.bool (decide (l=l2))):=by
 obtain⟨v',ev,hv⟩:=aB hl d;obtain⟨w',ew,hw⟩:=aB hl2 d;have rv:=λh=>(hv h).ints;have rw':=λh=>(hw h).ints;have lv:=(hv .nil).len;have lw:=(hw .nil).len;have A:=hl.1;rw[WL];refine cM u7 (xs:=[v',w']) (by simp only[aD,ev,ew]) (by simp[dU]) hd ?_
 by_cases c:l.length=l2.length
 ·have c':(l.length:Int)=(l2.length:Int):=by omega
  simp only[sz,simprocAttr,dU,lv,lw,c'];simp only[jE];refine aT (m:=l.length) (by omega) (λj t df g=>df=[]/\St t [(0,v'),(1,w'),(11,v')]/\l.take j=l2.take j) ⟨rfl,by simp[St,sx],by simp⟩ (by simp[sx]) (by simp[sx,c']) (by decide) (by rintro j t df g v s (rfl|rfl|rfl)<;>simp[St,sx]) ?_ ?_
  ·rintro j t df g r ⟨rfl,⟨h0,h1,n,-⟩,a⟩ f o;obtain⟨y,i,p,-⟩:=af r;obtain⟨z,hz,q,-⟩:=af (l:=l2) (j:=j) (by omega);have u:j<(l.map ci).length:=by simpa using r
   have x:(l.map ci)[j]?=some (ci y):=by rw[XK,i];rfl
   have v1:j<(l2.map ci).length:=by rw[XN];omega
   have v2:(l2.map ci)[j]?=some (ci z):=by rw[XK,hz];rfl
   by_cases e:y=z
   ·simp only[sz,simprocAttr,h0,h1,f,rv,rw',u,x,v1,v2,ci,e];simp[St,sx,h0,h1,n,o,p,q,a,e]
   ·have b:l≠l2:=λh=>e (by rw[h,hz]at i;injection i with i;exact i.symm);simp only[sz,simprocAttr,h0,h1,f,rv,rw',u,x,v1,v2,ci,e,b]
  ·rintro t df g ⟨rfl,-,a⟩;rw[XV,c,XV]at a;simp only[sz,simprocAttr,jF,a]
 ·have c':¬(l.length:Int)=(l2.length:Int):=by omega
  have b:l≠l2:=λh=>c (by rw[h]);simp only[sz,simprocAttr,dU,lv,lw,c',b]
theorem bn1{b:Nat}(hu:Own g b u 1 (l.map ci)){n:Nat}(hn:n<=l.length)(hl:l.length<2^63) :
  ∃y,fE 1 u none (some (XE (n:Int))) g=.val y/\∀(h':H),(∀i,W5 u=some i->h'.get i=g.h.get i)->Xu (λi=>W5 u=some i) 0 h' (l.take n) y:=by
 by_cases hne:l=[]
 ·subst hne;have:n=0:=by simpa using hn
  subst this;rcases hu with⟨rfl,-⟩|⟨id,ep,lo,h1,h2,rfl,h3⟩
  ·exact⟨.XC,rfl,λh' _=>⟨hl,rfl⟩⟩
  ·simp only[fE,ip,h3,Yl,YO,ay,YT,aa,Yt,XH,if_true,aS,YU,Zo];simp only[cd];cases lo
   ·exact⟨.Wd,rfl,λh' _=>⟨hl,rfl⟩⟩
   ·exact⟨.WO 0 1 [],rfl,λh' _=>⟨hl,by decide,.inl rfl,trivial⟩⟩
 ·obtain⟨y,h1,-,h2⟩:=Hm (α:=Int) hu (by simpa using hne) (n:=n) (by simpa using hn);refine⟨y,h1,λh' hh=>h2 _ 0 l h' hh ?_⟩;have:=hu.sl (α:=Int) (P:=λi=>W5 u=some i) (k:=0) hl (VJ (λa=>aK.2 rfl) l) λi hi=>hi;exact this.far8 λi hi=>hh i hi
def r9(l:List Int)(i x:Int):List Int:=l.set i.toNat (max (l[i.toNat]?.getD 0) x)
def AL(f:Nat->Int)(N:Nat)(c:Nat->Bool)(x:Nat->Int):Nat->List Int
 |0=>List.replicate N 0
 |j+1=>if c j then r9 (AL f N c x j) (f j) (x j) else AL f N c x j
def qm(f:Nat->Int)(N:Nat)(c:Nat->Bool)(x:Nat->Int):∀j,(AL f N c x j).length=N
 |0=>by simp[AL]
 | j+1=>by
  rw[AL]
  split
  ·rw[r9,aaE,qm f N c x j]
  ·exact qm f N c x j
def JD:∀{i:Nat} {y:Int},i<l.length->(l.set i y).sum=l.sum - l[i]?.getD 0+y:=by
 induction l with
 |nil=>intro i y h;simp at h
 | cons a l ih =>
  intro i y h;cases i with
  |zero=>simp;omega
  | succ i =>simp only[aaa,ZH,ZY];rw[ih (by simpa using h)];omega
theorem xp{f:Nat->Int}{N:Nat}{c:Nat->Bool}{x:Nat->Int}{M:Int}{W:Nat}(hf:∀j,j<W->0<=f j/\f j<(N:Int))(hx:∀j,j<W->0<=x j/\x j<=M):∀j,j<=W->(∀y∈AL f N c x j,0<=y)/\(AL f N c x j).sum<=M*j
 | 0,_=>by simp only[AL];exact⟨λy k=>by rw[(ZT.1 k).2];exact Sq _,by simp⟩
 | j+1,h=>by
  obtain⟨a1,a2⟩:=xp (c:=c) hf hx j (by omega);have d:=hx j (by omega);have b:=hf j (by omega);have a:M*((j+1:Nat):Int)=M*j+M:=by rw[abv,R6];simp
  rw[AL,a]
  split
  ·have hlt:(f j).toNat<(AL f N c x j).length:=by rw[qm];omega
   have hg:(AL f N c x j)[(f j).toNat]?.getD 0=(AL f N c x j)[(f j).toNat]:=by rw[XJ hlt];rfl
   have e:=a1 _ (Zi hlt);refine⟨λy k=>?_,?_⟩
   ·rcases Zy k with k|rfl
    ·exact a1 y k
    ·omega
   ·rw[r9,JD hlt,hg];omega
  ·exact⟨a1,by omega⟩
def zu(n:Xb)(XF l:List Int)(w:Nat):Bool:=decide ((EP (EN (IO n) (w:Int)) XF).take l.length=l)
def AJ(n:Xb)(Xd:List Int):Nat:=(EO (EP (IO n) Xd)).toNat
def m6(n:Xb)(XF Xd mw l:List Int):Int:=(AL (zk n Xd) (AJ n Xd) (zu n XF l) (λw=>mw[w]?.getD 0) (C2 n)).sum
def yd(h:l[j]?=some x):(l.take (j+1)).sum=(l.take j).sum+x:=by have k:=(XI.1 h).1;rw[X4 k];rw[XJ k]at h;injection h with h;rw[h,aan];simp
theorem JF(h:∀y∈l,0<=y):∀j,0<=(l.take j).sum/\(l.take j).sum<=l.sum:=by
 induction l with
 |nil=>intro j;simp
 | cons a l ih =>
  intro j;have ha:=h a (by simp);have ih':=ih λy hy=>h y (by simp[hy]);cases j with
  |zero=>have:=ih' l.length;rw[XV]at this;simp;omega
  |succ j=>have:=ih' j;simp;omega
def LBd(p:Nat)(u:AV):List (Nat×AV):=[(3,Xq 0),(5,Xq 2),(6,Xq p),(7,u)]
def bn0[Xr]{p:Nat}{gr:List Int}{w':AV}{f:Int}{rd:Option Nat}{Q:QT}(hd:0<d)(hw:∀h,Xu Xt k2 h l w')(hl:l.length<=XB.length)(hvl:XB.length<=8)(hf:0<=f/\f<(N:Int))(hgl:gr.length=N)
  (g0:g.h.get 0=Xy 1 [[w']]) (g1:∃lo,g.h.get 1=.cells 1 (gr.map ci) 0 lo false) (g2:g.h.get 2=Xy 1 [[.Xj 1 0 0 N none]]) (gp:g.h.get p=Xy 2 [[XE f,XE x]]) (hu:Own g 5 u 1 (XB.map ci)) (hn:5<=g.nx)
  (ht:St t (LBd p u))
  (fin:∀t g',g.nx<=g'.nx->(∀i,i<g.nx->i≠1->g'.h.get i=g.h.get i)->(∃lo,g'.h.get 1=.cells 1 ((if decide (XB.take l.length=l)=true then r9 gr f x else gr).map ci) 0 lo false)->Q .norm t [] g'):wp C0 d rd cA Q t [] g:=by
 obtain⟨h3,h5,h6,h7,-⟩:=ht;obtain⟨lo,g1⟩:=g1;have lw:∀g:G,bC .slice w' g=.val (XE (l.length:Int)):=λg=>(hw .nil).len g;obtain⟨y,e,q⟩:=bn1 (g:=aQ g []) (b:=5) (u:=u) (l:=XB) (n:=l.length) (hu.fr (by simp) λi hi=>by simp) hl (by omega);have ke:=vP hd (q _ λi hi=>rfl) (hw _);have a:Own g 0 (.Xj 1 0 0 N none) 1 (gr.map ci):=.inr ⟨1,0,lo,by omega,by omega,by rw[XN,hgl],g1⟩;obtain⟨fn,rfl⟩:=XU hf.1;obtain⟨z,hz,-,-⟩:=af (l:=gr) (j:=fn) (by omega);have r:fn<(gr.map ci).length:=by rw[XN];omega
 have m:(gr.map ci)[fn]?=some (ci z):=by rw[XK,hz];rfl
 have k:r9 gr (fn:Int) x=gr.set fn (max z x):=by rw[r9,ZX,hz];rfl
 by_cases c:XB.take l.length=l
 ·simp only[sz,simprocAttr,cA,h7,h3,g0,lw,YD,Yz,e,ke,c];simp only[sz,simprocAttr,sf,h5,h6,g2,gp,a.rows,r,m,ci];refine bF (b:=0) (v:=.Xj 1 0 0 N none) (sz:=1) (n:=1) (i:=fn) (off:=0) (x:=XE (max z x)) (row:=ci z) (row':=ci (max z x)) (a.fr (by simp<;>omega) (λi' hi'=>by simp)) m rfl rfl rfl λg5 o5 n5 f5=>?_;rw[<-YS,<-k]at o5;have o:∀i',i'≠1->g5.h.get i'=g.h.get i':=λi' hi'=>by rw[f5 i' (by simpa [W5] using λh:1=i'=>hi' h.symm)];simp
  simp only[sy]at n5;simp only[sz,simprocAttr];refine⟨?_,?_⟩
  ·simp only[X7,X8,X3,XY];exact aE (KI (OO (true::[]))) [] (by simp[Xl,am,aC]) (by decide) (by simp)
  refine fin _ _ (by first|omega| (simp<;>omega)) (λi' h1 h2=>by simp[o i' h2]) ?_;rw[XO (by simpa using c)];rcases o5 with⟨h,-⟩|⟨id,ep,lo2,-,-,h,hg⟩
  ·cases h
  ·cases h;exact⟨lo2,by simpa using hg⟩
 ·simp only[sz,simprocAttr,cA,h7,h3,g0,lw,YD,Yz,e,ke,c];exact fin _ g (XH _) (λ_ _ _=>rfl) ⟨lo,by rw[XS (by simpa using c)];exact g1⟩
def bm_[Xr](hd:k<d)(hr:NR n)(hq:pD n XF Xd mw m k q)(hpv:∀x∈XF,0<=x/\x<(n.XD.length:Int))(hvl:XF.length<=8)(hpo:∀x∈Xd,0<=x/\x<(n.XD.length:Int))(hol:Xd.length<=8)(hmw:mw.length=C2 n)(hmb:∀x∈mw,0<=x/\x<=167961600000000)
  (hw:Xu P k2 g.h l w) (hl:l.length<=XF.length):ah C0 d 58 [q,w] g=.val (XE (m6 n XF Xd mw l)):=by
 have Y:=hq;obtain⟨t0,b,vw,ow,ww,e0,ht,hb,hv,ho,h6⟩:=Y;obtain⟨w',e2,C⟩:=aB hw d;have lw:∀g:G,bC .slice w' g=.val (XE (l.length:Int)):=λg=>(C .nil).len g;have z:=aZ (ps:=Xd) hr.cs (λp hpm=>by rw[ap];exact hpo p hpm);have h5:(EP (IO n) Xd).length=Xd.length:=by simp[EP]
 have T:Wq (EP (IO n) Xd):=⟨z,by omega⟩;obtain⟨N1,N2,N3⟩:=T.nc;have hN:EK (EP (IO n) Xd)=AJ n Xd:=rfl;rw[hN]at N1 N2 N3;have o:0<d+1:=XR d;rw[WL];refine cq rR (xs:=[q,w']) (by rw[e0];simp only[aD,e2,fj]) (by simp[eO]) (by omega) ?_;subst e0;have rbx:=Ay (C .nil);simp only[sz,simprocAttr,eO,iJ,rbx,fK,bZ,bj];refine aG (Bc o hq hpo (ho.tree (XH _)) hol) λrc hrc=>?_;simp only[sz,simprocAttr,xg o (hrc.sl .nil |>.wide (P:=Xt) (k':=0) (XH 0))];rw[gE z (by omega),<-N3];refine P9 N2 λg1 m1 n1 u1=>?_;rw[show (G.empty.new (Xy 1 [[w']])).nx=1 from rfl]at m1 n1 u1 ⊢;have b1:g1.h.get 0=Xy 1 [[w']]:=by rw[u1.1 0 (by omega)];simp[VO,show G.empty.nx=0 from rfl]
 clear u1;simp only[sz,simprocAttr,n1];refine aG (Q:=λr=>∃tg,r=.W_ 132 [] [.Xn tg 1 [[.Xn t0 6 [[XE n.Xz,b,vw,ow,ww,XE m]] 0 0]] 0 0]) (by obtain⟨tg,h⟩:=y6 (g:=(g1.new (Xy 1 [[.XC]])).put (1+1) (Xy 1 [[.Xj 1 0 0 (AJ n Xd) none]])) (aaS hd) hq;exact⟨_,h,tg,rfl⟩) ?_;rintro r ⟨tg,rfl⟩;have c0:((g1.new (Xy 1 [[.XC]])).put (1+1) (Xy 1 [[.Xj 1 0 0 (AJ n Xd) none]])).h.get 0=Xy 1 [[w']]:=by simp[VO,n1,b1]
 have c1:((g1.new (Xy 1 [[.XC]])).put (1+1) (Xy 1 [[.Xj 1 0 0 (AJ n Xd) none]])).h.get 1=Xy 1 ((List.replicate (AJ n Xd) 0).map ci):=by rw[G.put_h,aq,G.new_h,aq,m1]
 have c2:((g1.new (Xy 1 [[.XC]])).put (1+1) (Xy 1 [[.Xj 1 0 0 (AJ n Xd) none]])).h.get 2=Xy 1 [[.Xj 1 0 0 (AJ n Xd) none]]:=by simp[VO]
 have J:((g1.new (Xy 1 [[.XC]])).put (1+1) (Xy 1 [[.Xj 1 0 0 (AJ n Xd) none]])).nx=3:=by simp[n1]
 generalize (g1.new (Xy 1 [[.XC]])).put (1+1) (Xy 1 [[.Xj 1 0 0 (AJ n Xd) none]])=g2 at c0 c1 c2 J ⊢;simp only[sz,simprocAttr];refine yV (n:=n) (XF:=XF) (Xd:=Xd) (mw:=mw) (m:=m) (k:=k) (tg:=tg) o hr hq hpv hvl hpo hol hmw (by simp[sx]) (by decide) (by decide)
  (λj g'=>g'.h.get 0=Xy 1 [[w']]/\(∃lo,g'.h.get 1=.cells 1 ((AL (zk n Xd) (AJ n Xd) (zu n XF l) (λw=>mw[w]?.getD 0) j).map ci) 0 lo false)/\g'.h.get 2=Xy 1 [[.Xj 1 0 0 (AJ n Xd) none]]) ?_ ⟨c0,⟨false,c1⟩,c2⟩ ?_ ?_
 ·rintro j g3 g4 R ⟨a1,a2,D⟩;exact⟨by rw[R _ (by omega),a1],by rw[R _ (by omega)];exact a2,by rw[R _ (by omega),D]⟩
 ·rintro j x u g3 H hx ⟨a1,⟨lo,a2⟩,D⟩ X hu;rw[J]at X hu;simp only[sz,simprocAttr,gM];refine⟨?_,λg5 n5 f5=>?_⟩
  ·exact Pm _ _ _
  rw[J]at f5 ⊢;have h3:(EP (EN (IO n) (j:Int)) XF).length=XF.length:=by simp[EP]
  have B:=bm (λc hc=>(hr.cs c hc).1) (j:Int);have hf:=bz z (dB B (λp hpm=>by rw[ap];exact hpo p hpm));rw[<-N3]at hf;have E:∀i,i<g3.nx->i≠4->g5.h.get i=g3.h.get i:=λi h1 h2=>by rw[f5 i (by omega),aJ,aJ]
  refine bn0 (p:=g3.nx) (N:=AJ n Xd) (XB:=EP (EN (IO n) (j:Int)) XF) (l:=l) (gr:=AL (zk n Xd) (AJ n Xd) (zu n XF l) (λw=>mw[w]?.getD 0) j) (w':=w') (u:=u) (f:=zk n Xd j) (x:=x) o C (by omega) (by omega) hf (qm _ _ _ _ _) (by rw[E 0 (by omega) (by omega),a1]) ⟨lo,by rw[E 1 (by omega) (by omega),a2]⟩ (by rw[E 2 (by omega) (by omega),D]) (by rw[f5 _ (by omega),XO rfl]) (hu.fr (by omega) λi hi=>by have:=hu.lt hi;exact E i (by omega) (by omega)) (by omega) (by simp[St,LBd,sx]) ?_;intro t6 g6 n6 K h7;refine⟨rfl,n6,λi h1 h2=>K i h2 (by omega),.inl ⟨rfl,by rw[K 0 (by omega) (by omega),E 0 (by omega) (by omega),a1],?_,by rw[K 2 (by omega) (by omega),E 2 (by omega) (by omega),D]⟩⟩;rw[AL,hx];exact h7
 ·rintro g' ⟨a1,⟨lo,a2⟩,D⟩ hn U;obtain⟨GR,e⟩:∃GR,GR=AL (zk n Xd) (AJ n Xd) (zu n XF l) (λw=>mw[w]?.getD 0) (C2 n):=⟨_,rfl⟩;rw[<-e]at a2;have hB:=xp (f:=zk n Xd) (N:=AJ n Xd) (c:=zu n XF l) (x:=λw=>mw[w]?.getD 0) (M:=167961600000000) (W:=C2 n) (λj _=>by
   have B:=bm (λc hc=>(hr.cs c hc).1) (j:Int);have hf:=bz z (dB B (λp hpm=>by rw[ap];exact hpo p hpm));rw[<-N3]at hf;exact hf) (λj H=>by
   obtain⟨y,I,-,Z⟩:=af (l:=mw) (j:=j) (by omega);rw[I];exact hmb y Z) (C2 n) (XH _)
  rw[<-e]at hB;have h4:=hr.wl.2.1;have V:GR.length=AJ n Xd:=by rw[e,qm]
  have F:m6 n XF Xd mw l=GR.sum:=by rw[e];rfl
  have hO:Own g' 0 (.Xj 1 0 0 (AJ n Xd) none) 1 (GR.map ci):=.inr ⟨1,0,lo,by omega,by omega,by rw[XN,V],a2⟩;have lG:bC .slice (.Xj 1 0 0 (AJ n Xd) none) g'=.val (XE (GR.length:Int)):=by have:=(hO.sl (α:=Int) (P:=λ_=>True) (k:=0) (by omega) (VJ (λa=>aK.2 rfl) _) λ_ _=>trivial).len g';exact this
  have ru:=hO.rows;simp only[sz,simprocAttr,gP,D,lG,gN];refine aT (m:=GR.length) (by omega) (λj t df g=>df=[.mark g2.nx]/\g=g'/\St t [(41,.Xj 1 0 0 (AJ n Xd) none),(8,XE ((GR.take j).sum))]) ⟨rfl,rfl,by simp[St,sx]⟩ (by simp[sx]) (by simp[sx]) (by decide)
   (by rintro j t df g v s (rfl|rfl|rfl)<;>simp[sx,St]) ?_ ?_
  ·rintro j t df g H ⟨rfl,rfl,A,h8,-⟩ O L;obtain⟨y,I,-,-⟩:=af H;have z1:j<(GR.map ci).length:=by simpa using H
   have z2:(GR.map ci)[j]?=some (ci y):=by rw[XK,I];rfl
   have s1:=yd I;have s2:=JF hB.1 (j+1);have w1:IntKind.wrap .i64 ((GR.take j).sum+y)=(GR.take (j+1)).sum:=by rw[<-s1,an]
   simp only[sz,simprocAttr,A,O,ru,z1,z2,ci,h8,w1];simp[St,sx,A,L]
  ·rintro t df g ⟨rfl,rfl,A,h8,-⟩;rw[XV]at h8;simp only[sz,simprocAttr,gO,h8,F];show mN C0 (d+1) [.tm 4] _ [.mark g2.nx] g λv x=>v=XE GR.sum;refine lB U ?_;simp[vp,sx,fg]
theorem D7{kv:Nat}{r:AV}(h:Si n e XF Xt kv .nil r):(zw n e XF=0/\∃p,r=.WM [p,XE 0]/\pD n XF (CZ n XF) (BP n e) (rK n e) kv p)\/(zw n e XF≠0/\r=.WM [.WQ,XE (zw n e XF)]):=by
 unfold Si at h
 split at h
 ·rename_i c;obtain⟨p,q,rfl,h1,h2⟩:=h;have h2:=aK.1 h2;injection h2 with h2;exact .inl ⟨c,p,by rw[h2],bn8 h1⟩
 ·rename_i c;obtain⟨p,q,rfl,h1,h2⟩:=h;have h2:=aK.1 h2;injection h2 with h2;have h1:p=.WQ:=h1;exact .inr ⟨c,by rw[h2,h1]⟩
def tf:zw n e XF=0↔(NR n/\zq n e=true)/\CY XF (n.XD.length:Int)=true:=by
 unfold zw
 split
 ·rename_i c;rw[wT,lT]at c;cases CY XF (n.XD.length:Int)<;>simp[c]
 ·rename_i c;constructor
  ·intro h;exact absurd h c
  ·rintro⟨⟨h1,h2⟩,-⟩;exact absurd (wT.2 ⟨lT.2 h1,h2⟩) c
theorem jr:∀x∈CZ n XF,0<=x/\x<(n.XD.length:Int):=by intro x hx;have h:=(List.mem_filter.1 hx).1;obtain⟨i,hi,rfl⟩:=Ys.1 h;have:=X0.1 hi;omega
def Aq(hr:NR n)(w:Nat):0<=BJ n w/\BJ n w<=167961600000000:=rf hr (bm (λc hc=>(hr.cs c hc).1) (w:Int))
def A6(hr:NR n)(e:List Int):∀x∈BP n e,0<=x/\x<=167961600000000:=by
 intro x hx;obtain⟨w,-,rfl⟩:=Ys.1 hx;unfold i7
 split
 ·omega
 ·exact Aq hr w
def Cs{w:Nat}(h:w<C2 n):(BP n e)[w]?=some (if BK n e w then BJ n w else 0):=by simp only[BP,zm,XK,ZO h,YR,i7];cases c:BK n e w<;>simp[h]
def xF[Xr]{n:Nat}{rd:Option Nat}:(cI C0 (.makeInterface 175 (.tmp n))).run (I C0) d rd t g=.val (.V9 175 (Xs t n)):=by
 have h:(cI C0 (.makeInterface 175 (.tmp n))).run (I C0) d rd t g=.val (.V9 175 ((gp AV.undef n).run t)):=by kernel_rfl
 rw[h,Wz];rfl
def xq:AV->Prop:=λv=>∃x,v=.V9 175 x
def bm9[Xr]{XB:List Int}{K KP:AV->G->Prop}(hd:0<d)(hq:pD n XF Xd mw m k q)(hp:CY XF (n.XD.length:Int)=true)(hpv:∀h,Xu Xt k h proof pv)
  (kk:proof.all (BI n XF)=true->∀g',Fr g g'->K (.WM []) g') (kp:proof.all (BI n XF)=false->∀v g',xq v->Fr g g'->KP v g') :
  We C0 d 74 [.agg [q,vv,pv]] g K KP:=by
 let⟨rows,w,C,x,D⟩:=gC (hpv .nil);refine xk tK (by simp[fm]) ?_;unfold fm;dsimp only;refine bg (by kernel_rfl) ?_;simp only[sz,simprocAttr];obtain⟨g1,p⟩:∃g1,g1=g.new (Xy 3 [[q,vv,pv]]):=⟨_,rfl⟩;rw[<-p];have hl:∀g:G,bC .slice pv g=.val (XE (proof.length:Int)):=λg=>(hpv .nil).len g;obtain⟨B,hB⟩:∃B,B=g.nx:=⟨_,rfl⟩;rw[<-hB];have g0:g1.h.get B=Xy 3 [[q,vv,pv]]:=by rw[p,hB];simp[VO]
 have r:Fr g g1:=by rw[p];exact Fr.new _ _
 clear p;have ld0:a_ (Xy 3 [[q,vv,pv]]) 0 0 false 1 0=.val q:=rfl;have ld2:a_ (Xy 3 [[q,vv,pv]]) 0 0 false 1 2=.val pv:=rfl;unfold jv;refine bg (by kernel_rfl) ?_;simp only[sz,simprocAttr,g0,ld2,hl];rw[ux,xe];unfold iC iD;refine uw (hpv .nil).1 (λj t df g'=>df=[]/\g'=g1/\St t [(1,Xq B),(5,pv)]/\∀i,i<j->∀b,proof[i]?=some b->BI n XF b=true) ⟨rfl,rfl,by simp[St,sx],λi h=>absurd h (aao i)⟩ (by simp[sx]) (by simp[sx]) (by decide)
  (by rintro j t df g v s (rfl|rfl|rfl) ⟨a1,a2,⟨b1,b2,-⟩,c⟩<;>exact⟨a1,a2,by simp[St,sx,b1,b2],c⟩) ?_ ?_
 ·rintro j t df g' u ⟨rfl,rfl,⟨h1,h5,-⟩,a⟩ h7 h6;obtain⟨b,hb,-,-⟩:=af u;obtain⟨z,y,A,hz⟩:=x j b hb;have kb:=λg:G=>Iy (d:=d) (g:=g) (l:=b) hd hq hp (hz.tree (h':=g.h) (XH _));refine bg (by kernel_rfl) ?_;simp only[sz,simprocAttr,h5,h7,w,y,A];refine bg (by kernel_rfl) ?_;simp only[sz,simprocAttr,h1,g0,ld0,kb];rw[eD]
  by_cases c:BI n XF b=true
  ·rw[c];simp only[sz,simprocAttr];rw[mJ];refine⟨⟨rfl,rfl,by simp[St,sx,h1,h5],λi hi b' f=>?_⟩,by simp[sx,h7],by simp[sx,h6]⟩
   by_cases e:i=j
   ·subst e;rw[hb]at f;cases f;exact c
   ·exact a i (by omega) b' f
  ·have c':BI n XF b=false:=by simpa using c
   rw[c'];simp only[sz,simprocAttr];show Nu C0 d ([oM 17 2,o 18 (.build [XE 0] [(0,1)] [.t 17]),o 19 (.raw (.makeInterface 175 (.tmp 18)))]++[oz (.raw (.panic (.tmp 19)))]) _ _ _ _;refine uy (by kernel_rfl) ?_;simp only[sz,simprocAttr,xF];refine CD (ty:=175) (v:=.agg [XE (j:Int)]) (by simp[sx]) ?_;refine kp ?_ _ _ ⟨_,rfl⟩ r;rw[ZJ];intro h;have:=XQ.1 h b (XL hb);rw[c']at this;cases this
 ·rintro t df g' ⟨rfl,rfl,-,a⟩;rw[pi,XO rfl];show mN C0 d [] t [] g' K;simp only[sz,simprocAttr];refine kk ?_ g' r;rw[XQ];intro b hb;let⟨i,hi⟩:=Yd hb;exact a i (XI.1 hi).1 b hi
def AO(x y:Int):Int:=if x<y then -1 else if y<x then 1 else 0
def zt:List Int->List Int->Int
 |a::l,b::m=>if AO a b≠0 then AO a b else zt l m
 |_,_=>0
def L4{m:List Int}{y:Int}(ht:l.take j=m.take j)(hx:l[j]?=some x)(hy:m[j]?=some y)(h:AO x y≠0):zt l m=AO x y:=by
 induction j generalizing l m with
 | zero =>
  cases l with
  |nil=>cases hx
  | cons a l=>cases m with
   |nil=>cases hy
   | cons b m =>
    have e1:a=x:=by simpa using hx
    have e2:b=y:=by simpa using hy
    rw[zt,e1,e2,XO h]
 | succ j ih =>
  cases l with
  |nil=>cases hx
  | cons a l=>cases m with
   |nil=>cases hy
   | cons b m =>
    rw[Z4,Z4]at ht;injection ht with e1 e2;have e3:AO a b=0:=by rw[e1];simp[AO]
    rw[zt,e3,XS (by simp)];exact ih e2 (by simpa using hx) (by simpa using hy)
def xu(l:List Int):zt l l=0:=by
 induction l with
 |nil=>rfl
 |cons a l ih=>rw[zt,XS (by simp[AO]),ih]
def LQ[Xr](hd:0<d)(x:Int)(g:G):ah C0 d 111 [XE x] g=.val (.bool false):=by rw[WL];refine cM BV (xs:=[XE x]) (by simp only[aD,cP 0]) (by simp[n_]) hd ?_;simp only[sz,simprocAttr,n_]
theorem bm8[Xr](hd:0<d)(x y:Int)(g:G):ah C0 d 80 [XE x,XE y] g=.val (XE (AO x y)):=by
 rw[WL];refine cq zB (xs:=[XE x,XE y]) (by simp only[aD,cP 0]) (by simp[ei]) hd ?_;have h:=λg=>LQ (XR d) x g;have k2:=λg=>LQ (XR d) y g
 by_cases h1:x<y
 ·have e:AO x y = -1:=XO h1;rw[e];simp only[sz,simprocAttr,ei,h,k2,h1]
 ·by_cases h2:y<x
  ·have e:AO x y=1:=by rw[AO,XS h1,XO h2]
   rw[e];simp only[sz,simprocAttr,ei,h,k2,h1,h2]
  ·have e:AO x y=0:=by rw[AO,XS h1,XS h2]
   rw[e];simp only[sz,simprocAttr,ei,h,k2,h1,h2]
def bm7[Xr]{m:List Int}(hd:0<d)(hl:Xu P k g.h l v)(hm:Xu P2 k2 g.h m w)(hlm:l.length=m.length):ah C0 d 106 [v,w] g=.val (XE (zt l m)):=by
 obtain⟨v',e1,b⟩:=aB hl d;obtain⟨w',e2,f⟩:=aB hm d;have lv:=(b .nil).len;have lw:∀g:G,bC .slice w' g=.val (XE (l.length:Int)):=λg=>by have:=(f .nil).len g;rwa [<-hlm]at this
 have rv:=λh=>(b h).ints;have rw':=λh=>(f h).ints;rw[WL];refine cq rT (xs:=[v',w']) (by simp only[aD,e1,e2]) (by simp[eS]) hd ?_;simp only[sz,simprocAttr,eS,lv,gX];refine aT (m:=l.length) hl.1 (λj t df g=>df=[]/\St t [(0,v'),(1,w'),(9,v')]/\l.take j=m.take j) ⟨rfl,by simp[St,sx],by simp⟩ (by simp[sx]) (by simp[sx]) (by decide)
  (by rintro j t df g v s (rfl|rfl|rfl) ⟨a1,⟨b1,b2,A,-⟩,c⟩<;>exact⟨a1,by simp[St,sx,b1,b2,A],c⟩) ?_ ?_
 ·rintro j t df g o ⟨rfl,⟨h0,h1,h9,-⟩,ht⟩ a Xp;obtain⟨x,hx,i,-⟩:=af o;obtain⟨y,p,n,-⟩:=af (l:=m) (j:=j) (by omega);have u:j<(l.map ci).length:=by simpa using o
  have z:(l.map ci)[j]?=some (ci x):=by rw[XK,hx];rfl
  have q:j<(m.map ci).length:=by rw[XN];omega
  have r:(m.map ci)[j]?=some (ci y):=by rw[XK,p];rfl
  have d1:¬(l.length:Int)<=(j:Int):=by omega
  have kc:=λg=>bm8 (XR d) x y g
  by_cases c:AO x y=0
  ·have e:x=y:=by
    unfold AO at c
    split at c
    ·cases c
    ·split at c
     ·cases c
     ·omega
   simp only[sz,simprocAttr,h1,h9,a,rv,rw',u,z,q,r,ci,lw,d1,kc,c];exact⟨⟨by simp[St,sx,h0,h1,h9],by rw[i,n,ht,e]⟩,by simp[Xp]⟩
  ·rw[L4 ht hx p c];simp only[sz,simprocAttr,h1,h9,a,rv,rw',u,z,q,r,ci,lw,d1,kc,c]
 ·rintro t df g ⟨rfl,⟨h0,h1,-⟩,ht⟩;rw[XV,hlm,XV]at ht;subst ht;rw[xu];simp only[sz,simprocAttr,gY,h0,h1,lv,lw,aaB]
def Ew(hw:Xu Xt k .nil l w)(h1:K6 w){c:Nat}(hc:c<=l.length) :
  ∃w',(∀g,fE 1 w none (some (XE (c:Int))) g=.val w')/\Xu Xt k .nil (l.take c) w':=by
 by_cases hne:l=[]
 ·subst hne;have:c=0:=by simpa using hc
  subst this;have hl:=hw.1;have h:=hw.2;unfold Oe at h
  split at h
  ·exact⟨.XC,λg=>rfl,hl,rfl⟩
  ·exact⟨.Wd,λg=>rfl,hl,rfl⟩
  ·rename_i t s rows;obtain⟨h0,-,h2⟩:=h;have hs:=h1 t s rows rfl;subst hs;have:rows=[]:=by have:=h2.len;simpa using this.symm
   subst this;exact⟨.WO t 1 [],λg=>rfl,hl,h0,.inl rfl,trivial⟩
  ·exact h.1.elim
  ·exact h.elim
 ·exact Vp hw hne hc
def mF[Xr](hd:0<d)(hm:WG n Xt 0 g.h v)(hw:Xu P2 k2 g.h l w)(hn:n.XD.length<=8)(hll:l.length<=1000)(hin:∀x∈l,0<=x/\x<(n.XD.length:Int)) :
  ∃r,ah C0 d 62 [v,w] g=.val r/\IT 0 (EP (IO n) l) r:=by
 obtain⟨b,rows,rfl,e1,k,hN,-⟩:=cg d hm;obtain⟨w',e2,a⟩:=aB hw d;rw[WL];refine aP Do (xs:=[.agg [XE n.Xz,b],w']) (by simp only[aD,e1,e2]) (by simp[qW]) (aI _) (by decide) hd ?_;simp only[sz,simprocAttr,qW,uR];refine aG (xD (n:=n) (XR d) (k _) (by omega)) λrc hrc=>?_;simp only[sz,simprocAttr];refine aG (Hg (l:=IO n) (p:=l) (XR d) (hrc.sl _) (a _) (by omega) (by rw[ap];exact hin)) λr hr=>?_;simp only[sz,simprocAttr];exact⟨Xt,_,rfl,hr.sl _⟩
def g9(cs vs:List Int)(i:Nat):Bool:=decide (0<=vs[i]?.getD 0)&&decide (vs[i]?.getD 0<cs[i]?.getD 0)
def i3(cs vs:List Int):Bool:=decide (vs.length=cs.length)&&(List.range vs.length).all (g9 cs vs)
def bm6[Xr]{vs:List Int}(hd:0<d)(hv:Xu P k g.h cs v)(hw:Xu P2 k2 g.h vs w) :
  ah C0 d 61 [v,w] g=.val (.bool (i3 cs vs)):=by
 obtain⟨v',e1,f⟩:=aB hv d;obtain⟨w',e2,i⟩:=aB hw d;have lv:=(f .nil).len;have lw:=(i .nil).len;have rv:=λh=>(f h).ints;have rw':=λh=>(i h).ints;rw[WL];refine cM vM (xs:=[v',w']) (by simp only[aD,e1,e2]) (by simp[eh]) hd ?_
 by_cases c:vs.length=cs.length
 ·have c':(vs.length:Int)=(cs.length:Int):=by omega
  simp only[sz,simprocAttr,eh,j_,lv,lw,c'];refine aU vs.length hw.1 (λj t df g=>df=[]/\St t [(0,v'),(1,w')]/\(List.range j).all (g9 cs vs)=true) ⟨rfl,by simp[St,sx],rfl⟩ (by simp[sx]) (by decide) (by rintro j t df g v s (rfl|rfl|rfl)<;>simp[St,sx]) ?_ ?_ ?_
  ·rintro j t df g e ⟨rfl,⟨h0,h1,-⟩,b⟩ h5;simp only[sz,simprocAttr,h0,h1,h5,lw,St,b]
  ·rintro j t df g e ⟨rfl,⟨h0,h1,-⟩,b⟩ h5;obtain⟨x,hx,-,-⟩:=af e;obtain⟨y,n,-,-⟩:=af (l:=cs) (j:=j) (by omega);have m:j<(vs.map ci).length:=by simpa using e
   have q2:j<(cs.map ci).length:=by rw[XN];omega
   have q3:(vs.map ci)[j]?=some (ci x):=by rw[XK,hx];rfl
   have o:(cs.map ci)[j]?=some (ci y):=by rw[XK,n];rfl
   have a:g9 cs vs j=(decide (0<=x)&&decide (x<y)):=by simp[g9,hx,n]
   by_cases hx0:x<0
   ·simp only[sz,simprocAttr,h1,h5,rw',m,q3,ci,hx0];have:g9 cs vs j=false:=by rw[a];simp;omega
    simp[i3,dI e this]
   ·by_cases hxy:y<=x
    ·simp only[sz,simprocAttr,h0,h1,h5,rv,rw',m,q2,q3,o,ci,hx0,hxy];have:g9 cs vs j=false:=by rw[a];simp;omega
     simp[i3,dI e this]
    ·simp only[sz,simprocAttr,h0,h1,h5,rv,rw',m,q2,q3,o,ci,hx0,hxy,St];rw[bS,b,a];simp;omega
  ·rintro t df g ⟨rfl,⟨h0,h1,-⟩,b⟩;simp only[sz,simprocAttr,kg];rw[i3,b,Yj c];rfl
 ·have c':¬(vs.length:Int)=(cs.length:Int):=by omega
  have hf:i3 cs vs=false:=by simp[i3,c]
  simp only[sz,simprocAttr,eh,lv,lw,c',hf]
def bm5(n:Xb)(XF l:List Int):BI n XF l=(decide (l.length<=XF.length)&&i3 (EP (IO n) (XF.take l.length)) l):=by
 unfold BI i3
 by_cases c:l.length<=XF.length
 ·have h1:l.length=(EP (IO n) (XF.take l.length)).length:=by simp[EP];omega
  rw[Yj h1,YO];congr 1;apply Z0.2;simp only[XQ,X0];refine forall_congr' λi=>forall_congr' λhi=>?_;have:(EP (IO n) (XF.take l.length))[i]?=(EP (IO n) XF)[i]?:=by simp[EP,hi]
  simp[i4,g9,this]
 ·simp[c]
def Mm[Xr]{P3:Nat->Prop}(hd:0<d)(hm:WG n Xt 0 g.h v)(hv:Xu P2 k2 g.h XF u)(hv1:K6 u)(hw:Xu P3 k3 g.h l w)(hr:NR n)(hp:CY XF (n.XD.length:Int)=true) :
  ah C0 d 21 [v,u,w] g=.val (.bool (BI n XF l)):=by
 obtain⟨b,rows,rfl,e1,f,hN,-⟩:=cg d hm;obtain⟨u',e2,k,i⟩:=Ce hv hv1 d;obtain⟨w',e3,a⟩:=aB hw d;have lu:=(k .nil).len;have lw:=(a .nil).len;have e:=hr.l2;have j:=bc hp (by omega);rw[WL];refine cM yD (xs:=[.agg [XE n.Xz,b],u',w']) (by simp only[aD,e1,e2,e3]) (by simp[fJ]) hd ?_;rw[bm5]
 by_cases c:XF.length<l.length
 ·have c':(XF.length:Int)<(l.length:Int):=by omega
  have hf:decide (l.length<=XF.length)=false:=by simp;omega
  simp only[sz,simprocAttr,fJ,ig,lu,lw,c',hf,abB]
 ·have c':¬(XF.length:Int)<(l.length:Int):=by omega
  have hf:decide (l.length<=XF.length)=true:=by simp;omega
  obtain⟨y,m,o⟩:=Ew (c:=l.length) (k .nil) i (by omega);simp only[sz,simprocAttr,fJ,ig,lu,lw,c',hf,YO,YD,Yz,m];refine aG (mF (n:=n) (l:=XF.take l.length) (XR d) (f _) (o.wide (P:=Xt) (XH _)) e (by rw[X5];omega) λx hx=>aO hp x (Ym hx)) λrc hrc=>?_;have kc:=λg:G=>bm6 (d:=d+1) (g:=g) (cs:=EP (IO n) (XF.take l.length)) (vs:=l) (XR d) (hrc.sl g.h) (a g.h);simp only[sz,simprocAttr,kc]
def bm4[Xr](hd:0<d)(hm:WG n Xt 0 g.h v)(he:Xu P2 k2 g.h e w) :
  ah C0 d 59 [v,w] g=.val (XE (xM n e)):=by
 obtain⟨b,rows,rfl,e1,a,hN,-⟩:=cg d hm;obtain⟨w',e2,c⟩:=aB he d;have f:=λg:G=>NX (d:=d+1) (g:=g) (XR d) (a g.h);have k2:=λg:G=>QL (d:=d+1) (g:=g) (P:=Xt) (k:=0) (XR d) (a g.h) (c g.h);rw[WL];refine cq Dk (xs:=[.agg [XE n.Xz,b],w']) (by simp only[aD,e1,e2]) (by simp[iS]) hd ?_;rw[xM];cases c1:zo n with
 |false=>simp only[sz,simprocAttr,iS,jd,f,c1]
 | true=>cases c2:zq n e with
  |false=>simp only[sz,simprocAttr,iS,jd,f,c1,k2,c2]
  |true=>simp only[sz,simprocAttr,iS,jd,f,c1,k2,c2]
def Mo[Xr]{P3:Nat->Prop}(hd:0<d)(hm:WG n Xt 0 g.h v)(he:Xu P2 k2 g.h e w)(hv:Xu P3 k3 g.h XF u) :
  ah C0 d 20 [v,w,u] g=.val (XE (zw n e XF)):=by
 obtain⟨b,rows,rfl,e1,k,hN,-⟩:=cg d hm;obtain⟨w',e2,f⟩:=aB he d;obtain⟨u',e3,a⟩:=aB hv d;have lN:=(hN.tree (h':=.nil) (XH 0)).len;have i:=λg:G=>bm4 (d:=d+1) (g:=g) (XR d) (k g.h) (f g.h);have k2:=λg:G=>Ep (d:=d+1) (g:=g) (n:=(n.XD.length:Int)) (XR d) (a g.h);rw[WL];refine cq B4 (xs:=[.agg [XE n.Xz,b],w',u']) (by simp only[aD,e1,e2,e3]) (by simp[fW]) hd ?_;rw[zw]
 by_cases c:xM n e=0
 ·cases c2:CY XF (n.XD.length:Int) with
  |false=>simp only[sz,simprocAttr,fW,gw,i,c,lN,k2,c2]
  |true=>simp only[sz,simprocAttr,fW,gw,i,c,lN,k2,c2]
 ·simp only[sz,simprocAttr,fW,gw,i,c]
def BO(n:Xb)(XF Xd mw XB l:List Int)(wt:Int):Bool:=decide (l=XB) || (decide (m6 n XF Xd mw l<wt) || (decide (m6 n XF Xd mw l=wt)&&decide (0<zt l (XB.take l.length))))
def bm3[Xr]{P3:Nat->Prop}{wt:Int}(hd:k<d)(hr:NR n)(hq:pD n XF Xd mw m k q)(hpv:∀x∈XF,0<=x/\x<(n.XD.length:Int))(hvl:XF.length<=8)(hpo:∀x∈Xd,0<=x/\x<(n.XD.length:Int))(hol:Xd.length<=8)(hmw:mw.length=C2 n)(hmb:∀x∈mw,0<=x/\x<=167961600000000)
  (hw:Xu P k2 g.h l w) (hl:l.length<=XF.length) (hv:Xu P3 k3 g.h XB v) (hv1:K6 v) (hlv:l.length<=XB.length) :
  ah C0 d 71 [q,w,v,XE wt] g=.val (.bool (BO n XF Xd mw XB l wt)):=by
 obtain⟨w',e2,a⟩:=aB hw d;obtain⟨v',e3,f,i⟩:=Ce hv hv1 d;have e:=XR d;have lw:=(a .nil).len;have j:=hq;obtain⟨t0,b,vw,ow,ww,e0,-⟩:=j;have ke:=λg:G=>vP (d:=d+1) (g:=g) e (a g.h) (f g.h);have kb:=λg:G=>bm_ (d:=d+1) (g:=g) (aaS hd) hr hq hpv hvl hpo hol hmw hmb (a g.h) hl;obtain⟨y,o,p⟩:=Ew (c:=l.length) (f .nil) i hlv;have kc:=λg:G=>bm7 (d:=d+1) (g:=g) e (a g.h) (p.tree (h':=g.h) (XH _)) (by rw[X5];omega);rw[WL];refine cM iy (xs:=[q,w',v',XE wt]) (by rw[e0];simp only[aD,e2,e3,fj,cP 0]) (by simp[be]) (by omega) ?_
 by_cases c:l=XB
 ·have hc:BO n XF Xd mw XB l wt=true:=by rw[BO,Yj c,ZV]
  rw[hc];rw[Yj c]at ke;simp only[sz,simprocAttr,be,ke]
 ·rw[Yq c]at ke
  by_cases c1:m6 n XF Xd mw l<wt
  ·have hc:BO n XF Xd mw XB l wt=true:=by rw[BO,Yj c1,ZV,abq]
   rw[hc];simp only[sz,simprocAttr,be,ke,kb,c1]
  ·by_cases c2:m6 n XF Xd mw l=wt
   ·have hc:BO n XF Xd mw XB l wt=decide (0<zt l (XB.take l.length)):=by rw[BO,Yq c,Yq c1,Yj c2,aaA,aaA,YO]
    rw[hc];simp only[sz,simprocAttr,be,ke,kb,c2,lw,YD,Yz,o,kc,aaB]
   ·have hc:BO n XF Xd mw XB l wt=false:=by rw[BO,Yq c,Yq c1,Yq c2,aaA,aaA,abB]
    rw[hc];simp only[sz,simprocAttr,be,ke,kb,c1,c2]
def KT{h:H}(r:Xu P k h l v)(hne:l≠[]):K6 v:=by
 intro t s rows e;subst e;have r:=r.2;unfold Oe at r;obtain⟨-,h1,h2⟩:=r;have a:=h2.len;rcases h1 with e|e
 ·exact e
 ·rw[e]at a;exact absurd (Zq.1 (by simpa using a)) hne
def yw[Xr]{P3:Nat->Prop}{wt:Int}(hd:k<d)(hr:NR n)(hq:pD n XF Xd mw m k q)(hpv:∀x∈XF,0<=x/\x<(n.XD.length:Int))(hvl:XF.length<=8)(hpo:∀x∈Xd,0<=x/\x<(n.XD.length:Int))(hol:Xd.length<=8)(hmw:mw.length=C2 n)(hmb:∀x∈mw,0<=x/\x<=167961600000000)
  (hw:Xu P k2 g.h l w) (hl:l.length<=XF.length) (hv:Xu P3 k3 g.h XB v) (hlv:l.length<=XB.length) :
  ah C0 d 71 [q,w,v,XE wt] g=.val (.bool (BO n XF Xd mw XB l wt)):=by
 by_cases hne:XB=[]
 ·subst hne;have a:l=[]:=Zq.1 (Nat.le_zero.1 hlv);subst a;have hc:BO n XF Xd mw [] [] wt=true:=by rw[BO,Yj rfl,ZV]
  let⟨w',e2,e⟩:=aB hw d;let⟨v',e3,c⟩:=aB hv d;obtain⟨t0,b,vw,ow,ww,e0,-⟩:=hq;have ke:=λg:G=>vP (d:=d+1) (g:=g) (XR d) (e g.h) (c g.h);rw[WL,hc];refine cM iy (xs:=[q,w',v',XE wt]) (by rw[e0];simp only[aD,e2,e3,fj,cP 0]) (by simp[be]) (by omega) ?_;simp only[sz,simprocAttr,be,ke]
 ·exact bm3 hd hr hq hpv hvl hpo hol hmw hmb hw hl hv (KT hv hne) hlv
def zl(n:Xb)(XF mw l:List Int):Nat->Int
 |0=>0
 |j+1=>zl n XF mw l j+if EP (EN (IO n) (j:Int)) XF=l then mw[j]?.getD 0 else 0
theorem Gr{n:Xb}{XF mw l:List Int}(hmb:∀x∈mw,0<=x/\x<=167961600000000):∀j,0<=zl n XF mw l j/\zl n XF mw l j<=167961600000000*(j:Int)
 |0=>⟨Sq _,by simp[zl]⟩
 | j+1=>by
  have ih:=Gr (n:=n) (XF:=XF) (l:=l) hmb j;have hx:0<=mw[j]?.getD 0/\mw[j]?.getD 0<=167961600000000:=by
   cases h:mw[j]? with
   |none=>simp
   |some x=>exact hmb x (XL h)
  rw[zl]
  split<;>omega
def bm2[Xr](hd:k<d)(hr:NR n)(hq:pD n XF Xd mw m k q)(hpv:∀x∈XF,0<=x/\x<(n.XD.length:Int))(hvl:XF.length<=8)(hpo:∀x∈Xd,0<=x/\x<(n.XD.length:Int))(hol:Xd.length<=8)(hmw:mw.length=C2 n)(hmb:∀x∈mw,0<=x/\x<=167961600000000)
  (hw:Xu P k2 g.h l w):ah C0 d 108 [q,w] g=.val (XE (zl n XF mw l (C2 n))):=by
 have v:=hq;obtain⟨t0,b,vw,ow,ww,e0,ht,hb,hv,ho,F⟩:=v;obtain⟨w',e2,o⟩:=aB hw d;have f:0<d+1:=XR d;have D:=hr.wl.2.1;rw[WL];refine cq qF (xs:=[q,w']) (by rw[e0];simp only[aD,e2,fj]) (by simp[ej]) (by omega) ?_;subst e0;have rbx:=Ay (o .nil);simp only[sz,simprocAttr,ej,gT,rbx];have y:=λg=>y6 (d:=d+1) (g:=g) (aaS hd) hq;refine aG (Q:=λr=>∃tg,r=.W_ 132 [] [.Xn tg 1 [[.Xn t0 6 [[XE n.Xz,b,vw,ow,ww,XE m]] 0 0]] 0 0]) ((y _).elim λtg h=>⟨_,h,tg,rfl⟩) ?_;rintro r ⟨tg,rfl⟩;simp only[sz,simprocAttr];obtain⟨g2,e⟩:∃g2,g2=((G.empty.new (Xy 1 [[w']])).new (Xy 1 [[XE 0]])).put 1 (Xy 1 [[XE 0]]):=⟨_,rfl⟩;have c0:g2.h.get 0=Xy 1 [[w']]:=by rw[e];simp[VO,show G.empty.nx=0 from rfl]
 have c1:g2.h.get 1=Xy 1 [[XE 0]]:=by rw[e];simp[VO]
 have A:g2.nx=2:=by rw[e];simp[show G.empty.nx=0 from rfl]
 try rw[<-e]
 refine yV (n:=n) (XF:=XF) (Xd:=Xd) (mw:=mw) (m:=m) (k:=k) (tg:=tg) f hr hq hpv hvl hpo hol hmw (by simp[sx]) (by decide) (by decide)
  (λj g'=>g'.h.get 0=Xy 1 [[w']]/\g'.h.get 1=Xy 1 [[XE (zl n XF mw l j)]]) ?_ ⟨c0,c1⟩ ?_ ?_
 ·rintro j g3 I B ⟨a1,a2⟩;exact⟨by rw[B _ (by omega),a1],by rw[B _ (by omega),a2]⟩
 ·rintro j x u g3 J hx ⟨a1,a2⟩ t hu;rw[A]at t hu;simp only[sz,simprocAttr,fO];refine⟨?_,λg5 n5 f5=>?_⟩
  ·exact Pm _ _ _
  rw[A]at f5 ⊢;have C:(EP (EN (IO n) (j:Int)) XF).length=XF.length:=by simp[EP]
  have p:∀i,i<g3.nx->i≠3->g5.h.get i=g3.h.get i:=λi h1 h2=>by rw[f5 i (by omega),aJ,aJ]
  have jp:g5.h.get g3.nx=Xy 2 [[XE (zk n Xd j),XE x]]:=by rw[f5 _ (by omega),XO rfl]
  have j0:g5.h.get 0=Xy 1 [[w']]:=by rw[p 0 (by omega) (by omega),a1]
  have j1:g5.h.get 1=Xy 1 [[XE (zl n XF mw l j)]]:=by rw[p 1 (by omega) (by omega),a2]
  have z:=hu.fr (g':=g5) (by omega) λi hi=>by have:=hu.lt hi;exact p i (by omega) (by omega)
  have Xj:Xu (λ_=>True) 0 g5.h (EP (EN (IO n) (j:Int)) XF) u:=z.sl (α:=Int) (by omega) (VJ (λa=>aK.2 rfl) _) λ_ _=>trivial;have ke:=vP (d:=d+1) (g:=g5) f Xj (o g5.h);have E:=Gr (n:=n) (XF:=XF) (l:=l) hmb j;have H:=hmb x (XL hx);have hs:zl n XF mw l (j+1)=zl n XF mw l j+if EP (EN (IO n) (j:Int)) XF=l then x else 0:=by rw[zl,hx];rfl
  by_cases c:EP (EN (IO n) (j:Int)) XF=l
  ·rw[Yj c]at ke;rw[XO c]at hs;have w1:IntKind.wrap .i64 (zl n XF mw l j+x)=zl n XF mw l (j+1):=by rw[hs,an]
   simp only[sz,simprocAttr,dz,j0,ke,j1,jp,w1];exact⟨by simp,λi h1 h2=>by simp[VO,show ¬i=1 by omega],.inl ⟨rfl,trivial⟩⟩
  ·rw[Yq c]at ke;rw[XS c,abc]at hs;simp only[sz,simprocAttr,dz,j0,ke];exact⟨XH _,λ_ _ _=>rfl,.inl ⟨rfl,by rw[j1,hs]⟩⟩
 ·rintro g' ⟨a1,a2⟩ K s;simp only[sz,simprocAttr,fP,a2];refine lB s ?_;simp[vp,sx,fg]
def bm1[Xr]{K KP:AV->G->Prop}(hd:k<d)(hr:NR n)(hq:pD n XF Xd mw m k q)(hpv':∀x∈XF,0<=x/\x<(n.XD.length:Int))(hvl:XF.length<=8)(hpo:∀x∈Xd,0<=x/\x<(n.XD.length:Int))(hol:Xd.length<=8)(hmw:mw.length=C2 n)(hmb:∀x∈mw,0<=x/\x<=167961600000000)
  (hpv:∀h,Xu Xt k h proof pv) (hvv:∀h,Xu Xt k h XB vv) (hvl2:XB.length=XF.length) (hbl:∀b∈proof,b.length<=XF.length)
  (kk:proof.all (λb=>BO n XF Xd mw XB b (zl n XF mw XB (C2 n)))=true->∀g',Fr g g'->K (.WM []) g') (kp:proof.all (λb=>BO n XF Xd mw XB b (zl n XF mw XB (C2 n)))=false->∀v g',xq v->Fr g g'->KP v g') :
  We C0 d 76 [.agg [q,vv,pv]] g K KP:=by
 let⟨rows,F,L,H,M⟩:=gC (hpv .nil);obtain⟨wt,A⟩:∃wt,wt=zl n XF mw XB (C2 n):=⟨_,rfl⟩;rw[<-A]at kk kp;refine xk rP (by simp[eJ]) ?_;unfold eJ;dsimp only;refine bg (by kernel_rfl) ?_;simp only[sz,simprocAttr];obtain⟨g1,l⟩:∃g1,g1=g.new (Xy 3 [[q,vv,pv]]):=⟨_,rfl⟩;rw[<-l];have hl:∀g:G,bC .slice pv g=.val (XE (proof.length:Int)):=λg=>(hpv .nil).len g;obtain⟨B,hB⟩:∃B,B=g.nx:=⟨_,rfl⟩;rw[<-hB];have g0:g1.h.get B=Xy 3 [[q,vv,pv]]:=by rw[l,hB];simp[VO]
 have y:Fr g g1:=by rw[l];exact Fr.new _ _
 clear l;have ld0:a_ (Xy 3 [[q,vv,pv]]) 0 0 false 1 0=.val q:=rfl;have ld1:a_ (Xy 3 [[q,vv,pv]]) 0 0 false 1 1=.val vv:=rfl;have ld2:a_ (Xy 3 [[q,vv,pv]]) 0 0 false 1 2=.val pv:=rfl;have kw:=λg:G=>bm2 hd hr hq hpv' hvl hpo hol hmw hmb (hvv g.h);rw[<-A]at kw;unfold iA;refine bg (by kernel_rfl) ?_;simp only[sz,simprocAttr,g0,ld0,ld1,kw];refine bg (by kernel_rfl) ?_;simp only[sz,simprocAttr,g0,ld2,hl];rw[ux,xe];unfold gH gI;refine uw (hpv .nil).1 (λj t df g'=>df=[]/\g'=g1/\St t [(1,Xq B),(2,XE wt),(11,pv)]/\∀i,i<j->∀b,proof[i]?=some b->BO n XF Xd mw XB b wt=true) ⟨rfl,rfl,by simp[St,sx],λi h=>absurd h (aao i)⟩ (by simp[sx]) (by simp[sx]) (by decide)
  (by rintro j t df g v s (rfl|rfl|rfl) h<;>simpa[St,sx]using h) ?_ ?_
 ·rintro j t df g' E ⟨rfl,rfl,⟨h1,h2,p,-⟩,a⟩ r C;obtain⟨b,hb,-,w⟩:=af E;obtain⟨z,I,J,hz⟩:=H j b hb;have u:=hbl b w;have kb:=λg:G=>yw (d:=d) (g:=g) (wt:=wt) hd hr hq hpv' hvl hpo hol hmw hmb (hz.tree (h':=g.h) (XH _)) u (hvv g.h) (by omega);refine bg (by kernel_rfl) ?_;simp only[sz,simprocAttr,p,r,F,I,J];refine bg (by kernel_rfl) ?_;simp only[sz,simprocAttr,h1,h2,g0,ld0,ld1,kb];rw[eD]
  by_cases c:BO n XF Xd mw XB b wt=true
  ·rw[c];simp only[sz,simprocAttr];rw[mJ];refine⟨⟨rfl,rfl,by simp[St,sx,h1,h2,p],λi hi b' f=>?_⟩,by simp[sx,r],by simp[sx,C]⟩
   by_cases e:i=j
   ·subst e;rw[hb]at f;cases f;exact c
   ·exact a i (by omega) b' f
  ·have c':BO n XF Xd mw XB b wt=false:=by simpa using c
   rw[c'];simp only[sz,simprocAttr];show Nu C0 d ([oM 26 3,o 27 (.build [XE 0] [(0,1)] [.t 26]),o 28 (.raw (.makeInterface 175 (.tmp 27)))]++[oz (.raw (.panic (.tmp 28)))]) _ _ _ _;refine uy (by kernel_rfl) ?_;simp only[sz,simprocAttr,xF];refine CD (ty:=175) (v:=.agg [XE (j:Int)]) (by simp[sx]) ?_;refine kp ?_ _ _ ⟨_,rfl⟩ y;rw[ZJ];intro h;have:=XQ.1 h b w;rw[c']at this;cases this
 ·rintro t df g' ⟨rfl,rfl,-,a⟩;rw[pi,XO rfl];show mN C0 d [] t [] g' K;simp only[sz,simprocAttr];refine kk ?_ g' y;rw[XQ];intro b hb;let⟨i,hi⟩:=Yd hb;exact a i (XI.1 hi).1 b hi
theorem bm0[Xr](hd:0<d)(hr:NR n)(hq:pD n XF Xd mw m k q)(hp:CY XF (n.XD.length:Int)=true)(hw:Xu P k2 g.h l w)(hlv:l.length<=XF.length)(hl:Wr ((EP (IO n) XF).take l.length) l) :
  ah C0 d 101 [q,w] g=.val (XE (EL ((EP (IO n) XF).take l.length) l)):=by
 obtain⟨t,b,vw,ow,ww,rfl,ht,hb,hv,ho,K⟩:=hq;obtain⟨w',e2,o⟩:=aB hw d;have lw:∀g:G,bC .slice w' g=.val (XE (l.length:Int)):=λg=>(o .nil).len g;have rw':=λh=>(o h).ints;have rv:=λh=>(hv.tree (h':=h) (XH _)).ints;have F:(EP (IO n) XF).length=XF.length:=by simp[EP]
 have E:=hr.l2;have J:=bc hp (by omega);have a:=aZ (ps:=XF) hr.cs (λp e=>by rw[ap];exact aO hp p e);rw[WL];refine cq iz (xs:=[.Xn t 6 [[XE n.Xz,b,vw,ow,ww,XE m]] 0 0,w']) (by simp only[aD,e2,fj]) (by simp[bY]) hd ?_;simp only[sz,simprocAttr,bY,dx,lw];refine aT (m:=l.length) (by omega) (λj t' df g=>df=[]/\St t' [(0,.Xn t 6 [[XE n.Xz,b,vw,ow,ww,XE m]] 0 0),(8,w'),(5,XE (EL ((EP (IO n) XF).take j) (l.take j)))]) ⟨rfl,by simp[St,sx,EL]⟩ (by simp[sx]) (by simp[sx]) (by decide)
  (by rintro j t df g v s (rfl|rfl|rfl)<;>simp[sx,St]) ?_ ?_
 ·rintro j t' df g B ⟨rfl,h0,h8,h5,-⟩ Xp h9;obtain⟨x,hx,u,-⟩:=af B;obtain⟨p,i,-,e⟩:=af (l:=XF) (j:=j) (by omega);obtain⟨M,N⟩:=aO hp p e;obtain⟨pn,y,rows,pa,ra,rfl,Y,O,Q,R,T,z,r5⟩:=ue hb M N;have W:j<(l.map ci).length:=by simpa using B
  have X:(l.map ci)[j]?=some (ci x):=by rw[XK,hx];rfl
  have U:j<(XF.map ci).length:=by rw[XN];omega
  have V:(XF.map ci)[j]?=some (ci (pn:Int)):=by rw[XK,i];rfl
  have f:(EP (IO n) XF)[j]?=some y.Xx:=by simp[EP,i,r5]
  have c1:(EP (IO n) XF).take (j+1)=(EP (IO n) XF).take j++[y.Xx]:=by rw[X4 (by omega)];congr 2;rw[NP]at f;injection f
  have r:EL ((EP (IO n) XF).take (j+1)) (l.take (j+1))=EL ((EP (IO n) XF).take j) (l.take j)*y.Xx+x:=by rw[c1,u];exact zO (by simp;omega)
  have i1:=bz (λc h=>a c (Ym h)) (by have:=hl.take j;rwa [abe,YG (by omega)]at this);have C:=bz (λc h=>a c (Ym h)) (by have:=hl.take (j+1);rwa [abe,YG (by omega)]at this);have Z:=cy a (by omega) j;have q2:=cy a (by omega) (j+1);rw[r]at C ⊢;have L:=hr.Xx y z;obtain⟨A,D⟩:∃A,A=EL ((EP (IO n) XF).take j) (l.take j):=⟨_,rfl⟩;rw[<-D]at h5 i1 C ⊢;have H:0<=A*y.Xx:=Zg i1.1 (by omega);have I:A*y.Xx<=65536*4:=Z_ (by omega) (by omega) (by omega) (by omega);have w1:IntKind.wrap .i64 (A*y.Xx)=A*y.Xx:=an;have w2:IntKind.wrap .i64 (A*y.Xx+x)=A*y.Xx+x:=an;simp only[sz,simprocAttr,h8,Xp,rw',W,X,ci,h0,h5,fK,bZ,bj,rv,U,V,O,Q,R,T,w1,w2];simp[St,sx,h0,h8,h9]
 ·rintro t' df g ⟨rfl,h0,h8,h5,-⟩;rw[XV]at h5;simp only[sz,simprocAttr,dy,h5]
theorem Jo[Xr]{Xv:List Int}(hd:0<d)(hv:Xu P k g.h Xv v)(hw:Xu P2 k2 g.h XB w)(hl:Xv.length=XB.length)(hn:XB.length<=64)
  (hb:∀x∈XB,0<=x/\x<4294967296) :
  ∃r,ah C0 d 128 [v,w] g=.val r/\CH (One (rL Xv XB).1) (One (rL Xv XB).2) Xt 0 .nil r:=by
 obtain⟨v',e,C⟩:=aB hv d;obtain⟨w',e2,D⟩:=aB hw d;rw[WL];refine aP EX (xs:=[v',w']) (by simp only[aD,e,e2]) (by simp[tV]) (jb (m:=1) (aI _) (aI _) (by decide) (by decide)) (by decide) hd ?_;simp only[tV,sz,simprocAttr];refine aM (rows:=[]) (b:=0) (new:=XB.map ci) (.inl ⟨rfl,rfl⟩) (D _).ints (by simp) (by simp[aH];omega) λu g1 hu n1 f1 _ _=>?_;simp only[X3]at hu;have ul:∀g,bC .slice u g=.val (XE (XB.length:Int)):=λg=>by rw[bQ hu.rows,XN]
 simp only[sz,simprocAttr,ul,an (show -2^63<=(XB.length:Int) - 1 by omega) (show (XB.length:Int) - 1<2^63 by omega)];refine tj (m:=XB.length) (by omega) (λj t df g=>df=[]/\St t [(0,v'),(6,u)]/\∃l:List Int,l.length=XB.length/\(∀x∈l,0<=x/\x<4294967296)/\rL Xv XB=qD Xv l j/\Own g 0 u 1 (l.map ci))
  ⟨rfl,by simp[sx,St],XB,rfl,hb,rfl,hu⟩ (by simp[sx]) (by decide) (by rintro j t df g v s (rfl|rfl|rfl|rfl|rfl)<;>simp[sx,St]) ?_ ?_
 ·rintro j t df g E ⟨rfl,⟨h0,h6,-⟩,l,q,o,f,ho⟩ h7;obtain⟨x,hx,-,hm⟩:=af (l:=l) (j:=j) (by omega);obtain⟨c,hc,-,A⟩:=af (l:=Xv) (j:=j) (by omega);have B:=o x hm;have hlt:j<(l.map ci).length:=by rw[XN];omega
  have z:j<Xv.length:=by omega
  have n:(l.map ci)[j]?=some (ci x):=by rw[XK,hx];rfl
  simp only[sz,simprocAttr,h6,h7,ho.rows,hlt,n,ci,an (show -2^63<=x+1 by omega) (show x+1<2^63 by omega)];refine bF (row:=ci x) (row':=ci (x+1)) ho n rfl rfl rfl λg2 o2 n2 f2=>?_;rw[<-YS]at o2;have i:j<((l.set j (x+1)).map ci).length:=by rw[XN,aaE];omega
  have a:((l.set j (x+1)).map ci)[j]?=some (ci (x+1)):=by rw[XK,Zv (by omega)];rfl
  have p:j<(Xv.map ci).length:=by rw[XN];exact z
  have hcl:(Xv.map ci)[j]?=some (ci c):=by rw[XK,hc];rfl
  simp only[sz,simprocAttr,h0,h6,h7,o2.rows,i,a,(C g2.h).ints,hcl,p,ci];refine bk (λhq=>?_) (λhq=>?_)
  ·simp only[sz,simprocAttr,h6];have hq:x+1<c:=by simpa using hq
   have:rL Xv XB=(l.set j (x+1),true):=by rw[f,qD,hx,hc];simp[hq]
   rw[this];exact⟨λ_=>True,_,_,rfl,o2.ints (by simp;omega),gD.2 rfl⟩
  ·simp only[sz,simprocAttr,h6,h7,o2.rows,i];have hq:¬x+1<c:=by simpa using hq
   refine bF (row:=ci (x+1)) (row':=ci 0) o2 a rfl rfl rfl λg3 o3 n3 f3=>?_;rw[<-YS,List.set_set]at o3;simp only[sz,simprocAttr,h0,h6,h7,St];refine⟨l.set j 0,by simp[q],λy hy=>?_,?_,o3⟩
   ·rcases Zy hy with h|h
    ·exact o y h
    ·subst h;decide
   ·rw[f,qD,hx,hc];simp[hq]
 ·rintro t df g ⟨rfl,⟨h0,h6,-⟩,l,q,o,f,ho⟩;simp only[uI,sz,simprocAttr,h6];rw[f,qD];exact⟨λ_=>True,_,_,rfl,ho.ints (by omega),gD.2 rfl⟩
def DZ{cs vs:List Int}(hin:Wr cs vs)(hc:∀c∈cs,1<=c):∀k,k<=vs.length->(∀(j:Nat) (c:Int),k<=j->cs[j]?=some c->vs[j]?.getD 0=c - 1) ->
  ((qD cs (vs.take k++List.replicate (vs.length - k) 0) k).2=true/\Wr cs (qD cs (vs.take k++List.replicate (vs.length - k) 0) k).1/\EL cs (qD cs (vs.take k++List.replicate (vs.length - k) 0) k).1=EL cs vs+1) \/
  ((qD cs (vs.take k++List.replicate (vs.length - k) 0) k).2=false/\EL cs vs=EO cs - 1)
 |0,_,h=>.inr ⟨rfl,Co hin.len.symm λi c hi=>h i c (Yi _) hi⟩
 | k+1,hk,h=>by
  have hl:=hin.len;obtain⟨c,b,-,d⟩:=af (l:=cs) (j:=k) (by omega);let⟨x,hx,f,m⟩:=hin.get b;have hg:(vs.take (k+1)++List.replicate (vs.length - (k+1)) 0)[k]?=some x:=by rw[XW (by simp;omega),Yv (by omega),hx]
  rw[qD,hg,b,XP,XP]
  by_cases q:x+1<c
  ·rw[XO q,Ak (by omega)];exact .inl ⟨rfl,IS hin hc hx b (by omega),It hl.symm hx λj c' hj a=>h j c' (by omega) a⟩
  ·rw[XS q,Al (by omega)];refine DZ hin hc k (by omega) λj c' hj a=>?_
   by_cases e:j=k
   ·subst e;rw[b]at a;injection a with a;rw[hx,XP];omega
   ·exact h j c' (by omega) a
def F3{vs:List Int}(hin:Wr cs vs)(hc:∀c∈cs,1<=c):((rL cs vs).2=true/\Wr cs (rL cs vs).1/\EL cs (rL cs vs).1=EL cs vs+1)\/((rL cs vs).2=false/\EL cs vs=EO cs - 1):=by
 have:=DZ hin hc vs.length (XH _) λj c hj hcj=>by have:=(XI.1 hcj).1;have:=hin.len;omega
 rwa [XV,YN,aba,X6]at this
def yk(cs:List Int)(j:Nat):List (List Int):=(List.range j).map λi=>EN cs ((i:Nat):Int)
def bl_(cs:List Int)(j:Nat):yk cs (j+1)=yk cs j++[EN cs (j:Int)]:=by simp[yk,YF]
def Ml[Xr]{Xv:List Int}(hd:0<d)(hv:Xu P k g.h Xv v)(hcs:Wq Xv) :
  ∃r,ah C0 d 89 [v] g=.val r/\One (yk Xv (EK Xv)) Xt 0 .nil r:=by
 obtain⟨v',e,J⟩:=aB hv d;have K:=hcs.l;obtain⟨N1,N2,N3⟩:=hcs.nc;have f:=λc hc=>(hcs.b c hc).1;have al:∀j,(yk Xv j).length=j:=λj=>by simp[yk]
 rw[WL];refine aP zC (xs:=[v']) (by simp only[aD,e]) (by simp[mj]) (aI _) (by decide) hd ?_;simp only[mj,sz,simprocAttr,(J .nil).len];refine l_ (b:=0) (n:=Xv.length) (by simp[aH];omega) (by simp[aH];omega) (by simp) λw g1 hw n1 fr1 v1=>?_;simp only[sz,simprocAttr];refine gi (λn t df g=>df=[]/\Xs t 0=v'/\∃u,Xs t 3=u /\
   ((Xs t 5=.bool false/\n=0/\rq g 0 0 u (yk Xv (EK Xv))) \/
    (Xs t 5=.bool true/\∃(j:Nat) (y:AV),Xs t 4=y/\rq g 0 0 u (yk Xv j)/\Xu (Tb g 0 u) 0 g.h (EN Xv (j:Int)) y/\j<EK Xv/\n=EK Xv - j/\EL Xv (EN Xv (j:Int))=(j:Int))))
  (EK Xv) ⟨rfl,by simp[sx],.XC,by simp[sx],.inr ⟨by simp[sx],0,w,by simp[sx],⟨[],.inl ⟨rfl,rfl⟩,trivial⟩,?_,by omega,rfl,?_⟩⟩ ?_
 ·have hz:EN Xv ((0:Nat):Int)=List.replicate Xv.length 0:=by have:=cx f (Ar f);rwa [mA]at this
  rw[hz];refine Own.sl (α:=Int) hw (by simp;omega) ?_ λi hi=>⟨Yi _,(hw.lt hi).2,by simp[W5]⟩;have:=VK (R:=Rp.rp (Tb g1 0 .XC) 0 g1.h) (a:=(0:Int)) (b:=[XE 0]) (aK.2 rfl) Xv.length;exact this
 ·have:=cx f (Ar f);rw[mA]at this;rw[show ((0:Nat):Int)=0 from rfl,this,mA]
 ·rintro n t df g ⟨rfl,h0,u,h3,⟨h5,rfl,hu⟩|⟨h5,j,y,h4,hu,I,N,L,m⟩⟩
  ·simp only[fR,sz,simprocAttr,h5];simp only[om,sz,simprocAttr,h3];exact⟨_,u,rfl,hu.sl (by rw[al];omega)⟩
  ·simp only[fR,sz,simprocAttr,h3,h4,h5];have yc:=I.cell;have D:=bm f (j:Int);have M:=bO Xv (j:Int);rw[nB 1 [.XC] y g (by rw[yc.1];rfl) yc.2,yc.1];simp only[sz,simprocAttr];have F:Rp.rp (Tb (g.new (Xy 1 [[y]])) 0 u) 0 (g.new (Xy 1 [[y]])).h (EN Xv (j:Int)) [y] :=
    Rp.mono (show Rp.rp (Tb g 0 u) 0 g.h (EN Xv (j:Int)) [y] from ⟨y,rfl,I⟩) (λi hi=>⟨⟨hi.1,by have:=hi.2.1;simp;omega,hi.2.2⟩,by have:=hi.2.1;rw[G.new_h,aq]⟩) (XH _)
   refine vC (α:=List Int) (b:=0) (k:=0) (l:=yk Xv j) (y:=EN Xv (j:Int)) (cs:=[y]) (hu.step (Fr.new _ _)) (by simp[sy,Rp.sz]) F (Yi _) (by rw[al];simp[aH];omega) λv2 g2 hv2 n2 f2 vid2 lg2=>?_;simp only[sz,simprocAttr,h0,h4];have A:Rp.rp (λ_=>True) 0 g2.h (EN Xv (j:Int)) [y] :=Rp.mono F (λi hi=>⟨trivial,by rw[f2 i hi.2.1 hi.2.2]⟩) (XH _)
   obtain⟨y',B,A⟩:=A;injection B with B;subst B;refine aG (Jo (XR d) (J g2.h) A (by omega) (by omega) λx hx=>?_) λr hr=>?_
   ·obtain⟨i,hi,e⟩:=Y7.1 hx;obtain⟨c,C⟩:∃c,Xv[i]?=some c:=⟨_,XJ (by omega)⟩;obtain⟨x',s,q0,H⟩:=D.get C;rw[XJ hi,e]at s;injection s with s;have:=hcs.b c (XL C);omega
   ·obtain⟨ra,rb,rfl,p,E⟩:=hr;obtain⟨rw',e',p⟩:=p;injection e' with e';subst e';have e'':=gD.1 E;injection e'' with e'';subst e'';simp only[sz,simprocAttr];rw[<-bl_]at hv2;rcases F3 D f with⟨H,q2,q3⟩|⟨H,q2⟩
    ·have hlt:=(bz hcs.b q2).2;rw[q3,m]at hlt;have o:EN Xv ((j+1:Nat):Int)=(rL Xv (EN Xv (j:Int))).1:=by have:=cx f q2;rw[q3,m]at this;exact this
     rw[H];refine⟨EK Xv - (j+1),by omega,h0,v2,rfl,.inr ⟨rfl,j+1,ra,rfl,hv2,?_,by omega,rfl,?_⟩⟩
     ·rw[o];have:=Rp.mono (P':=Tb g2 0 v2) (h':=g2.h) (show Rp.rp Xt 0 .nil (rL Xv (EN Xv (j:Int))).1 [ra] from ⟨ra,rfl,p⟩) (λi hi=>hi.elim) (XH 0);obtain⟨z,ez,q⟩:=this;injection ez with ez;subst ez;exact q
     ·rw[o,q3,m];rfl
    ·rw[H];rw[m]at q2;have:j+1=EK Xv:=by omega
     rw[this]at hv2;exact⟨0,by omega,h0,v2,rfl,.inl ⟨rfl,rfl,hv2⟩⟩
def lR{cs:List Int}(hcs:Wq cs):∀j:Nat,j<EK cs->EL cs (EN cs (j:Int))=(j:Int)
 | 0,_=>by have k:=λc hc=>(hcs.b c hc).1;have:=cx k (Ar k);rw[mA]at this;rw[show ((0:Nat):Int)=0 from rfl,this,mA]
 | j+1,h=>by
  have k:=λc hc=>(hcs.b c hc).1;have ih:=lR hcs j (by omega);let⟨N1,N2,N3⟩:=hcs.nc;rcases F3 (bm k (j:Int)) k with⟨a,q2,q3⟩|⟨a,q2⟩
  ·have:=cx k q2;rw[q3,ih]at this;rw[show ((j+1:Nat):Int)=(j:Int)+1 from rfl,this,q3,ih]
  ·omega
def xL(cs b:List Int)(i:Nat):Bool:=decide (EL (cs.take b.length) b*EO (cs.drop b.length)<=(i:Int)/\(i:Int)<EL (cs.take b.length) b*EO (cs.drop b.length)+EO (cs.drop b.length))
def Ck{b:List Int}(hcs:Wq cs)(hb:Wr (cs.take b.length) b)(hl:b.length<=cs.length)(hi:i<EK cs):xL cs b i=decide ((EN cs (i:Int)).take b.length=b):=by
 have a:∀c∈cs,1<=c:=λc hc=>(hcs.b c hc).1;have hv:=bm a (i:Int);have e:=lR hcs i hi;have d:=hv.take b.length;have l:=Wr.drop b.length hv;let⟨r0,o⟩:=bz (λc h=>hcs.b c (Y2 h)) l;have k:EL cs (EN cs (i:Int))=EL (cs.take b.length) ((EN cs (i:Int)).take b.length)*EO (cs.drop b.length)+EL (cs.drop b.length) ((EN cs (i:Int)).drop b.length):=by rw[<-Cn _ _ (Xl.len d),YC,YC]
 rw[e]at k;unfold xL;refine decide_eq_decide.2 ?_;obtain⟨H,n⟩:∃H,H=EO (cs.drop b.length):=⟨_,rfl⟩;obtain⟨A,f⟩:∃A,A=EL (cs.take b.length) b:=⟨_,rfl⟩;obtain⟨B,hB⟩:∃B,B=EL (cs.take b.length) ((EN cs (i:Int)).take b.length):=⟨_,rfl⟩;rw[<-n]at k o ⊢;rw[<-f];rw[<-hB]at k;constructor
 ·rintro⟨h1,h2⟩;have j:A=B:=by
   rcases abR A B with h|h|h
   ·have:A*H+H<=B*H:=by have h3:(A+1)*H<=B*H:=YI (by omega) (by omega);rw[Zz,Ra]at h3;exact h3
    omega
   ·exact h
   ·have:B*H+H<=A*H:=by have h3:(B+1)*H<=A*H:=YI (by omega) (by omega);rw[Zz,Ra]at h3;exact h3
    omega
  have m:=cx (λc h=>a c (Ym h)) hb;have q2:=cx (λc h=>a c (Ym h)) d;rw[<-f]at m;rw[<-hB]at q2;rw[<-q2,<-j,m]
 ·intro h;rw[h]at hB;rw[<-f]at hB;rw[hB]at k;omega
def BU(cs:List Int)(proof:List (List Int))(i:Nat):Nat:=(proof.filter λb=>xL cs b i).length
def HZ(cs:List Int)(proof:List (List Int))(b:List Int)(i:Nat):BU cs (proof++[b]) i=BU cs proof i+if xL cs b i then 1 else 0:=by
 unfold BU;rw[aaG,Yo];congr 1
 by_cases h:xL cs b i=true<;>simp[h]
def bl9(cs:List Int)(p r:List (List Int))(i:Nat):BU cs p i<=BU cs (p++r) i:=by unfold BU;rw[aaG,Yo];omega
def AI(p:Nat->Nat)(a k N:Nat):List Int:=(List.range N).map λi:Nat=>(((p i+if a<=i/\i<a+k then 1 else 0:Nat)):Int)
def tx(p:Nat->Nat)(a k N:Nat):(AI p a k N).length=N:=by simp[AI]
def tu{p:Nat->Nat}{a:Nat}(h:i<N):(AI p a k N)[i]?=some (((p i+if a<=i/\i<a+k then 1 else 0:Nat)):Int):=by simp[AI,h]
def bl8{p:Nat->Nat}{a:Nat}:(AI p a k N).set (a+k) (((p (a+k)+1:Nat)):Int)=AI p a (k+1) N:=by
 refine Zd λi=>?_;rw[YB,tx]
 by_cases hi:i<N
 ·rw[tu hi,tu hi]
  by_cases e:a+k=i
  ·subst e;rw[XO rfl,XO hi,XO ⟨by omega,by omega⟩]
  ·rw[XS e];congr 2
   by_cases h:a<=i/\i<a+k
   ·rw[XO h,XO ⟨h.1,by omega⟩]
   ·rw[XS h,aJ]
 ·rw[Yg (l:=AI p a (k+1) N) (by rw[tx];omega)]
  split
  ·rw[aJ]
  ·rw[Yg (by rw[tx];omega)]
def LCv(B I H:Nat)(cv u z:AV)(i:Nat)(pv:AV)(np:Nat):List (Nat×AV):=[(1,Xq B),(2,cv),(3,u),(4,XE (i:Int)),(5,z),(6,XE (H:Int)),(21,pv),(22,XE (np:Int)),(23,XE (i:Int))]
def bl7[Xr]{B Bu I H np:Nat}{p:Nat->Nat}{b:List Int}{cv:AV}{Q:QP}(hd:0<d)(hr:NR n)(hq:pD n XF Xd mw m k q)(hp:CY XF (n.XD.length:Int)=true)(hz:Xu Xt k .nil b z)(hbl:b.length<=XF.length)(hb:Wr ((EP (IO n) XF).take b.length) b)
  (hI:EL ((EP (IO n) XF).take b.length) b=(I:Int)) (hN:I*H+H<=N) (hN2:N<=65536) (hp1:∀j,j<N->p j<=1) (gB:g.h.get B=Xy 3 [[q,vv,pv]]) (hBu:B<Bu) (hu:Own g Bu u 1 ((AI p (I*H) 0 N).map ci))
  (ht:St t (LCv B I H cv u z i pv np)) (h34:Xs t 34=XE 0) (h33:Xs t 33=XE (H:Int))
  (fin:∀t g',St t (LCv B I H cv u z i pv np)->Own g' Bu u 1 ((AI p (I*H) H N).map ci)->(∀j,j<N->(AI p (I*H) H N)[j]?.getD 0<=1)->g'.nx=g.nx->(∀j,W5 u≠some j->g'.h.get j=g.h.get j)->Q (.ex (.exit 2)) t [] g')
  (WH:∀v t g' j,xq v->I*H<=j->j<I*H+H->p j=1->g'.nx=g.nx->(∀j,W5 u≠some j->g'.h.get j=g.h.get j)->Q (.WH v) t [] g') :
  Rq (VX C0 d dF) Q t [] g:=by
 unfold dF;refine uw (by omega) (λj t df g'=>df=[]/\St t (LCv B I H cv u z i pv np)/\Own g' Bu u 1 ((AI p (I*H) j N).map ci)/\(∀x,I*H<=x->x<I*H+j->p x=0)/\g'.nx=g.nx/\∀j,W5 u≠some j->g'.h.get j=g.h.get j) ⟨rfl,ht,hu,λx h1 h2=>by omega,rfl,λ_ _=>rfl⟩ h34 h33 (by decide) ?_ ?_ ?_
 ·rintro j t df g v s (rfl|rfl|rfl) ⟨a1,⟨b1,b2,D,E,F,J,K,L,M,-⟩,c⟩<;>exact⟨a1,by simp[St,LCv,sx,b1,b2,D,E,F,J,K,L,M],c⟩
 ·clear ht hu h34 h33;rintro j t df g' y ⟨rfl,⟨h1,h2,h3,h4,h5,h6,l,r,w,-⟩,hu,f,A,hf⟩ h34 h33;have a:I*H+j<N:=by omega
  have O:=hp1 (I*H+j) a;have kn:=λg:G=>bm0 (d:=d) (g:=g) hd hr hq hp (hz.tree (h':=g.h) (XH _)) hbl hb;simp only[hI]at kn;have gB':g'.h.get B=Xy 3 [[q,vv,pv]]:=by rw[hf B (λh=>by have:=(hu.lt h).1;omega),gB]
  have ld0:a_ (Xy 3 [[q,vv,pv]]) 0 0 false 1 0=.val q:=rfl;have w1:IntKind.wrap .i64 ((I:Int)*(H:Int))=((I*H:Nat):Int):=by rw[<-ZP,an]
  have w2:IntKind.wrap .i64 (((I*H:Nat):Int)+(j:Int))=((I*H+j:Nat):Int):=by rw[<-abv,an]
  have P:IntKind.wrap .i64 (((p (I*H+j):Nat):Int)+1)=((p (I*H+j)+1:Nat):Int):=by rw[an];rfl
  have V:I*H+j<((AI p (I*H) j N).map ci).length:=by rw[XN,tx];exact a
  have C:((AI p (I*H) j N).map ci)[I*H+j]?=some (ci (p (I*H+j):Nat)):=by rw[XK,tu a,aJ];rfl
  refine bg (by kernel_rfl) ?_;simp only[sz,simprocAttr,h34];refine bg (by kernel_rfl) ?_;simp only[sz,simprocAttr,h1,gB',ld0,h5,kn,h6,w1,w2];refine bg (by kernel_rfl) ?_;simp only[sz,simprocAttr,h3,hu.rows,V,C,ci,P];refine bF (b:=Bu) (v:=u) (sz:=1) (n:=1) (i:=I*H+j) (off:=0) (x:=XE ((p (I*H+j)+1:Nat):Int)) (row:=ci (p (I*H+j):Nat)) (row':=ci ((p (I*H+j)+1:Nat):Int)) hu C rfl rfl rfl λg5 o5 n5 f5=>?_;rw[<-YS,bl8]at o5;have R:I*H+j<((AI p (I*H) (j+1) N).map ci).length:=by rw[XN,tx];exact a
  have U:((AI p (I*H) (j+1) N).map ci)[I*H+j]?=some (ci ((p (I*H+j)+1:Nat):Int)):=by rw[XK,tu a,XO ⟨by omega,by omega⟩];rfl
  simp only[sz,simprocAttr];refine bg (by kernel_rfl) ?_;simp only[sz,simprocAttr,h3,o5.rows,R,U,ci];rw[eD]
  by_cases c:p (I*H+j)=0
  ·have d1:¬(1:Int)<((p (I*H+j)+1:Nat):Int):=by omega
   simp only[sz,simprocAttr,d1];rw[mJ];refine⟨⟨rfl,by simp[St,LCv,sx,h1,h2,h3,h4,h5,h6,l,r,w],o5,λx q1 q2=>?_,by omega,λx hx=>by rw[f5 x hx,hf x hx]⟩,by simp[sx,h34],by simp[sx,h33]⟩
   by_cases e:x=I*H+j
   ·rw[e];exact c
   ·exact f x q1 (by omega)
  ·have d1:(1:Int)<((p (I*H+j)+1:Nat):Int):=by omega
   simp only[sz,simprocAttr,d1];show Nu C0 d ([oM 56 4,o 57 (.build [XE 0] [(0,1)] [.t 56]),o 58 (.raw (.makeInterface 175 (.tmp 57)))]++[oz (.raw (.panic (.tmp 58)))]) _ _ _ _;refine uy (by kernel_rfl) ?_;simp only[sz,simprocAttr,xF,h4];refine CD (ty:=175) (v:=.agg [XE (i:Int)]) (by simp[sx]) ?_;exact WH _ _ _ (I*H+j) ⟨_,rfl⟩ (by omega) (by omega) (by omega) (by omega) λx hx=>by rw[f5 x hx,hf x hx]
 ·rintro t df g' ⟨rfl,ht,hu,f,A,hf⟩;refine fin t g' ht hu (λj y=>?_) A hf;rw[tu y,XP];have:=hp1 j y
  by_cases h:I*H<=j/\j<I*H+H
  ·rw[XO h,f j h.1 h.2];omega
  ·rw[XS h];omega
def Cg(h:BI n XF l=true):l.length<=XF.length/\Wr ((EP (IO n) XF).take l.length) l:=by
 have k:(EP (IO n) XF).length=XF.length:=by simp[EP]
 rw[BI,XM]at h;have h1:l.length<=XF.length:=by simpa using h.1
 refine⟨h1,rE (by rw[X5];omega) λi a b ha hb=>?_⟩;have hi:i<l.length:=(XI.1 hb).1;rw[ZC,XO hi]at ha;have:=XQ.1 h.2 i (X0.2 hi);unfold i4 at this;rw[hb,ha]at this;simpa using this
def vD(p:Nat->Nat)(a N:Nat):AI p a 0 N=(List.range N).map λi=>((p i:Nat):Int):=by unfold AI;refine YZ λi _=>?_;rw[aJ];rfl
def bl6{b:List Int}{I H:Nat}(hb:proof[i]?=some b)(hI:EL (cs.take b.length) b=(I:Int))(hH:EO (cs.drop b.length)=(H:Int))(N:Nat) :
  AI (BU cs (proof.take i)) (I*H) H N=AI (BU cs (proof.take (i+1))) 0 0 N:=by
 rw[vD];unfold AI;refine YZ λj _=>?_;have hi:=(XI.1 hb);rw[X4 hi.1,hi.2,HZ];have:(xL cs b j=true)=(I*H<=j/\j<I*H+H):=by unfold xL;rw[hI,hH,X9];refine propext ⟨λh=>⟨?_,?_⟩,λh=>⟨?_,?_⟩⟩<;>omega
 simp only[this]
def bl5(hw:Xu Xt k .nil l w)(h1:K6 w){c:Nat}(hc:c<=l.length) :
  ∃w',(∀g,fE 1 w (some (XE (c:Int))) none g=.val w')/\Xu Xt k .nil (l.drop c) w':=by
 by_cases hne:l=[]
 ·subst hne;have:c=0:=by simpa using hc
  subst this;have hl:=hw.1;have h:=hw.2;unfold Oe at h
  split at h
  ·exact⟨.XC,λg=>rfl,hl,rfl⟩
  ·exact⟨.Wd,λg=>rfl,hl,rfl⟩
  ·rename_i t s rows;obtain⟨h0,-,h2⟩:=h;have hs:=h1 t s rows rfl;subst hs;have:rows=[]:=by have:=h2.len;simpa using this.symm
   subst this;exact⟨.WO t 1 [],λg=>rfl,hl,h0,.inl rfl,trivial⟩
  ·exact h.1.elim
  ·exact h.elim
 ·exact MF hw hne hc
def LDv(B:Nat)(cv u pv:AV)(np:Nat):List (Nat×AV):=[(1,Xq B),(2,cv),(3,u),(21,pv),(22,XE (np:Int))]
theorem bl4[Xr]{XB:List Int}{K KP:AV->G->Prop}(hd:0<d)(hr:NR n)(hq:pD n XF Xd mw m k q)(hp:CY XF (n.XD.length:Int)=true)(hpv:∀h,Xu Xt k h proof pv)(hbeg:proof.all (BI n XF)=true)
  (kk:(∀i,i<EK (EP (IO n) XF)->BU (EP (IO n) XF) proof i=1)->∀g',Fr g g'->K (.WM []) g') (kp:¬(∀i,i<EK (EP (IO n) XF)->BU (EP (IO n) XF) proof i=1)->∀v g',xq v->Fr g g'->KP v g') :
  We C0 d 75 [.agg [q,vv,pv]] g K KP:=by
 obtain⟨rows,r1,r2,r3,r4⟩:=gC (hpv .nil);have hn:=hq;obtain⟨t0,b7,vw,ow,ww,e0,ht,hb,hv,ho,k5⟩:=hn;have k2:=hr.l2;have k4:=bc hp (by omega);have O:=aO hp;have R:=aZ (ps:=XF) hr.cs (λp hpm=>by rw[ap];exact O p hpm);have k3:(EP (IO n) XF).length=XF.length:=by simp[EP]
 have hc:Wq (EP (IO n) XF):=⟨R,by omega⟩;obtain⟨N1,N2,N3⟩:=hc.nc;obtain⟨cs,e⟩:∃cs,cs=EP (IO n) XF:=⟨_,rfl⟩;obtain⟨N,hN⟩:∃N,N=EK (EP (IO n) XF):=⟨_,rfl⟩;rw[<-hN]at kk kp N1 N2 N3;refine xk rQ (by simp[eK]) ?_;unfold eK;dsimp only;refine bg (by kernel_rfl) ?_;simp only[sz,simprocAttr];obtain⟨g1,C⟩:∃g1,g1=g.new (Xy 3 [[q,vv,pv]]):=⟨_,rfl⟩;rw[<-C];have hl:∀g:G,bC .slice pv g=.val (XE (proof.length:Int)):=λg=>(hpv .nil).len g;obtain⟨B,hB⟩:∃B,B=g.nx:=⟨_,rfl⟩;rw[<-hB];have g0:g1.h.get B=Xy 3 [[q,vv,pv]]:=by rw[C,hB];simp[VO]
 have F:Fr g g1:=by rw[C];exact Fr.new _ _
 have h7:g1.nx=B+1:=by rw[C,hB];rfl
 clear C;have ld0:a_ (Xy 3 [[q,vv,pv]]) 0 0 false 1 0=.val q:=rfl;have ld2:a_ (Xy 3 [[q,vv,pv]]) 0 0 false 1 2=.val pv:=rfl;have he:GO 2 q=.val (.Xn t0 6 [[XE n.Xz,b7,vw,ow,ww,XE m]] 0 2):=by rw[e0];exact bZ _ _ _ _ _ _
 have hk:zV q=.val q:=by rw[e0];rfl
 unfold iB;rw[rA];show wp C0 d none _ _ _ _ _;simp only[sz,simprocAttr,g0,ld0,hk,he,bj];refine aG (Es hd hq O (hv.tree (XH _)) (by omega)) λcv hcv=>?_;rw[<-e]at hcv;have M:∀h,Xu Xt 0 h cs cv:=λh=>hcv.1.tree (XH 0);have hw:vI cs=(N:Int):=by rw[e,gE R (by omega),<-N3]
 have ks:=λg:G=>xg (d:=d) (g:=g) hd (M g.h);rw[hw]at ks;simp only[sz,simprocAttr];rw[mB];refine bg (by kernel_rfl) ?_;simp only[sz,simprocAttr,ks];refine l_ (b:=g1.nx) (n:=N) (by unfold aH;omega) (by unfold aH;omega) (XH _) λu g2 hu n2 f2 v2=>?_;simp only[sz,simprocAttr];rw[rA];refine bg (by kernel_rfl) ?_;have gB2:g2.h.get B=Xy 3 [[q,vv,pv]]:=by rw[f2 B (by omega),g0]
 simp only[sz,simprocAttr,gB2,ld2,hl];rw[ux,xe];unfold gJ gK;refine uw (m:=proof.length) (hpv .nil).1 (λj t df g'=>df=[]/\St t (LDv B cv u pv proof.length)/\Own g' (B+1) u 1 ((AI (BU cs (proof.take j)) 0 0 N).map ci)/\(∀i,i<N->BU cs (proof.take j) i<=1)/\g'.nx=g2.nx/\∀i,W5 u≠some i->g'.h.get i=g2.h.get i)
  ⟨rfl,by simp[St,LDv,sx],?_,λi _=>by simp[BU],rfl,λ_ _=>rfl⟩ (by simp[sx]) (by simp[sx]) (by decide)
  (by rintro j t df g v s (rfl|rfl|rfl) ⟨a1,⟨b1,b2,b3,b4,b5,-⟩,c⟩<;>exact⟨a1,by simp[St,LDv,sx,b1,b2,b3,b4,b5],c⟩) ?_ ?_
 ·rw[h7]at hu;have:(AI (BU cs (List.take 0 proof)) 0 0 N).map ci=List.replicate N [XE 0]:=by
   rw[vD];refine Zd λi=>?_
   by_cases h:i<N<;>simp[h,BU,ci]
  rw[this];exact hu
 ·rintro i t df g3 hi ⟨rfl,⟨h1,h2,h3,w,A,-⟩,J,E,n3,U⟩ D hy;obtain⟨b,hb,-,ha⟩:=af hi;obtain⟨z,z1,z2,hz⟩:=r3 i b hb;obtain⟨h9,P⟩:=Cg (XQ.1 hbeg b ha);have lz:∀g:G,bC .slice z g=.val (XE (b.length:Int)):=λg=>hz.len g;refine bg (by kernel_rfl) ?_;simp only[sz,simprocAttr,w,D,r1,z1,z2];obtain⟨y,y1,y2⟩:=bl5 (c:=b.length) (M .nil) hcv.2 (by rw[e];omega);have ks2:=λg:G=>xg (d:=d) (g:=g) hd (y2.tree (h':=g.h) (XH 0));refine bg (by kernel_rfl) ?_;simp only[sz,simprocAttr,h2,lz,YD,Yz,y1,ks2];refine bg (by kernel_rfl) ?_;simp only[sz,simprocAttr];rw[ux,xe];have Q:∀c∈cs,1<=c/\c<=4:=by rw[e];exact R
  have hcl:cs.length<=8:=by rw[e];omega
  rw[<-e]at P;have hs:=gE (l:=cs.drop b.length) (λc h=>Q c (Y2 h)) (by rw[ZD];omega);obtain⟨i0,i1⟩:=bz (λc h=>Q c (Ym h)) P;have hm:EO cs=EO (cs.take b.length)*EO (cs.drop b.length):=by rw[<-z_,YC]
  have k1:1<=EO (cs.drop b.length):=by have:=(Wq.mk (cs:=cs.drop b.length) (λc h=>Q c (Y2 h)) (by rw[ZD];omega)).nc;omega
  obtain⟨I,hI⟩:=XU i0;obtain⟨H,hH⟩:=XU (show 0<=EO (cs.drop b.length) by omega);have h8:I*H+H<=N:=by
   have:(((I+1)*H:Nat):Int)<=(N:Int):=by rw[N3,<-e,hm,hH,ZP];refine YI ?_ (by omega);rw[hI]at i1;omega
   have h2:(I+1)*H=I*H+H:=by rw[Yk,Y8]
   omega
  have V:=bl6 (cs:=cs) hb hI hH N;rw[hs,hH];refine bl7 (I:=I) (H:=H) (N:=N) (p:=BU cs (proof.take i)) (b:=b) (Bu:=B+1) (B:=B) (vv:=vv) (pv:=pv) (cv:=cv) (u:=u) (z:=z) (i:=i) (np:=proof.length) hd hr hq hp hz h9 (by rw[<-e];exact P) (by rw[<-e];exact hI) h8 N2 E (by rw[U B (by rw[v2];intro h;injection h with h;omega),gB2]) (by omega) ?_ (by simp[St,LCv,sx,h1,h2,h3,w,A,D]) (by simp[sx]) (by simp[sx]) ?_ ?_
  ·have:AI (BU cs (proof.take i)) (I*H) 0 N=AI (BU cs (proof.take i)) 0 0 N:=by rw[vD,vD]
   rw[this];exact J
  ·rintro t g4 ⟨h1,h2,h3,h4,h5,h6,w,A,D,-⟩ Y X n4 Z;rw[V]at Y X;rw[pi,XO rfl];refine⟨⟨rfl,by simp[St,LDv,h1,h2,h3,w,A],Y,λj f=>?_,by omega,λj f=>by rw[Z j f,U j f]⟩,D,A⟩;have:=X j f;rw[vD]at this;simp[f]at this;omega
  ·intro v t g4 j hv hf hg hh n4 Z;show KP v g4;refine kp (λhall=>?_) v g4 hv ⟨by have:=F.1;omega,λx hx=>?_⟩
   ·have r:j<N:=by omega
    have h1:=hall j r;rw[<-e]at h1;have h2:=bl9 cs (proof.take (i+1)) (proof.drop (i+1)) j;rw[YC,h1]at h2;have h3:(AI (BU cs (proof.take i)) (I*H) H N)[j]?=(AI (BU cs (proof.take (i+1))) 0 0 N)[j]?:=by rw[V]
    rw[tu r,tu r,XO ⟨hf,hg⟩,aJ,hh]at h3;injection h3 with h3;omega
   ·have T:x<g1.nx:=by omega
    have L:W5 u≠some x:=by rw[v2];intro h;injection h with h;omega
    rw[Z x L,U x L,f2 x T,F.2 x hx]
 ·rintro t df g3 ⟨rfl,⟨h1,h2,h3,w,A,-⟩,J,E,n3,U⟩;rw[XV]at J E;rw[pi,XO rfl,mB];unfold gL;have Xj:Xu (λ_=>True) 0 g3.h (AI (BU cs proof) 0 0 N) u:=J.sl (α:=Int) (by rw[tx];omega) (VJ (λa=>aK.2 rfl) _) λ_ _=>trivial;have kc:=An (d:=d) (g:=g3) (x:=0) hd Xj;have W:Fr g g3:=⟨by have:=F.1;omega,λx hx=>by
   have T:x<g1.nx:=by omega
   have L:W5 u≠some x:=by rw[v2];intro h;injection h with h;omega
   rw[U x L,f2 x T,F.2 x hx]⟩
  refine bg (by kernel_rfl) ?_
  by_cases c:(0:Int)∈AI (BU cs proof) 0 0 N
  ·rw[Yj c]at kc;simp only[sz,simprocAttr,h3,kc];rw[eD];simp only[sz,simprocAttr];show Nu C0 d ([oF 63 2 1,oL 64 63,oN 65 64,o 66 (.build [XE 0] [(0,1)] [.t 65]),o 67 (.raw (.makeInterface 175 (.tmp 66)))]++[oz (.raw (.panic (.tmp 67)))]) _ _ _ _;refine uy (by kernel_rfl) ?_;have gB3:g3.h.get B=Xy 3 [[q,vv,pv]]:=by rw[U B (by rw[v2];intro h;injection h with h;omega),gB2]
   simp only[sz,simprocAttr,xF,h1,gB3,ld2,hl];refine CD (ty:=175) (v:=.agg [XE (proof.length:Int)]) (by simp[sx]) ?_;show KP _ g3;refine kp (λhall=>?_) _ g3 ⟨_,rfl⟩ W;obtain⟨j,f⟩:=Yd c;have r:j<N:=by have:=(XI.1 f).1;rwa [tx]at this
   have h1:=hall j r;rw[<-e]at h1;rw[tu r,aJ,h1]at f;injection f with f;omega
  ·rw[Yq c]at kc;simp only[sz,simprocAttr,h3,kc];rw[eD];simp only[sz,simprocAttr];rw[mJ,Pk,Dx];simp only[sz,simprocAttr];refine kk (λj f=>?_) g3 W;rw[<-e];have h1:=E j f
   by_cases h0:BU cs proof j=0
   ·exfalso;refine c (XL (i:=j) ?_);rw[tu f,aJ,h0];rfl
   ·omega
section
variable {α:Type} [DecidableEq α]
def mgt(L:List (α×Int))(k:α):Int:=match L with
 |[]=>0
 | (a,v)::r=>if k=a then v else mgt r k
def mcl(kf:α->AV)(L:List (α×Int)):List (AV×AV):=L.map λp=>(kf p.1,XE p.2)
end
def ik(a:Int):AV:=XE a
structure BeJ (g0:G) (w m b:Int) (h:H):Prop where
 fr:∀i,i<g0.nx->i≠1->i≠5->i≠6->h.get i=g0.h.get i
 h1:h.get 1=Xy 1 [[XE w]]
 h5:h.get 5=Xy 1 [[XE m]]
 h6:h.get 6=Xy 1 [[XE b]]
def vF(n:Xb)(e XF XB:List Int)(proof:List (List Int)):Bool :=proof.all (BI n XF)&&((List.range (EK (EP (IO n) XF))).all (λi=>decide (BU (EP (IO n) XF) proof i=1))&&proof.all λb=>BO n XF (CZ n XF) (BP n e) XB b (zl n XF (BP n e) XB (C2 n)))
def rJ(n:Xb)(e XF XB:List Int)(proof:List (List Int)):Int :=if zw n e XF=0 then (if XB.length=XF.length/\BI n XF XB=true then (if vF n e XF XB proof=true then 0 else 190) else 2) else zw n e XF
def bl3{a b c:AV}(ha:a.cells=[a]/\a.isTup=false)(hb:b.cells=[b]/\b.isTup=false)(hc:c.cells=[c]/\c.isTup=false):d_ [.WQ,.XC,.XC] [((0,1),a),((1,1),b),((2,1),c)]=some [a,b,c]:=by simp[d_,ha,hb,hc,gc,bD]
theorem bl2[Xr](d:Nat)(a:AV)(g:G):∃v,(I C0).call d 73 [a] g=.ok v g:=by
 have key:=tC (C:=C0) (d:=d) (f:=73) («as»:=[a]) (g:=g) (K:=λv g'=>g'=g) nY (by simp[dR]) ?_
 ·cases hc:(I C0).call d 73 [a] g with
  |fail=>rw[hc]at key;exact key.elim
  |ok v g'=>rw[hc]at key;exact⟨v,by rw[show g'=g from key]⟩
 have e:Ii true (.iface true) .WB .WB=.val (.bool false):=rfl;simp only[dR,sx,Jq];simp only[sz,simprocAttr,e]
theorem bl1[Xr]{p:Nat}{K:G->Prop}(h:g.h.get p=Xy 1 [[XE x]])(hv:xq v)(hk:K (g.put p (Xy 1 [[XE 190]]))):TY C0 d 73 v [Xq p] g K:=by refine SU nY (by simp[dR]) ?_;unfold dR;dsimp only;refine⟨rfl,trivial,?_⟩;refine Bk (by kernel_rfl) ?_;obtain⟨x,rfl⟩:=hv;have e:Ii true (.iface true) (.V9 175 x) .WB=.val (.bool true):=rfl;simp only[sz,simprocAttr,du,e];rw[mB,eD];simp only[sz,simprocAttr];refine HB (by kernel_rfl) ?_;simp only[sz,simprocAttr,h];exact⟨rfl,hk⟩
def LRx(p x z:AV):List (Nat×AV):=[(10,Xq 1),(47,.agg [.W_ 74 [.agg [p,x,z]] [],.W_ 75 [.agg [p,x,z]] [],.W_ 76 [.agg [p,x,z]] []])]
def bl0[Xr]{p x:AV}(hd:0<d)(hr:NR n)(hpl:CY XF (n.XD.length:Int)=true)(hp:pD n XF (CZ n XF) (BP n e) m d p)
  (hx:∀h,Xu Xt d h XB x) (hz:∀h,Xu Xt d h proof z) (hl:XB.length=XF.length)
  (Xp:Xs t 10=Xq 1) (h12:Xs t 12=Xq 2) (c1:g.h.get 1=Xy 1 [[XE 0]]) (c2:g.h.get 2=Xy 3 [[p,x,z]]) (cn:3<=g.nx) :
  VX C0 (d+1) (Xw (sQ [WR 41 3 12,o 42 (.HN 74 [.t 41] []),WR 43 3 12,o 44 (.HN 75 [.t 43] []),WR 45 3 12,o 46 (.HN 76 [.t 45] []),o 47 (.build [.WT,.WT,.WT] [(0,1),(1,1),(2,1)] [.t 42,.t 44,.t 46]),oK 48 0] (.blk 0 (.loop eH))) eI)
   (fnP C0 (d+1) [SR.cell false 1 10] (λv g'=>∃P,One (if vF n e XF XB proof=true then (0:Int) else 190) P 0 g'.h v) λ_ _=>False) t [.call (.W_ 73 [] [Xq 1]) []] g:=by
 have w:=hr.l2;have A:=bc hpl (by omega);have y:(CZ n XF).length<=n.XD.length:=mE _ _;have ld:a_ (Xy 3 [[p,x,z]]) 0 0 true 3 0=.val (.agg [p,x,z]):=rfl;have fl:∀a b c:List AV,∀f1 f2 f3:Nat,d_ [.WT,.WT,.WT] [((0,1),.W_ f1 a []),((1,1),.W_ f2 b []),((2,1),.W_ f3 c [])]=some [.W_ f1 a [],.W_ f2 b [],.W_ f3 c []]:=λ_ _ _ _ _ _=>rfl;rw[rA];refine bg (by kernel_rfl) ?_;simp only[sz,simprocAttr,h12,c2,ld,fl];rw[ux,xe];unfold eH;have bad:∀(t:T) (g':G) (v:AV) (Q:QP),vF n e XF XB proof=false->xq v->Xs t 10=Xq 1->g'.h.get 1=Xy 1 [[XE 0]]->SG C0 (d+1) [SR.cell false 1 10] v t (λv g'=>∃P,One (if vF n e XF XB proof=true then (0:Int) else 190) P 0 g'.h v) (λ_ _=>False) [.call (.W_ 73 [] [Xq 1]) []] g':=by intro t g' v Q hb hv Xp c1;refine bl1 (d:=d+1) c1 hv ?_;show mN C0 (d+1) [SR.cell false 1 10] t [] _ _;rw[hb];simp only[sz,simprocAttr,Xp];exact⟨Xt,aK.2 rfl⟩
 refine JJ (m:=3) (by omega) (λj t df g=>df=[.call (.W_ 73 [] [Xq 1]) []]/\St t (LRx p x z)/\g.h.get 1=Xy 1 [[XE 0]]/\3<=g.nx/\(1<=j->proof.all (BI n XF)=true)/\(2<=j->((List.range (EK (EP (IO n) XF))).all (λi=>decide (BU (EP (IO n) XF) proof i=1)))=true)/\(3<=j->(proof.all λb=>BO n XF (CZ n XF) (BP n e) XB b (zl n XF (BP n e) XB (C2 n)))=true))
  ⟨rfl,by simp[St,LRx,sx,Xp],c1,cn,by omega,by omega,by omega⟩ (by simp[sx]) (by decide)
  (by rintro j t df g v s (rfl|rfl|rfl) ⟨a1,⟨b1,b2,-⟩,c⟩<;>exact⟨a1,by simp[St,LRx,sx,b1,b2],c⟩) ?_ ?_
 ·clear Xp h12 c1 c2 cn;rintro j t df g B ⟨rfl,⟨Xp,q,-⟩,c1,cn,u,q2,q3⟩ r;have:j=0\/j=1\/j=2:=by omega
  rcases this with rfl|rfl|rfl
  ·refine bg (by kernel_rfl) ?_;have ix0:Vj false 3 1 (.agg [.W_ 74 [.agg [p,x,z]] [],.W_ 75 [.agg [p,x,z]] [],.W_ 76 [.agg [p,x,z]] []]) (XE ((0:Nat):Int))=.val (.W_ 74 [.agg [p,x,z]] []):=rfl;simp only[sz,simprocAttr,q,r];show Nu C0 (d+1) ([oM 51 14]++[o 52 (.dyn (.t 51) [])]) _ _ _ _;refine uy (by kernel_rfl) ?_;simp only[sz,simprocAttr];refine HD (f:=74) (first:=[.agg [p,x,z]]) (cap:=[]) (by simp[sx,du]) (by kernel_rfl) ?_;refine bm9 (XB:=XB) (d:=d+1) (k:=d) (by omega) hp hpl hz (λhA g' hf=>?_) (λhA v g' hv hf=>?_)
   ·have l:=(hf.2 1 (by omega)).trans c1;have:=hf.1;refine⟨⟨rfl,by simp[St,LRx,sx,Xp,q,du],l,by omega,?_,?_,?_⟩,by simp[sx,r,du]⟩
    ·exact λ_=>hA
    ·exact λh=>absurd h (by decide)
    ·exact λh=>absurd h (by decide)
   ·have l:=(hf.2 1 (by omega)).trans c1;refine bad _ _ _ (λ_ _ _ _=>True) ?_ hv (by simp[sx,Xp,du]) l;rw[vF];rw[hA];rfl
  ·refine bg (by kernel_rfl) ?_;have ix0:Vj false 3 1 (.agg [.W_ 74 [.agg [p,x,z]] [],.W_ 75 [.agg [p,x,z]] [],.W_ 76 [.agg [p,x,z]] []]) (XE ((1:Nat):Int))=.val (.W_ 75 [.agg [p,x,z]] []):=rfl;simp only[sz,simprocAttr,q,r];show Nu C0 (d+1) ([oM 51 14]++[o 52 (.dyn (.t 51) [])]) _ _ _ _;refine uy (by kernel_rfl) ?_;simp only[sz,simprocAttr];refine HD (f:=75) (first:=[.agg [p,x,z]]) (cap:=[]) (by simp[sx,du]) (by kernel_rfl) ?_;refine bl4 (XB:=XB) (d:=d+1) (k:=d) (by omega) hr hp hpl hz (u (by omega)) (λhA g' hf=>?_) (λhA v g' hv hf=>?_)
   ·have l:=(hf.2 1 (by omega)).trans c1;have:=hf.1;refine⟨⟨rfl,by simp[St,LRx,sx,Xp,q,du],l,by omega,?_,?_,?_⟩,by simp[sx,r,du]⟩
    ·exact λ_=>u (by omega)
    ·refine λ_=>XQ.2 λi hi=>Yj (hA i (X0.1 hi))
    ·exact λh=>absurd h (by decide)
   ·have l:=(hf.2 1 (by omega)).trans c1;refine bad _ _ _ (λ_ _ _ _=>True) ?_ hv (by simp[sx,Xp,du]) l;rw[vF,u (by omega)];have:(List.range (EK (EP (IO n) XF))).all (λi=>decide (BU (EP (IO n) XF) proof i=1))=false:=by rw[ZJ];exact λh=>hA λi hi=>abj (XQ.1 h i (X0.2 hi))
    rw[this];rfl
  ·refine bg (by kernel_rfl) ?_;have ix0:Vj false 3 1 (.agg [.W_ 74 [.agg [p,x,z]] [],.W_ 75 [.agg [p,x,z]] [],.W_ 76 [.agg [p,x,z]] []]) (XE ((2:Nat):Int))=.val (.W_ 76 [.agg [p,x,z]] []):=rfl;simp only[sz,simprocAttr,q,r];show Nu C0 (d+1) ([oM 51 14]++[o 52 (.dyn (.t 51) [])]) _ _ _ _;refine uy (by kernel_rfl) ?_;simp only[sz,simprocAttr];refine HD (f:=76) (first:=[.agg [p,x,z]]) (cap:=[]) (by simp[sx,du]) (by kernel_rfl) ?_;refine bm1 (d:=d+1) (k:=d) (by omega) hr hp (aO hpl) (by omega) jr (by omega) (ma _ _ _) (A6 hr e) hz hx hl (λb hb=>(Cg (XQ.1 (u (by omega)) b hb)).1) (λhA g' hf=>?_) (λhA v g' hv hf=>?_)
   ·have l:=(hf.2 1 (by omega)).trans c1;have:=hf.1;refine⟨⟨rfl,by simp[St,LRx,sx,Xp,q,du],l,by omega,?_,?_,?_⟩,by simp[sx,r,du]⟩
    ·exact λ_=>u (by omega)
    ·exact λ_=>q2 (by omega)
    ·exact λ_=>hA
   ·have l:=(hf.2 1 (by omega)).trans c1;refine bad _ _ _ (λ_ _ _ _=>True) ?_ hv (by simp[sx,Xp,du]) l;rw[vF,u (by omega),q2 (by omega)];rw[hA];rfl
 ·rintro t df g ⟨rfl,⟨Xp,q,-⟩,c1,cn,u,q2,q3⟩;have hb:vF n e XF XB proof=true:=by rw[vF,u (by omega),q2 (by omega),q3 (by omega)];rfl
  rw[hb,pi,XO rfl,mB];unfold eI;refine bg (by kernel_rfl) ?_;simp only[sz,simprocAttr,Xp,c1];rw[HC,Pk,GQ];let⟨v,hv⟩:=bl2 (d+1) (Xq 1) (g.put 1 (Xy 1 [[XE 0]]));refine Nk hv ?_;simp only[sz,simprocAttr,Xp];exact⟨Xt,aK.2 rfl⟩
def bk_[Xr]{k1 k4:Nat}{P1 P3 P4:Nat->Prop}{x:AV}(hd:0<d)(hm:WG n Xt 0 g.h v)(he:Xu P1 k1 g.h e w)(hv:Xu P2 k2 g.h XF u)(hk2:k2<=d)(hx:Xu P3 k3 g.h XB x)(hk3:k3<=d)(hz:Xu P4 k4 g.h proof z)(hk4:k4<=d) :
  Bv C0 27 d [v,w,u,x,z] g=.val (XE (rJ n e XF XB proof)):=by
 have key:∃r,Bv C0 27 d [v,w,u,x,z] g=.val r/\One (rJ n e XF XB proof) Xt 0 .nil r:=by
  obtain⟨b,rows,rfl,e1,y,hN,-⟩:=cg d hm;let⟨w',e2,B⟩:=aB he d;let⟨u',e3,q⟩:=aB hv d;let⟨x',D,j⟩:=aB hx d;obtain⟨z',E,s⟩:=aB hz d;rw[aaZ hk2]at q;rw[aaZ hk3]at j;rw[aaZ hk4]at s;refine NA AT (xs:=[.agg [XE n.Xz,b],w',u',x',z']) (by simp only[aD,e1,e2,e3,D,E]) (by simp[mP]) (aI _) (by decide) hd ?_;unfold mP;dsimp only;refine bg (by kernel_rfl) ?_;simp only[sz,simprocAttr,dl];obtain⟨g1,i⟩:∃g1,g1=(G.empty.new (Xy 2 [[XE n.Xz,b]])).new (Xy 1 [[XE 0]]):=⟨_,rfl⟩;rw[<-i];have c0:g1.h.get 0=Xy 2 [[XE n.Xz,b]]:=by rw[i];simp[VO,show G.empty.nx=0 from rfl]
  have c1:g1.h.get 1=Xy 1 [[XE 0]]:=by rw[i];simp[VO,show G.empty.nx=0 from rfl]
  have cn:g1.nx=2:=by rw[i];rfl
  clear i;unfold pN;refine bg (by kernel_rfl) ?_;simp only[sz,simprocAttr,c0];refine aG (zU (ZU d) (y _) (B _) (q _)) λr hr=>?_;rcases D7 hr with⟨c,p,rfl,hp⟩|⟨c,rfl⟩
  rotate_left
  ·have F:rJ n e XF XB proof=zw n e XF:=XS c;simp only[sz,simprocAttr,c1];rw[rA];refine bg (by kernel_rfl) ?_;simp only[sz,simprocAttr,c];rw[eD];simp only[sz,simprocAttr];refine bg (by kernel_rfl) ?_;simp only[sz,simprocAttr];rw[HC,L0];show mN C0 (d+1) [SR.cell false 1 10] _ [] _ (λv g'=>∃P,One (rJ n e XF XB proof) P 0 g'.h v);simp only[sz,simprocAttr];rw[F];exact⟨Xt,aK.2 rfl⟩
  let⟨⟨hr,H⟩,m⟩:=tf.1 c;have J:(CZ n XF).length<=n.XD.length:=mE _ _;obtain⟨rt,k⟩:∃rt,rt=rJ n e XF XB proof:=⟨_,rfl⟩;rw[<-k];rw[rJ,XO c]at k;simp only[sz,simprocAttr,c1];rw[rA];refine bg (by kernel_rfl) ?_;simp only[sz,simprocAttr];rw[eD];simp only[sz,simprocAttr];rw[mJ,mB,rA];have lx:∀g:G,bC .slice x' g=.val (XE (XB.length:Int)):=λg=>(j .nil).len g;have lu:∀g:G,bC .slice u' g=.val (XE (XF.length:Int)):=λg=>(q .nil).len g;have kb:=λg:G=>Iy (d:=d+1) (g:=g) (l:=XB) (by omega) hp m (j g.h);refine bg (by kernel_rfl) ?_
  by_cases c2:XB.length=XF.length/\BI n XF XB=true
  rotate_left
  ·rw[XS c2]at k;have bad:∀(t:T) (g':G),Xs t 10=Xq 1->g'.h.get 1=Xy 1 [[XE 0]]->VX C0 (d+1) (sQ [oz (.store 1 (.t 10) (qI 2))] (.ret)) (Vi (VX C0 (d+1) (sQ [o 36 (.HN 73 [] [.t 10]),oz (.raw (.defer ⟨.value (.tmp 36),#[],#[]⟩))] (sQ [oM 37 11,oM 38 3,oM 39 4,o 40 (.build [.WQ,.XC,.XC] [(0,1),(1,1),(2,1)] [.t 37,.t 38,.t 39]),o 12 (.alloc [.WQ,.XC,.XC]),W8 3 12 40] (Xw (sQ [WR 41 3 12,o 42 (.HN 74 [.t 41] []),WR 43 3 12,o 44 (.HN 75 [.t 43] []),WR 45 3 12,o 46 (.HN 76 [.t 45] []),o 47 (.build [.WT,.WT,.WT] [(0,1),(1,1),(2,1)] [.t 42,.t 44,.t 46]),oK 48 0] (.blk 0 (.loop eH))) eI))) (fnP C0 (d+1) [SR.cell false 1 10] (λv g'=>∃P,One rt P 0 g'.h v) λx x_1=>False)) (fnP C0 (d+1) [SR.cell false 1 10] (λv g'=>∃P,One rt P 0 g'.h v) λx x_1=>False)) t [] g':=by intro t g' Xp hc;refine bg (by kernel_rfl) ?_;simp only[sz,simprocAttr,Xp,hc];rw[HC,L0];show mN C0 (d+1) [SR.cell false 1 10] _ [] _ (λv g'=>∃P,One rt P 0 g'.h v);simp only[sz,simprocAttr,Xp];rw[k];exact⟨Xt,aK.2 rfl⟩
   by_cases c3:XB.length=XF.length
   ·have C:BI n XF XB=false:=by rw[<-Za];exact λh=>c2 ⟨c3,h⟩
    have a:(XB.length:Int)=(XF.length:Int):=by omega
    simp only[sz,simprocAttr,lx,lu,kb,C,a];rw[eD];simp only[sz,simprocAttr];exact bad _ _ (by simp[sx]) (by simp[VO])
   ·have a:¬(XB.length:Int)=(XF.length:Int):=by omega
    simp only[sz,simprocAttr,lx,lu,a];rw[eD];simp only[sz,simprocAttr];exact bad _ _ (by simp[sx]) (by simp[VO])
  rw[XO c2]at k;subst k;have a:(XB.length:Int)=(XF.length:Int):=by have:=c2.1;omega
  rw[c2.2]at kb;simp only[sz,simprocAttr,lx,lu,kb,a];rw[eD];simp only[sz,simprocAttr];rw[mJ,mB];refine bg (by kernel_rfl) ?_;simp only[sz,simprocAttr];rw[KO (f:=73) (first:=[]) (cap:=[Xq 1]) (by simp[sx])];simp only[sz,simprocAttr,S0,Sk];refine bg (by kernel_rfl) ?_;have A:p.cells=[p]/\p.isTup=false:=by obtain⟨_,_,_,_,_,rfl,-⟩:=hp;exact⟨rfl,rfl⟩
  simp only[sz,simprocAttr,bl3 A (j .nil).cell (s .nil).cell];refine bl0 hd hr m hp j s c2.1 (by simp[sx]) (by simp[sx,cn]) ?_ ?_ ?_
  ·simp[VO,cn]
  ·simp[VO,cn]
  ·simp[cn]
 let⟨r,hr,ha⟩:=key;have ha:=aK.1 ha;injection ha with ha;rw[hr,ha]
def qt[Xr]{m:List Int}(hd:0<d)(hl:Xu P k g.h l v)(hm:Xu P2 k2 g.h m w)(hlm:l.length=m.length):ah C0 d 90 [v,w] g=.val (XE (zt l m)):=by
 obtain⟨v',e1,b⟩:=aB hl d;obtain⟨w',e2,i⟩:=aB hm d;have lv:=(b .nil).len;have rv:=λh=>(b h).ints;have rw':=λh=>(i h).ints;rw[WL];refine cq A0 (xs:=[v',w']) (by simp only[aD,e1,e2]) (by simp[mZ]) hd ?_;simp only[sz,simprocAttr,mZ,oV];refine aU l.length hl.1 (λj t df g=>df=[]/\St t [(0,v'),(1,w')]/\l.take j=m.take j) ⟨rfl,by simp[St,sx],by simp⟩ (by simp[sx]) (by decide) (by rintro j t df g v s (rfl|rfl|rfl)<;>simp[St,sx]) ?_ ?_ ?_
 ·rintro j t df g a ⟨rfl,⟨h0,h1,-⟩,f⟩ h5;simp only[sz,simprocAttr,h0,h1,h5,lv,St,f]
 ·rintro j t df g a ⟨rfl,⟨h0,h1,-⟩,f⟩ h5;obtain⟨x,hx,n,-⟩:=af a;obtain⟨y,r,o,-⟩:=af (l:=m) (j:=j) (by omega);have p:j<(l.map ci).length:=by simpa using a
  have q2:j<(m.map ci).length:=by rw[XN];omega
  have q3:(l.map ci)[j]?=some (ci x):=by rw[XK,hx];rfl
  have q:(m.map ci)[j]?=some (ci y):=by rw[XK,r];rfl
  by_cases c:x=y
  ·subst c;simp only[sz,simprocAttr,h0,h1,h5,rv,rw',p,q2,q3,q,ci,St];rw[n,o,f]
  ·have a:AO x y≠0:=by unfold AO;split<;>(try split)<;>omega
   rw[L4 f hx r a]
   by_cases h:x<y
   ·have e:AO x y = -1:=XO h;rw[e];simp only[sz,simprocAttr,h0,h1,h5,rv,rw',p,q2,q3,q,ci,St,c,h]
   ·have e:AO x y=1:=by rw[AO,XS h,dk]
    rw[e];simp only[sz,simprocAttr,h0,h1,h5,rv,rw',p,q2,q3,q,ci,St,c,h]
 ·rintro t df g ⟨rfl,-,ht⟩;rw[XV,hlm,XV]at ht;subst ht;rw[xu];simp only[sz,simprocAttr,oW]
def T0(h:H)(v:AV):Prop:=∀rows,ak h 1 v=some rows->∀z,[z]∈rows->K6 z
def RC(l:List (List Int)):VS:=λP k h v=>Xu P k h l v/\T0 h v
def bk9(l:List (List Int)):Q6 (RC l) 0:=by
 refine⟨λ{P k h v n} d r hn=>?_,λ{k h v n} r hn=>(aI l).tag (show One l Xt k h v from ⟨v,rfl,r.1⟩) hn⟩;let⟨r,m⟩:=r;let⟨v',e,w,hw,q⟩:=(aI l).Xm d (show One l P k h v from ⟨v,rfl,r⟩) hn;cases hw;obtain⟨n,rfl⟩:∃q,n=q+2:=⟨n - 2,by omega⟩;refine⟨v',e,q,?_⟩;have r0:=r.2;unfold Oe at r0
 split at r0
 ·cases e;exact m
 ·cases e;exact m
 ·cases e;exact m
 ·rename_i id ep off len lim;obtain⟨-,rows,q2,ha⟩:=r0;have m:=m rows q2;simp only[ak]at q2;simp only[Hx.Xm]at e
  split at q2
  ·rename_i sz' rows' ep' lo fz hg;rw[hg]at e;rw[aa]at q2
   split at q2
   ·rename_i hc;simp only[XM]at hc;let⟨⟨A,B⟩,C⟩:=hc;injection q2 with q2;dsimp only at e;rw[aa]at e
    split at e
    ·split at e
     ·rename_i rs t
      split at e
      ·cases e;intro rows2 b z hz;have s:rs=rows2:=by
        simp only[ak]at b;rw[aa]at b
        split at b
        ·injection b
        ·cases b
       subst s;obtain⟨row,c,o⟩:=IL t hz;rw[q2]at c;have p:row.length=1:=by have:=mC o;simpa using this.symm
       obtain⟨y,rfl⟩:=List.length_eq_one_iff.1 p;have h1:=m y c;let⟨i,hi⟩:=Yd c;obtain⟨a,-,j⟩:=ha.get' hi;let⟨y',f,j⟩:=bo.1 j;injection f with f;subst f;have hs:Hx.Xm h d (n+1) y=some z:=by
        obtain⟨x,hx,u⟩:=IL o (y:=z) (by simp);have:x=y:=by simpa using hx
        rw[<-this];exact u
       exact EA j h1 hs
      ·cases e
     ·cases e
    ·cases e
   ·cases q2
  ·cases q2
 ·exact r0.elim
def bk8[Xr](hd:0<d)(hv:Xu P k g.h ([]:List Int) v) :
  ∃r,ah C0 d 89 [v] g=.val r/\RC [[]] Xt 0 .nil r:=by
 obtain⟨v',e,j⟩:=aB hv d;rw[WL];refine aP zC (xs:=[v']) (by simp only[aD,e]) (by simp[mj]) (bk9 _) (by decide) hd ?_;simp only[mj,sz,simprocAttr,(j .nil).len];refine l_ (b:=0) (n:=0) (by simp[aH]) (by simp[aH]) (by simp) λw g1 hw n1 fr1 v1=>?_;simp only[sz,simprocAttr];refine gi (λn t df g=>df=[]/\Xs t 0=v'/\((Xs t 5=.bool true/\n=1/\Xs t 4=w/\Xs t 3=.XC/\Own g 0 w 1 [])\/(Xs t 5=.bool false/\n=0/\∃u,Xs t 3=u/\Own g 0 u 1 [[w]]/\Own g 0 w 1 []))) 1 ⟨rfl,by simp[sx],.inl ⟨by simp[sx],rfl,by simp[sx],by simp[sx],hw⟩⟩ ?_;rintro n t df g ⟨rfl,h0,⟨h5,rfl,h4,h3,hw⟩|⟨h5,rfl,u,h3,hu,hw⟩⟩
 ·simp only[fR,sz,simprocAttr,h3,h4,h5];have yc:=hw.cell;rw[nB 1 [.XC] w g (by rw[yc.1];rfl) yc.2,yc.1];simp only[sz,simprocAttr];refine aM (b:=0) (v:=.XC) (rows:=[]) (new:=[[w]]) (.inl ⟨rfl,rfl⟩) (by rw[bi];simp[VO];rfl) (Yi _) (by simp[aH]) λu g2 hu n2 f2 v2 l2=>?_;have c:Own g2 0 w 1 []:=(hw.step (Fr.new _ _)).fr n2 λi hi=>f2 i (hw.step (Fr.new _ _) |>.lt hi).2 (by simp[W5]);have f:Xu (λ_=>True) 0 g2.h ([]:List Int) w:=c.sl (α:=Int) (by simp) trivial λ_ _=>trivial;simp only[sz,simprocAttr,h0,h4];refine aG (Jo (XR d) (j g2.h) f rfl (by simp) (by simp)) λr hr=>?_;obtain⟨ra,rb,rfl,l,a⟩:=hr;have e'':=gD.1 a;injection e'' with e'';subst e'';simp only[sz,simprocAttr];exact⟨0,by omega,h0,.inr ⟨rfl,rfl,u,rfl,by simpa using hu,c⟩⟩
 ·simp only[fR,sz,simprocAttr,h5];simp only[om,sz,simprocAttr,h3];refine⟨λ_=>True,hu.sl (α:=List Int) (by simp) ?_ λ_ _=>trivial,?_⟩
  ·refine⟨bo.2 ⟨w,rfl,hw.sl (α:=Int) (by simp) trivial λ_ _=>trivial⟩,trivial⟩
  ·intro rows hr z hz;rw[hu.rows]at hr;injection hr with hr;subst hr;have:z=w:=by simpa using hz
   rw[this];exact Mg hw
def bk4[Xr]{Xv:List Int}(hd:0<d)(hv:Xu P k g.h Xv v)(hcs:Wq Xv) :
  ∃r,ah C0 d 89 [v] g=.val r/\RC (yk Xv (EK Xv)) Xt 0 .nil r:=by
 by_cases hne:Xv=[]
 ·subst hne;exact bk8 hd hv
 ·let⟨r,h1,w,hw,h2⟩:=Ml hd hv hcs;cases hw;refine⟨r,h1,h2,λrows hr z hz=>?_⟩;let⟨rows',e,q2⟩:=h2.rows;have:Rp.sz (List Int)=1:=rfl;rw[this,hr]at e;cases e;let⟨i,hi⟩:=Yd hz;let⟨a,ha,c⟩:=q2.get' hi;let⟨y',b,c⟩:=bo.1 c;cases b;refine KT c ?_;obtain⟨j,-,rfl⟩:=Ys.1 (XL ha);intro h;have:=bO Xv ((j:Nat):Int);rw[h]at this;exact hne (Zq.1 this.symm)
def Ei[Xr]{P3:Nat->Prop}(hd:0<d)(hv:Xu P k g.h XB v)(hu:Xu P2 k2 g.h XF u)(hw:Xu P3 k3 g.h l w)(hp:∀x∈XF,0<=x/\x<(XB.length:Int))(hl:l.length<=XF.length) :
  ah C0 d 66 [v,u,w] g=.val (.bool (decide ((EP XB XF).take l.length=l))):=by
 let⟨v',e1,q⟩:=aB hv d;let⟨u',e2,o⟩:=aB hu d;obtain⟨w',e3,f⟩:=aB hw d;have lw:=(f .nil).len;have rv:=λh=>(q h).ints;have ru:=λh=>(o h).ints;have rw':=λh=>(f h).ints;have D:(EP XB XF).length=XF.length:=by simp[EP]
 rw[WL];refine cM B7 (xs:=[v',u',w']) (by simp only[aD,e1,e2,e3]) (by simp[oU]) hd ?_;simp only[sz,simprocAttr,oU,qi];refine aU l.length hw.1 (λj t df g=>df=[]/\St t [(0,v'),(1,u'),(2,w')]/\(EP XB XF).take j=l.take j) ⟨rfl,by simp[St,sx],by simp⟩ (by simp[sx]) (by decide) (by rintro j t df g v s (rfl|rfl|rfl)<;>simp[St,sx]) ?_ ?_ ?_
 ·rintro j t df g i ⟨rfl,⟨h0,h1,h2,-⟩,b⟩ h5;simp only[sz,simprocAttr,h0,h1,h2,h5,lw,St,b]
 ·rintro j t df g i ⟨rfl,⟨h0,h1,h2,-⟩,b⟩ h5;obtain⟨x,hx,r,-⟩:=af i;obtain⟨p,c,-,n⟩:=af (l:=XF) (j:=j) (by omega);obtain⟨E,F⟩:=hp p n;obtain⟨pn,rfl⟩:=XU E;obtain⟨y,z,-,-⟩:=af (l:=XB) (j:=pn) (by omega);have A:j<(l.map ci).length:=by simpa using i
  have q2:(l.map ci)[j]?=some (ci x):=by rw[XK,hx];rfl
  have q3:j<(XF.map ci).length:=by rw[XN];omega
  have B:(XF.map ci)[j]?=some (ci (pn:Int)):=by rw[XK,c];rfl
  have q5:pn<(XB.map ci).length:=by rw[XN];omega
  have C:(XB.map ci)[pn]?=some (ci y):=by rw[XK,z];rfl
  have a:(EP XB XF)[j]?=some y:=by simp[EP,c,z]
  have ht:(EP XB XF).take (j+1)=(EP XB XF).take j++[y]:=by rw[X4 (by omega)];congr 2;rw[NP]at a;injection a
  by_cases e:y=x
  ·simp only[sz,simprocAttr,h0,h1,h2,h5,rv,ru,rw',A,q2,q3,B,q5,C,ci,e,St];rw[ht,r,b,e]
  ·have m:¬(EP XB XF).take l.length=l:=λh=>by have:=congrArg (·[j]?) h;simp only[ZC,i,if_true,a,hx]at this;injection this with this;exact e this
   simp only[sz,simprocAttr,h0,h1,h2,h5,rv,ru,rw',A,q2,q3,B,q5,C,ci,e,m]
 ·rintro t df g ⟨rfl,⟨h0,h1,h2,-⟩,b⟩;rw[XV]at b;simp only[sz,simprocAttr,qj,b]
def bk3{i:Int}(h:∀y∈l,0<=y)(hi:i.toNat<l.length):r9 l i 0=l:=by unfold r9;have:=h _ (Zi hi);rw[XJ hi,XP,Int.max_eq_left this,List.set_getElem_self]
theorem Ir{f:Nat->Int}{N W:Nat}{c p:Nat->Bool}{x y:Nat->Int}{M:Int}(hf:∀j,j<W->0<=f j/\f j<(N:Int))(hx:∀j,j<W->0<=x j/\x j<=M)(hxy:∀j,j<W->x j=if p j then y j else 0):∀j,j<=W->AL f N c x j=AL f N (λw=>p w&&c w) y j
 |0,_=>rfl
 | j+1,h=>by
  have ih:=Ir (c:=c) hf hx hxy j (by omega);rw[AL,AL,<-ih,hxy j (by omega)];cases hp:p j with
  |true=>simp
  | false =>
   have hb:=(xp (c:=c) hf hx j (by omega)).1;have:=hf j (by omega);cases c j with
   |true=>simpa using bk3 hb (by rw[qm];omega)
   |false=>simp
def m0(n:Xb)(e XF Xd l:List Int):Int:=(AL (zk n Xd) (AJ n Xd) (λw=>BK n e w&&zu n XF l w) (BJ n) (C2 n)).sum
def zX(hr:NR n)(hpo:∀x∈Xd,0<=x/\x<(n.XD.length:Int))(j:Nat):0<=zk n Xd j/\zk n Xd j<(AJ n Xd:Int):=by have h:=aZ (ps:=Xd) hr.cs (λp hpm=>by rw[ap];exact hpo p hpm);have k:=bm (λc hc=>(hr.cs c hc).1) (j:Int);have hf:=bz h (dB k (λp hpm=>by rw[ap];exact hpo p hpm));have h1:=(cH h).1;unfold AJ;unfold zk;omega
def Lt(hr:NR n)(e XF l:List Int):m6 n XF (CZ n XF) (BP n e) l=m0 n e XF (CZ n XF) l:=by
 unfold m6 m0;congr 1;refine Ir (M:=167961600000000) (W:=C2 n) (λj _=>zX hr jr j) (λj hj=>?_) (λj hj=>?_) _ (XH _)
 ·rw[Cs hj];have:=Aq hr j;simp only[XP]
  split<;>omega
 ·rw[Cs hj];rfl
def QF(w' u' z':AV):List (Nat×AV):=[(1,w'),(2,u'),(3,z'),(4,Xq 0)]
def bk2[Xr]{b w' u' z':AV}{Q:QT}(hN:∀h,Xu Xt 0 h n.XD b)(hn:n.XD.length<=8)(hu:∀h,Xu Xt k h XF u')(h0:g.h.get 0=Xy 2 [[XE n.Xz,b]])(hnx:1<=g.nx)
  (ht:St t (QF w' u' z')) (h9:Xs t 9=.XC) (Xp:Xs t 10=XE 0)
  (fin:∀t g' u,St t ((9,u)::QF w' u' z')->1<=g'.nx->g'.h.get 0=Xy 2 [[XE n.Xz,b]]->Own g' 1 u 1 ((CZ n XF).map ci)->Q (.exit 0) t [] g'):VY (wp C0 d none lM) Q t [] g:=by
 have lN:=(hN .nil).len;have lu:=(hu .nil).len;have ru:=λh=>(hu h).ints;simp only[lM,sJ];refine aU n.XD.length (by omega) (λj t df g=>df=[]/\St t (QF w' u' z')/\g.h.get 0=Xy 2 [[XE n.Xz,b]]/\1<=g.nx/\Own g 1 (Xs t 9) 1 ((pF XF j).map ci)) ⟨rfl,ht,h0,hnx,.inl ⟨h9,rfl⟩⟩ Xp (by decide)
  (by rintro j t df g v s (rfl|rfl|rfl) h<;>simpa[St,QF,sx]using h) ?_ ?_ ?_
 ·rintro j t df g r ⟨rfl,⟨h1,h2,h3,h4,-⟩,hg,hx,ho⟩ Xp;simp only[sz,simprocAttr,h4,Xp,hg,lN];exact⟨by simp[St,QF,sx,h1,h2,h3,h4],hx,by simpa [sx] using ho⟩
 ·rintro j t df g r ⟨rfl,⟨h1,h2,h3,h4,-⟩,hg,hx,ho⟩ Xp;have w:=mE XF j;simp only[sz,simprocAttr,sG];refine aU XF.length (hu .nil).1 (λi t df g'=>df=[]/\g'=g/\St t ((10,XE (j:Int))::(11,.bool (decide ((j:Int)∈XF.take i)))::QF w' u' z')/\Own g 1 (Xs t 9) 1 ((pF XF j).map ci)) ⟨rfl,rfl,by simp[St,QF,sx,h1,h2,h3,h4,Xp],by simpa [sx] using ho⟩ (by simp[sx]) (by decide)
   (by rintro i t df g v s (rfl|rfl|rfl) ⟨a1,a2,⟨c1,o,b1,b2,l,m,-⟩,p⟩<;>exact⟨a1,a2,by simp[St,QF,sx,c1,o,b1,b2,l,m],by simpa [sx] using p⟩) ?_ ?_ ?_
  ·rintro i t df g' hi ⟨rfl,rfl,⟨Xp,a,h1,h2,h3,h4,-⟩,ho⟩ e;simp only[sz,simprocAttr,h2,e,lu];exact⟨by simp[St,QF,sx,h1,h2,h3,h4,Xp,a],by simpa [sx] using ho⟩
  ·rintro i t df g' hi ⟨rfl,rfl,⟨Xp,a,h1,h2,h3,h4,-⟩,ho⟩ e;obtain⟨x,q,f,-⟩:=af hi;have z:i<(XF.map ci).length:=by simpa using hi
   have A:(XF.map ci)[i]?=some (ci x):=by rw[XK,q];rfl
   by_cases c:(j:Int)∈XF.take i
   ·rw[Yj c]at a;have c':(j:Int)∈XF.take (i+1):=by rw[f];simp[c]
    simp only[sz,simprocAttr,a,e];exact⟨⟨by simp[sx,Xp],by simp[St,QF,sx,h1,h2,h3,h4,c']⟩,by simpa [sx] using ho⟩
   ·rw[Yq c]at a;have c':decide ((j:Int)∈XF.take (i+1))=decide (x=(j:Int)):=by rw[f];simp[c,eq_comm]
    simp only[sz,simprocAttr,a,e,h2,ru,z,A,ci,Xp];exact⟨⟨by simp[sx,Xp],by simp[St,QF,sx,h1,h2,h3,h4,c']⟩,by simpa [sx] using ho⟩
  ·rintro t df g' ⟨rfl,rfl,⟨Xp,a,h1,h2,h3,h4,-⟩,ho⟩;rw[XV]at a
   by_cases c:(j:Int)∈XF
   ·rw[Yj c]at a;simp only[sz,simprocAttr,lP,a];refine⟨⟨by simp[St,QF,sx,h1,h2,h3,h4],hg,hx,?_⟩,by simp[Xp]⟩;rw[xB,XO c,X6];simpa [sx] using ho
   ·rw[Yq c]at a;simp only[sz,simprocAttr,lP,a,Xp];refine aM (ho.fr (g':=_) (by simp<;>omega) (λi hi=>?_)) (new:=[[XE (j:Int)]]) ?_ (by simp<;>omega) (by simp[aH]<;>omega) λv5 g5 o5 n5 f5 w5 _=>?_
    ·have:=ho.lt hi;simp[VO];omega
    ·simp[ak,VO];rfl
    ·have f0:g5.h.get 0=g'.h.get 0:=by rw[f5 0 (by simp<;>omega) λh=>by have:=ho.lt h;omega];rw[G.new_h,aq]
     have y:g'.nx<=g5.nx:=Ya (by simp) n5;simp only[sz,simprocAttr];refine⟨⟨by simp[St,QF,sx,h1,h2,h3,h4],by rw[f0,hg],by omega,?_⟩,by simp[Xp]⟩;rw[xB,XS c,YV];simpa [sx,ci] using o5
 ·rintro t df g ⟨rfl,ht,hg,hx,ho⟩;exact fin t g _ ⟨rfl,ht⟩ hx hg ho
def bk1[Xr]{k1:Nat}{P1 P3:Nat->Prop}(hd:0<d)(hm:WG n Xt 0 g.h v)(he:Xu P1 k1 g.h e w)(hv:Xu P2 k2 g.h XF u)(hl:Xu P3 k3 g.h l z)(hr:NR n)(hel:e.length=n.XD.length)(hp:CY XF (n.XD.length:Int)=true)(hbl:l.length<=XF.length) :
  ah C0 d 22 [v,w,u,z] g=.val (XE (m0 n e XF (CZ n XF) l)):=by
 obtain⟨b,rows,rfl,e1,E,hN,-⟩:=cg d hm;obtain⟨w',e2,ht⟩:=aB he d;obtain⟨u',e3,h6⟩:=aB hv d;obtain⟨z',e4,hx⟩:=aB hl d;have ha:∀h,Xu Xt 0 h n.XD b:=λh=>hN.tree (XH 0);have R:=hr.l2;have k7:=bc hp (by omega);have k6:(CZ n XF).length<=n.XD.length:=mE _ _;have T:=aZ (ps:=CZ n XF) hr.cs (λp hpm=>by rw[ap];exact jr p hpm);have k5:(EP (IO n) (CZ n XF)).length=(CZ n XF).length:=by simp[EP]
 have hh:Wq (EP (IO n) (CZ n XF)):=⟨T,by omega⟩;obtain⟨N1,N2,N3⟩:=hh.nc;have hg:EK (EP (IO n) (CZ n XF))=AJ n (CZ n XF):=rfl;rw[hg]at N1 N2 N3;obtain⟨W1,W2,W3⟩:=hr.wl;have q:=XR d;rw[WL];refine cq Dl (xs:=[.agg [XE n.Xz,b],w',u',z']) (by simp only[aD,e1,e2,e3,e4]) (by simp[qU]) hd ?_;simp only[sz,simprocAttr,qU,uQ];refine bk2 (n:=n) (b:=b) (w':=w') (u':=u') (z':=z') ha R h6 (by simp[VO,show G.empty.nx=0 from rfl]) (by simp) (by simp[St,QF,sx]) (by simp[sx]) (by simp[sx]) ?_;rintro t g1 uo ⟨h9,h1,h2,h3,h4,-⟩ k4 g0 hO;have Z:Xu (λi=>W5 uo=some i) 0 g1.h (CZ n XF) uo:=hO.sl (α:=Int) (by omega) (VJ (λa=>aK.2 rfl) _) λi hi=>hi;simp only[kB,sz,simprocAttr,sN,h4,g0,h9];refine aG (mF (n:=n) (l:=CZ n XF) q (E _) Z R (by omega) jr) λrc hrc=>?_;simp only[sz,simprocAttr,Af q (hrc.sl g1.h)];rw[gE T (by omega),<-N3];refine l_ (b:=1) (n:=AJ n (CZ n XF)) (by unfold aH;omega) (by unfold aH;omega) (by omega) λbu g2 hB n2 f2 v2=>?_;obtain⟨GR,B⟩:∃GR,GR=AL (zk n (CZ n XF)) (AJ n (CZ n XF)) (λw=>BK n e w&&zu n XF l w) (BJ n):=⟨_,rfl⟩;have L:∀j,(GR j).length=AJ n (CZ n XF):=λj=>by rw[B,qm]
 simp only[sz,simprocAttr,sH,sK];refine aU (C2 n) (by omega) (λj t df g=>df=[]/\St t ((9,uo)::(13,bu)::QF w' u' z')/\Own g 1 bu 1 ((GR j).map ci)/\(∀i,i<g1.nx->g.h.get i=g1.h.get i)/\g1.nx<=g.nx)
  ⟨rfl,by simp[St,QF,sx,h9,h1,h2,h3,h4],by simpa [B,AL,ci] using hB,f2,by omega⟩ (by simp[sx]) (by decide)
  (by rintro i t df g v s (rfl|rfl|rfl) ⟨a1,⟨c1,c2,b1,b2,b3,b4,-⟩,c3⟩<;>exact⟨a1,by simp[St,QF,sx,c1,c2,b1,b2,b3,b4],c3⟩) ?_ ?_ ?_
 ·rintro j t df g3 Y ⟨rfl,⟨h9,m,h1,h2,h3,h4,-⟩,o,r,H⟩ A;have hw:=λg=>yX (d:=d+1) (g:=g) (P:=Xt) (k:=0) q (E g.h) hr;have D:g3.h.get 0=Xy 2 [[XE n.Xz,b]]:=by rw[r 0 (by omega),g0]
  simp only[sz,simprocAttr,h4,A,D,hw];exact⟨by simp[St,QF,sx,h9,m,h1,h2,h3,h4],o,r,H⟩
 ·rintro j t df g3 Y ⟨rfl,⟨h9,m,h1,h2,h3,h4,-⟩,o,r,H⟩ A;have D:g3.h.get 0=Xy 2 [[XE n.Xz,b]]:=by rw[r 0 (by omega),g0]
  have J:Xu (λi=>W5 uo=some i) 0 g3.h (CZ n XF) uo:=Z.far8 λi hi=>r i (hO.lt hi).2;have V:=bO (IO n) (j:Int);rw[ap]at V;have ho:=bm (λc hc=>(hr.cs c hc).1) (j:Int);simp only[sz,simprocAttr,h4,A,D];refine aG (ui (d:=d+1) (P:=Xt) (k:=0) (w:=j) q (E _) hr (by omega)) λrv hrv=>?_;have F:=λg=>wV (d:=d+1) (g:=g) (P:=Xt) (P2:=Xt) (k:=0) (k2:=max k1 d) (XB:=EN (IO n) (j:Int)) (e:=e) q (hrv.sl g.h) (ht g.h) (by omega);have I:=λg:G=>Ei (d:=d+1) (g:=g) (XB:=EN (IO n) (j:Int)) (XF:=XF) (l:=l) q (hrv.sl g.h) (h6 g.h) (hx g.h) (by rw[V];exact aO hp) hbl;cases hmt:yn (EN (IO n) (j:Int)) e with
  | false =>
   have U:BK n e j=false:=hmt;rw[hmt]at F;simp only[sz,simprocAttr,h1,F];refine⟨⟨by simp[St,QF,sx,h9,m,h1,h2,h3,h4],?_,r,H⟩,by simp[A]⟩;have:GR (j+1)=GR j:=by rw[B,AL,XS (by simp[U])]
   rw[this];exact o
  | true =>
   have U:BK n e j=true:=hmt;rw[hmt]at F
   by_cases hb:(EP (EN (IO n) (j:Int)) XF).take l.length=l
   ·rw[Yj hb]at I;have O:zu n XF l j=true:=Yj hb;have X:GR (j+1)=r9 (GR j) (zk n (CZ n XF) j) (BJ n j):=by rw[B,AL,XO (by simp[U,O])]
    simp only[sz,simprocAttr,h1,h2,h3,F,I,h4,D,h9];refine aG (mF (n:=n) (l:=CZ n XF) q (E _) J R (by omega) jr) λrc2 hrc2=>?_;simp only[sz,simprocAttr,h9];refine aG (Hg (l:=EN (IO n) (j:Int)) (p:=CZ n XF) q (hrv.sl _) J (by omega) (by rw[V];exact jr)) λra hra=>?_;have Q:=λg:G=>Ix (d:=d+1) (g:=g) q (hrc2.sl g.h) (hra.sl g.h) (by omega) T (dB ho (λp hpm=>by rw[ap];exact jr p hpm));have hf:=zX hr (jr (n:=n) (XF:=XF)) j;have hq:EL (EP (IO n) (CZ n XF)) (EP (EN (IO n) (j:Int)) (CZ n XF))=zk n (CZ n XF) j:=rfl;simp only[hq]at Q;obtain⟨fn,hk⟩:=XU hf.1;rw[hk]at Q hf X;obtain⟨y,hy,-,-⟩:=af (l:=GR j) (j:=fn) (by rw[L];omega);have z1:fn<((GR j).map ci).length:=by rw[XN,L];omega
    have z2:((GR j).map ci)[fn]?=some (ci y):=by rw[XK,hy];rfl
    have hs:r9 (GR j) (fn:Int) (BJ n j)=(GR j).set fn (max y (BJ n j)):=by rw[r9,ZX,hy];rfl
    have hu:=λg=>yW (d:=d+1) (g:=g) (w:=j) q (E g.h) hr (by omega);have h7:∀g,ah C0 (d+1) 69 [.agg [XE n.Xz,b],XE (j:Int)] g=.val (XE (BJ n j)):=hu;simp only[sz,simprocAttr,Q];simp only[sz,simprocAttr,sf,m,o.rows,z1,z2,ci,h4,D,A,h7];refine bF (b:=1) (v:=bu) (sz:=1) (n:=1) (i:=fn) (off:=0) (x:=XE (max y (BJ n j))) (row:=ci y) (row':=ci (max y (BJ n j))) (o.fr (by simp<;>omega) (λi' hi'=>by simp)) z2 rfl rfl rfl λg5 o5 n5 f5=>?_;rw[<-YS,<-hs,<-X]at o5;simp only[sy]at n5 f5;simp only[sz,simprocAttr];refine⟨?_,?_⟩
    ·simp only[X7,X8,X3,XY];exact aE (false::(OQ (OO (true::[])))) [] (by simp[Xl,am,aC,zN]) (by decide) (by simp)
    refine⟨⟨by simp[St,QF,sx,h9,m,h1,h2,h3,h4],o5.fr (by simp<;>omega) λi' h=>by simp,λi hi=>?_,by first|omega| (simp<;>omega)⟩,by simp[A]⟩;rw[f5 i (λh=>by rw[v2]at h;injection h with h;omega),r i hi]
   ·rw[Yq hb]at I;have O:zu n XF l j=false:=Yq hb;simp only[sz,simprocAttr,h1,h2,h3,F,I];refine⟨⟨by simp[St,QF,sx,h9,m,h1,h2,h3,h4],?_,r,H⟩,by simp[A]⟩;have:GR (j+1)=GR j:=by rw[B,AL,XS (by simp[O])]
    rw[this];exact o
 ·rintro t df g3 ⟨rfl,⟨h9,m,h1,h2,h3,h4,-⟩,o,r,H⟩;have hB:=xp (f:=zk n (CZ n XF)) (N:=AJ n (CZ n XF)) (c:=λw=>BK n e w&&zu n XF l w) (x:=BJ n) (M:=167961600000000) (W:=C2 n) (λj _=>zX hr jr j) (λj _=>Aq hr j) (C2 n) (XH _);have h5:m0 n e XF (CZ n XF) l=(GR (C2 n)).sum:=by rw[B];rfl
  have hn:=L (C2 n);rw[h5];rw[<-B]at hB;obtain⟨G0,h8⟩:∃G0,G0=GR (C2 n):=⟨_,rfl⟩;rw[<-h8]at hB o hn ⊢;have lG:bC .slice bu g3=.val (XE (G0.length:Int)):=(o.sl (α:=Int) (P:=λ_=>True) (k:=0) (by omega) (VJ (λa=>aK.2 rfl) _) λ_ _=>trivial).len g3;have ru:=o.rows;simp only[kB,sz,simprocAttr,sM,sI];refine aU G0.length (by omega) (λj t df g=>df=[]/\g=g3/\St t [(13,bu),(17,XE ((G0.take j).sum))]) ⟨rfl,rfl,by simp[St,sx,m]⟩ (by simp[sx]) (by decide) (by rintro i t df g v s (rfl|rfl|rfl)<;>simp[St,sx]) ?_ ?_ ?_
  ·rintro j t df g Y ⟨rfl,rfl,m,C,-⟩ K;simp only[sz,simprocAttr,m,K,lG];simp[St,sx,m,C]
  ·rintro j t df g Y ⟨rfl,rfl,m,C,-⟩ K;obtain⟨y,hy,-,-⟩:=af Y;have z1:j<(G0.map ci).length:=by simpa using Y
   have z2:(G0.map ci)[j]?=some (ci y):=by rw[XK,hy];rfl
   have s1:=yd hy;have s2:=JF hB.1 (j+1);have w1:IntKind.wrap .i64 ((G0.take j).sum+y)=(G0.take (j+1)).sum:=by rw[<-s1,an]
   simp only[sz,simprocAttr,m,K,ru,z1,z2,ci,C,w1];simp[St,sx,m]
  ·rintro t df g ⟨rfl,rfl,m,C,-⟩;rw[XV]at C;simp only[sz,simprocAttr,sL,C]
def LT0(w z:AV):List (Nat×AV):=[(1,w),(2,z),(3,Xq 0),(6,Xq 1),(7,XE 0),(8,Xq 3),(11,Xq 4)]
structure TbA (g0:G) (XF:List Int) (K:Int) (w z:AV) (j:Nat) (t:T) (g:G):Prop where
 st:St t (LT0 w z)
 Xp:Xs t 10=XE (kI XF j)
 h32:Xs t 32=z
 pl:PlI XF K K.toNat j
 nx:g0.nx<=g.nx
 fr:∀i,i<g0.nx->i≠4->g.h.get i=g0.h.get i
 h4:g.h.get 4=Xy 1 [[R7 (BL (XF.take j):Int)]]
def Ah{α:Type}{l:List α}{a:α}(h:l[i]?=some a):l.set i a=l:=by
 refine Zd λj=>?_;rw[YB]
 by_cases e:i=j
 ·subst e;rw[XO rfl,XO (XI.1 h).1,h]
 ·rw[XS e]
def BS.fin0{K J:Nat}{L:List Node}{x:Node}{bx:gF}{gr Rw:Int}{t t':T}{g:G}{V:Ky->AV}{E:Ky->En}{Q:QT}(hS:BS K J L x bx gr Rw t g V E)(fin:y9 Q)(h3:Xs t' 3=Xq 1)(h4:Xs t' 4=Xq 2):Q .norm t' [] g :=fin _ _ gr _ L h3 h4 hS.f1 hS.f2 hS.sl
def DS{g:G}{rows:List (List AV)}(h:ak g.h 1 v=some rows)(hl:0<rows.length):∀g':G,g'.h=g.h->Fi 1 v (XE 0) g'=.val (jK 1 v 0 0):=λg' e =>IA (by rw[e,h];rfl) (by decide) (by rw[e,h];simpa using hl)
structure BW (x:Node) (J:Nat) (g:G) (V:Ky->AV) (E:Ky->En) (WN:List (List AV)):Prop where
 own:Own g 3 (V (J+1,1)) 1 WN
 e1:E (J+1,1)=.sl 1 WN
 len:WN.length=x.rows.length
 at_:∀(r:Nat) (y:List Int),x.rows[r]?=some y->WN[r]?=some [V (J+1,2+r)]
def BS.bw{K J:Nat}{L:List Node}{x:Node}{bx:gF}{gr Rw:Int}{t:T}{g:G}{V:Ky->AV}{E:Ky->En}(hS:BS K J L x bx gr Rw t g V E):∃WN,BW x J g V E WN:=by let⟨WN,h,q2,q3⟩:=(hS.bl.nd J x hS.hx).rs;exact⟨WN,hS.hp.own (LS.s hS.hx (by omega)) h,h,q2,q3⟩
def G6{K r:Nat}{J:Nat}{x:Node}{V V':Ky->AV}{E E':Ky->En}{WN:List (List AV)}{y':List Int}(h:tI K V E J x)(hq:∀r y,x.rows[r]?=some y->WN[r]?=some [V (J+1,2+r)])(hl:WN.length=x.rows.length)(hr:r<x.rows.length)
  (hp:E' (J+1,0)=E (J+1,0)) (h1:E' (J+1,1)=.sl 1 (WN.set r [V' (J+1,2+r)])) (h2:E' (J+1,2+r)=.sl 1 (y'.map ci)) (hv:∀q,q≠r->V' (J+1,2+q)=V (J+1,2+q)) (he:∀q,q≠r->E' (J+1,2+q)=E (J+1,2+q)) (hy:y'.length<=K):tI K V' E' J ⟨x.Xx,x.XA,x.rows.set r y'⟩:=by
 refine⟨by rw[hp];exact h.ps,⟨_,h1,by simp[hl],λq z hz=>?_⟩,λq z hz=>?_,h.len.1,by simpa using h.len.2.1,λz hz=>?_⟩
 ·have hz:(x.rows.set r y')[q]?=some z:=hz
  by_cases e:r=q
  ·subst e;rw[Zv (by omega)]
  ·rw[aag e]at hz ⊢;rw[hv q (Y5 e)];exact hq q z hz
 ·have hz:(x.rows.set r y')[q]?=some z:=hz
  by_cases e:r=q
  ·subst e;rw[Zv (by omega)]at hz;cases hz;exact h2
  ·rw[aag e]at hz;rw[he q (Y5 e)];exact h.rr q z hz
 ·rcases Zy hz with h'|rfl
  ·exact h.len.2.2 z h'
  ·exact hy
section
variable {d K J:Nat}{L:List Node}{x:Node}{bx:gF}{gr Rw:Int}{t:T}{g:G}{V:Ky->AV}{E:Ky->En}{Q:QT}
def bc4[Xr](hS:BS K J L x bx gr Rw t g V E)(fin:y9 Q) :
  wp C0 d none (.W6 [0,0,2,6,14,0,32,96,224,510,1023,2047,4095] [oM 142 10,oM 143 10,Ww 144 143,oF 145 2 144,oL 146 145,oF 147 3 2,oL 148 147,KA 149 148,PL 150 149,acq 151 1 24 146 150,Ww 152 142,oF 153 2 152,W8 1 153 151]) Q t [] g:=by
 obtain⟨h2,h3,h4,Xp,o,-⟩:=hS.st;let⟨rows,hB⟩:=hS.bt;let⟨WN,hW⟩:=hS.bw;have hK:=hS.hK;have hl:=hS.hl;have u:=hS.hp.nx;have c:=hB.nd.len;simp only[sz,simprocAttr,sf,h2,Xp,hS.f0,bM hB.ry,bT hB.ry,hB.own.rows,hB.hlt,hB.row];refine (hS.hp.step (g':=_) (by simp<;>omega) (λi hi hi2=>?_)).app2 (k:=(J+1,1)) (LS.s hS.hx (by omega)) hW.e1 (new:=[[.Xj (g.nx+1+1+1+1+1+1+1) 0 0 1 none]]) (by simp[sx,sy]) (by have:=hW.len;simp[aH];omega) λv1 ga hHa na fra foa lga vca vta=>?_
 ·simp[VO];rw[aJ,aJ]
 simp only[sx,sy]at na fra foa lga;have a:ups V (J+1,1) v1 (0,0)=V (0,0):=ae;have kn:ga.h.get (g.nx+1+1+1+1+1+1+1)=Xy 1 [[XE bx.2.2.2]]:=by rw[foa (g.nx+1+1+1+1+1+1+1) (by omega) (λe=>by rw[cJ hW.own]at e;have:=(hW.own.lt e).2;omega)];simp[VO]
 simp only[sz,simprocAttr,sf,bM hB.ry,bT hB.ry];refine (hHa.same (g':=_) (by simp) (by simp<;>omega)).putv (k:=(0,0)) LS.z a (row':=[XE x.Xx,V (J+1,0),v1]) (by rw[ae];exact hB.e0) hB.row (by rw[vca];rfl) vta (by rw[vca];rfl) λgb hHb nb frb fob=>?_;simp only[sy]at nb frb fob ⊢;refine⟨?_,?_⟩
 ·simp only[X7,X8,X3,XY];refine aE (false::(OQ (KI (true::(true::(true::(OQ (true::[])))))))) [(0,7),(1,7),(2,7),(3,7),(4,7),(0,8),(1,8),(2,8),(3,8),(4,8),(0,9)] (by simp[Xl,am,aC]) (by decide) ?_;rintro p hp x y hx b;simp only[Yh,Yc,ZQ]at hp;have ro1:=hB.own.refs_lt;rcases hp with rfl|rfl|rfl|rfl|rfl|rfl|rfl|rfl|rfl|rfl|rfl<;>(simp at hx b;subst hx;subst b;refine cK rfl rfl rfl rfl ?_ ?_ ?_<;>simp[am,aC,jI hB.ry]<;>first|omega| (intro i' n;have:=ro1 i' n;omega)|skip)
 have knb:gb.h.get (g.nx+1+1+1+1+1+1+1)=Xy 1 [[XE bx.2.2.2]]:=by rw[fob (g.nx+1+1+1+1+1+1+1) (λe=>by rw[a,cJ hB.own]at e;have:=(hB.own.lt e).2;omega)];simpa using kn
 have f:Xu P3 0 gb.h x.XA (V (J+1,0)):=by have:=hHb.own (k:=(J+1,0)) (LS.s hS.hx (by omega)) (by rw[ae,ae];exact hB.nd.ps);rw[ae]at this;exact xG this (by omega) λ_ h=>h
 have j:Xu P3 0 gb.h (x.rows++[[bx.2.2.2]]) v1:=by
  have ho:=hHb.own (k:=(J+1,1)) (LS.s hS.hx (by omega)) (by rw[ae,au]);rw[au]at ho;refine Own.sl (α:=List Int) ho (by simp<;>omega) (Xl.append (rE hW.len.symm λr y row b hr=>?_) ⟨?_,trivial⟩) λi hi=>(ho.lt hi).1
  ·rw[hW.at_ r y b]at hr;injection hr with hr;subst hr;have w:=(XI.1 b).1;have:=hHb.own (k:=(J+1,2+r)) (LS.s hS.hx (by omega)) (by rw[ae,ae];exact hB.nd.rr r y b);rw[ae]at this;exact bo.2 ⟨_,rfl,xG this (by have:=c.2.2 y (XL b);omega) λ_ h=>h⟩
  ·refine bo.2 ⟨_,rfl,by show 1<2^63;decide,(by show 3<=(g.nx+1+1+1+1+1+1+1);omega),[[XE bx.2.2.2]],?_,aK.2 rfl,trivial⟩;show ak gb.h 1 _=_;simp only[ak,knb];rfl
 obtain⟨nds,q⟩:=yK (x':=⟨x.Xx,x.XA,x.rows++[[bx.2.2.2]]⟩) hHb (λk hk=>hk) hB.Xd.v.e.z (au _ _ _) a (cE.2 ⟨_,_,rfl,f,j⟩) (by omega) (by omega);have l:gb.h.get 1=Xy 2 [[XE gr,V (0,0)]]:=by rw[frb 1 (by omega)];(try simp);rw[fra 1 (by omega),aJ,aJ,hS.f1]
 have m:gb.h.get 2=Xy 2 [[XE 0,.XC]]:=by rw[frb 2 (by omega)];(try simp);rw[fra 2 (by omega),aJ,aJ,hS.f2]
 exact fin _ _ gr _ nds (by simp[sx,h3]) (by simp[sx,h4]) (by simpa using l) (by simpa using m) (q.heap (by simp))
def bc5[Xr](hS:BS K J L x bx gr Rw t g V E)(fin:y9 Q) :
  wp C0 d none (sQ [oM 156 11,W0 157 .geq 156 0] (Xf 157 (.ops [oM 158 10,oM 159 10,Ww 160 159,oF 161 2 160,oL 162 161,oM 163 11,o 164 (.OK 1 (.t 162) [] [.t 163]),Ww 165 158,oF 166 2 165,W8 1 166 164]) (.skip))) Q t [] g:=by
 obtain⟨h2,h3,h4,Xp,a,-⟩:=hS.st;let⟨rows,hB⟩:=hS.bt;obtain⟨WN,hW⟩:=hS.bw;have hK:=hS.hK;have hl:=hS.hl;rcases hS.hR with⟨rfl,h0⟩|⟨r,rfl,hr⟩
 ·simp only[sx,SO.run,↓reduceIte,a];exact⟨λh=>by simp at h,λ_=>hS.fin0 fin (by simp[sx,h3]) (by simp[sx,h4])⟩
 ·simp only[sx,SO.run,↓reduceIte,a];refine⟨λ_=>?_,λh=>by simp at h⟩;obtain⟨y,f,q2,q3⟩:=Hm (α:=List Int) hW.own (n:=r) (by intro h;have:=hW.len;rw[h]at this;simp at this;omega) (by have:=hW.len;omega);have f:fE 1 (V (J+1,1)) none (some (XE (r:Int))) g=.val y:=f;simp only[sx,sy,SO.run,↓reduceIte,Nat.reduceEqDiff,Xp,a,bM hB.ry,bT hB.ry,hB.own.rows,hB.hlt,hB.row,f,YD,Yz,aac,XP];refine hS.hp.put LS.z (off:=2) (n:=1) (row':=[XE x.Xx,V (J+1,0),y]) hB.e0 hB.row (by simp[q2.1]) q2.2 (by rw[q2.1];rfl) λgb hHb nb frb fob=>?_;simp only[sx];have b:=hB.nd.congr (V':=V) (E':=ups E (0,0) (.sl 3 (rows.set J [XE x.Xx,V (J+1,0),y]))) (λ_=>rfl) (λq=>ae);have c:Rp.rp P3 0 gb.h (⟨x.Xx,x.XA,x.rows.take r⟩:Node) [XE x.Xx,V (J+1,0),y]:=by refine cE.2 ⟨_,_,rfl,b.pars hHb (LS.s hS.hx (by omega)) (by omega),q3 P3 0 _ gb.h (λi hi=>fob i λe=>?_) (b.rows hHb (λq hq=>LS.s hS.hx hq) (by omega))⟩;exact hS.hp.sep (0,0) (J+1,1) LS.z (LS.s hS.hx (by omega)) (by simp) i e (by rw[cJ hW.own];exact hi)
  obtain⟨nds,j⟩:=yK hHb (λk hk=>hk) hB.Xd.z (au _ _ _) rfl c (by omega) (by omega);exact fin _ _ gr _ nds (by simp[sx,h3]) (by simp[sx,h4]) (by rw[frb 1 (by omega),hS.f1]) (by rw[frb 2 (by omega),hS.f2]) j
def bc6[Xr](hS:BS K J L x bx gr Rw t g V E)(fin:y9 Q) :
  wp C0 d none (sQ [oM 169 11,W0 170 .geq 169 0,oM 171 170,WW 172 171 true 10,og 173 171 true (.Te (.t 172)),Sd 174 171 true 2 173,Wc 175 171 true 174,WW 176 171 true 11,Oj 177 171 true 1 175 176,Wc 178 171 true 177,Tc 179 171 true 178,Oo 180 171 true .gtr 179 0,Of 181 171 180] (Xf 181 (.W6 [0,1,3,7,0,31,63,0,128,511,1023] [oM 182 10,Ww 183 182,oF 184 2 183,oL 185 184,oM 186 11,oX 187 185 186,oL 188 187,oF 189 3 2,oL 190 189,o 191 (.NQ 1 (.t 188) (qI 0)),W8 1 191 190]) (.skip))) Q t [] g:=by
 obtain⟨h2,h3,h4,Xp,a,-⟩:=hS.st;let⟨rows,hB⟩:=hS.bt;let⟨WN,hW⟩:=hS.bw;have hK:=hS.hK;have hl:=hS.hl;rcases hS.hR with⟨rfl,h0⟩|⟨r,rfl,hr⟩
 ·simp only[sz,simprocAttr,a];exact hS.fin0 fin (by simp[sx,h3]) (by simp[sx,h4])
 ·obtain⟨y,l⟩:∃y,x.rows[r]?=some y:=⟨_,XJ hr⟩;have b:=hW.at_ r y l;have f:LS L (J+1,2+r):=LS.s hS.hx (by omega);have c:=hS.hp.own f (hB.nd.rr r y l);have u:=hB.nd.len.2.2 y (XL l);have ly:=bQ c.rows;rw[XN]at ly;have j:r<WN.length:=by have:=hW.len;omega
  have v:px (V (J+1,1))=true:=f_ hW.own (by omega);simp only[sz,simprocAttr,Xp,a,show decide ((r:Int) >= 0)=true from by simp,bM hB.ry,bT hB.ry,hB.own.rows,hB.hlt,hB.row,hW.own.rows,j,b,ly];refine bk (λhb=>?_) (λhb=>?_)
  ·have h:0<y.length:=by simpa using hb
   obtain⟨z,hz⟩:∃z,y[0]?=some z:=⟨_,XJ h⟩;have A:0<(y.map ci).length:=by simpa using h
   have C:(y.map ci)[0]?=some (ci z):=by rw[XK,hz];rfl
   have u3:=c.rows;have w:px (V (J+1,2+r))=true:=f_ c A;simp only[sz,simprocAttr,sf,h2,Xp,a,hS.f0,bM hB.ry,bT hB.ry,hB.own.rows,hB.hlt,hB.row,hW.own.rows,j,b,DS u3 A];refine (hS.hp.same (g':=_) (by simp) (by simp<;>omega)).put (k:=(J+1,2+r)) (i:=0) (off:=0) (n:=1) (row:=ci z) (row':=ci bx.2.2.2) f (hB.nd.rr r y l) C rfl rfl rfl λgb hHb nb frb fob=>?_;simp only[sy]at nb frb fob ⊢;refine⟨?_,?_⟩
   ·simp only[X7,X8,X3,XY];exact aE (OQ (OO (true::[]))) [] (by simp[Xl,am,aC]) (by decide) (by simp)
   have m:=G6 (r:=r) (V':=V) (E':=ups E (J+1,2+r) (.sl 1 ((y.map ci).set 0 (ci bx.2.2.2)))) (y':=y.set 0 bx.2.2.2) hB.nd hW.at_ hW.len hr (ae) (by rw[ae,hW.e1,Ah b]) (by rw[au,YS]) (λ_ _=>rfl) (λq hq=>ae) (by simpa using u);have p:=m.rd hHb (λq hq=>LS.s hS.hx (by simpa using hq)) (by omega);obtain⟨nds,B⟩:=yK (rows:=rows) (J:=J) hHb (λk hk=>hk) hB.Xd.e (by rw[ae,hB.e0];exact congrArg _ (Ah hB.row).symm) rfl p (by omega) (by omega);exact fin _ _ gr _ nds (by simp[sx,h3]) (by simp[sx,h4]) (by simp only[WS];rw[frb 1 (by omega)];simpa using hS.f1) (by simp only[WS];rw[frb 2 (by omega)];simpa using hS.f2) (B.heap (by simp))
  ·simp only[sx];exact hS.fin0 fin (by simp[sx,h3]) (by simp[sx,h4])
end
section
variable {d K J:Nat}{L:List Node}{x:Node}{bx:gF}{gr Rw:Int}{t:T}{g:G}{V:Ky->AV}{E:Ky->En}{Q:QT}
def bc7[Xr](hS:BS K J L x bx gr Rw t g V E)(fin:y9 Q) :
  wp C0 d none (sQ [oM 194 11,W0 195 .geq 194 0] (Xf 195 (.W6 [0,1,3,7,0,0,32,96,224,0,992,2016,0,8160,16383,32767] [oM 196 10,Ww 197 196,oF 198 2 197,oL 199 198,oM 200 11,oM 201 10,Ww 202 201,oF 203 2 202,oL 204 203,oM 205 11,oX 206 204 205,oL 207 206,o 208 (.NF 1 1 [XE 0] [0] [.k (XE 0)]),acq 209 1 8 207 208,oX 210 199 200,W8 1 210 209]) (.skip))) Q t [] g:=by
 obtain⟨h2,h3,h4,Xp,b,-⟩:=hS.st;let⟨rows,hB⟩:=hS.bt;obtain⟨WN,hW⟩:=hS.bw;have hK:=hS.hK;have hl:=hS.hl;have M:=hS.hp.nx;rcases hS.hR with⟨rfl,h0⟩|⟨r,rfl,hr⟩
 ·simp only[sx,SO.run,↓reduceIte,b];exact⟨λh=>by simp at h,λ_=>hS.fin0 fin (by simp[sx,h3]) (by simp[sx,h4])⟩
 ·simp only[sx,SO.run,↓reduceIte,b];refine⟨λ_=>?_,λh=>by simp at h⟩;obtain⟨y,l⟩:∃y,x.rows[r]?=some y:=⟨_,XJ hr⟩;have B:=hW.at_ r y l;have c:LS L (J+1,2+r):=LS.s hS.hx (by omega);have w:=hB.nd.rr r y l;have O:=hS.hp.own c w;have N:=hB.nd.len.2.2 y (XL l);have A:r<WN.length:=by have:=hW.len;omega
  have C:px (V (J+1,1))=true:=f_ hW.own (by omega);simp only[sx,sy,sf,SO.run,↓reduceIte,Nat.reduceEqDiff,Xp,b,bM hB.ry,bT hB.ry,hB.own.rows,hB.hlt,hB.row,hW.own.rows,A,B,aac,XP];refine (hS.hp.step (g':=_) (by simp<;>omega) (λi hi hi2=>?_)).app2 (k:=(J+1,2+r)) c w (new:=[[XE 0]]) (by simp[sx,sy]) (by simp[aH];omega) λv1 ga hHa na fra foa lga vca vta=>?_
  ·simp[VO];omega
  simp only[sx,sy]at na fra foa lga;have m:ups V (J+1,2+r) v1 (J+1,1)=V (J+1,1):=ae;have u:ups E (J+1,2+r) (.sl 1 (y.map ci++[[XE 0]])) (J+1,1)=.sl 1 WN:=by rw[ae];exact hW.e1
  have rwa:ak ga.h 1 (V (J+1,1))=some WN:=by rw[<-m];exact (hHa.own (LS.s hS.hx (by omega)) u).rows
  simp only[sx,sy,sf,SO.run,↓reduceIte,Nat.reduceEqDiff,rwa,A,aac,XP];refine (hHa.same (g':=_) (by simp) (by simp<;>omega)).putv (k:=(J+1,1)) (i:=r) (off:=0) (n:=1) (LS.s hS.hx (by omega)) m (row':=[v1]) u B (by rw[vca];rfl) vta (by rw[vca];rfl) λgb hHb nb frb fob=>?_;simp only[sy]at nb frb fob ⊢;refine⟨?_,?_⟩
  ·simp only[X7,X8,X3,XY];refine aE (KI (OO (true::(true::(false::(true::[])))))) [(0,12),(1,12),(2,12),(3,12),(4,12),(5,12),(6,12),(7,12),(8,12),(9,12),(10,12),(11,12),(0,13),(1,13),(2,13),(3,13),(4,13)] (by simp[Xl,am,aC]) (by decide) ?_;have ro1:=hB.own.refs_lt;have ro2:=hW.own.refs_lt;have lg0:∀i∈ga.lg,i ∉ aw (V (0,0)):=λi hi hm=>by
    obtain⟨id0,f⟩:∃id,MX (V (0,0))=some id/\aw (V (0,0))=[id]:=by
     rcases hB.own with⟨h,-⟩|⟨id,ep,lo,-,-,h,-⟩
     ·rw[h]at hm;simp[aw]at hm
     ·rw[h];exact⟨id,rfl,rfl⟩
    rw[f.2]at hm;have hm:=Yy.1 hm;subst hm;rcases lga i hi with h|h|h
    ·simp at h
    ·exact hS.hp.sep (J+1,2+r) (0,0) c LS.z (by simp) i h f.1
    ·have:=ro1 i (by rw[f.2];simp);omega
   rintro p hp x y hx l;simp only[Yh,Yc,ZQ]at hp;rcases hp with rfl|rfl|rfl|rfl|rfl|rfl|rfl|rfl|rfl|rfl|rfl|rfl|rfl|rfl|rfl|rfl|rfl<;>(simp at hx l;subst hx;subst l;refine cK rfl rfl rfl rfl ?_ ?_ ?_<;>simp[am,aC,jI hB.ry,jI C]<;>first|omega| (intro i' a;have:=ro1 i' a;omega)| (intro i' a;have:=ro2 i' a;omega)|exact lg0|exact (λi hi h=>lg0 h hi)|exact (λi hi h=>lg0 i h hi)| (intro i' a hm;exact lg0 _ a hm)|exact (λi hi j hj e=>lg0 i hi (e ▸ hj))|skip)
  have G:=G6 (r:=r) (V':=ups V (J+1,2+r) v1) (E':=ups (ups E (J+1,2+r) (.sl 1 (y.map ci++[[XE 0]]))) (J+1,1) (.sl 1 (WN.set r [v1]))) (y':=y++[0]) (hB.nd.up (show K<=K+1 by omega)) hW.at_ hW.len hr (by rw[ae,ae]) (by rw[au,au]) (by rw[ae,au];simp[ci]) (λq hq=>ae) (λq hq=>by rw[ae,ae]) (by simp<;>omega);have H:=G.rd hHb (λq hq=>LS.s hS.hx (by simpa using hq)) (by omega);obtain⟨nds,I⟩:=yK (rows:=rows) (J:=J) hHb (λk hk=>hk) hB.Xd.v.e.e (by rw[ae,ae,hB.e0];rw[nh,ae,ae];exact congrArg _ (Ah hB.row).symm) (ae) H (by omega) (by omega);have D:gb.h.get 1=Xy 2 [[XE gr,V (0,0)]]:=by rw[frb 1 (by omega)];(try simp);rw[fra 1 (by omega),aJ,hS.f1]
  have F:gb.h.get 2=Xy 2 [[XE 0,.XC]]:=by rw[frb 2 (by omega)];(try simp);rw[fra 2 (by omega),aJ,hS.f2]
  exact fin _ _ gr _ nds (by simp[sx,h3]) (by simp[sx,h4]) (by simpa using D) (by simpa using F) (I.heap (by simp))
def bk0[Xr](hS:BS K J L x bx gr Rw t g V E)(fin:y9 Q) :
  wp C0 d none (.ops [oF 312 1 3,oL 313 312,oF 314 0 3,oL 315 314,KA 316 315,PL 317 316,o 318 (.build [XE 0,.XC,.XC] [(0,1),(2,1)] [.k (XE 1),.t 317]),o 319 (.NF 3 1 [XE 0,.XC,.XC] [0] [.t 318]),acq 320 3 56 313 319,oF 321 1 3,W8 1 321 320]) Q t [] g:=by
 obtain⟨h2,h3,h4,Xp,p,-⟩:=hS.st;obtain⟨rows,hB⟩:=hS.bt;have hK:=hS.hK;have hl:=hS.hl;have n:=hS.hp.nx;have u:=hB.Xd.len;simp only[sz,simprocAttr,h3,hS.f1];refine (hS.hp.step (g':=_) (by simp<;>omega) (λi hi hi2=>?_)).app2 (k:=(0,0)) LS.z hB.e0 (new:=[[XE 1,.XC,.Xj (g.nx+1) 0 0 1 none]]) (by simp[sx,sy]) (by simp[aH];omega) λv1 gb hHb nb frb fob _ vca vta=>?_
 ·simp[VO];rw[aJ,aJ,aJ]
 simp only[sx,sy]at nb frb fob;have ne:∀i,g.nx<=i->MX (V (0,0))≠some i:=λi hi e=>by rw[cJ hB.own]at e;have:=(hB.own.lt e).2;omega
 have v:gb.h.get g.nx=Xy 1 [[XE gr]]:=by rw[fob g.nx (by omega) (ne _ (XH _))];simp[VO]<;>omega
 have k2:gb.h.get (g.nx+1)=Xy 1 [[.Xj g.nx 0 0 1 none]]:=by rw[fob (g.nx+1) (by omega) (ne _ (by omega))];simp[VO]<;>omega
 have a:Rp.rp P3 0 gb.h (⟨1,[],[[gr]]⟩:Node) [XE 1,.XC,.Xj (g.nx+1) 0 0 1 none]:=by
  refine cE.2 ⟨_,_,rfl,⟨by show 0<2^63;decide,rfl⟩,⟨by show 1<2^63;decide,by show 3<=g.nx+1;omega,[[.Xj g.nx 0 0 1 none]],?_,bo.2 ⟨_,rfl,by show 1<2^63;decide,n,[[XE gr]],?_,aK.2 rfl,trivial⟩,trivial⟩⟩
  ·show ak gb.h 1 _=_;simp only[ak,k2];rfl
  ·show ak gb.h 1 _=_;simp only[ak,v];rfl
 have ho:=hHb.own LS.z (au _ _ _);rw[au]at ho;obtain⟨nds,-,r⟩:=IV ho (by simp<;>omega) λi row hi=>by
  by_cases e:i<rows.length
  ·rw[XW e]at hi;obtain⟨z,hz⟩:∃z,L[i]?=some z:=⟨_,XJ (by omega)⟩;have m:=(hS.bl.nd i z hz).congr (V':=ups V (0,0) v1) (E':=ups E (0,0) (.sl 3 (rows++[[XE 1,.XC,.Xj (g.nx+1) 0 0 1 none]]))) (λq=>ae) (λq=>ae);have b:=m.rd hHb (λq hq=>LS.s hz hq) (by omega);have c:rows[i]?=some (nh V i z.Xx):=by
    by_cases e2:i=J
    ·subst e2;rw[hS.hx]at hz;injection hz with hz;subst hz;exact hB.row
    ·exact hB.Xd.ns i z e2 hz
   rw[c]at hi;injection hi with hi;subst hi;rw[nh,ae,ae]at b;exact⟨z,b⟩
  ·have l:=(XI.1 hi).1;simp at l;have e:i=rows.length:=by omega
   subst e;rw[Y0]at hi;injection hi with hi;subst hi;exact⟨_,a⟩
 have f:gb.h.get 1=Xy 2 [[XE gr,V (0,0)]]:=by rw[frb 1 (by omega),aJ,aJ,aJ,hS.f1]
 have j:gb.h.get 2=Xy 2 [[XE 0,.XC]]:=by rw[frb 2 (by omega),aJ,aJ,aJ,hS.f2]
 simp only[sz,simprocAttr,h3,f,vca,vta];exact fin _ _ gr _ nds (by simp[sx,h3]) (by simp[sx,h4]) (by simp[VO]) (by simp[VO,j]) (r.far λi hi=>by simp[VO,Uv hi])
def bj_[Xr](hS:BS K J L x bx gr Rw t g V E)(fin:y9 Q) :
  wp C0 d none (.ops [oF 102 1 3,oL 103 102,oF 104 1 3,oL 105 104,oN 106 105,W0 107 .sub 106 1,o 108 (.OK 3 (.t 103) [] [.t 107]),oF 109 1 3,W8 1 109 108]) Q t [] g:=by
 obtain⟨h2,h3,h4,Xp,a,-⟩:=hS.st;obtain⟨rows,hB⟩:=hS.bt;have hK:=hS.hK;have hl:=hS.hl;have c:=hB.Xd.len;have hlt:=hB.hlt;have len1:=bQ hB.own.rows;have e1:((rows.length:Int) - 1)=((rows.length - 1:Nat):Int):=by omega
 obtain⟨y,k,q2,q3⟩:=Hm (α:=Node) hB.own (n:=rows.length - 1) (by intro h;rw[h]at hlt;simp at hlt) (by omega);have w9:IntKind.wrap .i64 ((rows.length - 1:Nat):Int)=((rows.length - 1:Nat):Int):=an;have k:fE 3 (V (0,0)) none (some (XE ((rows.length - 1:Nat):Int))) g=.val y:=k;simp only[sz,simprocAttr,h3,hS.f1,len1,YD,Yz,e1,w9,k,q2.1,q2.2];have b:=q3 P3 0 _ g.h (λ_ _=>rfl) hS.sl;exact fin _ _ gr _ _ (by simp[sx,h3]) (by simp[sx,h4]) (by simp[VO]) (by simp[VO,hS.f2]) (b.far λi hi=>by simp[VO,Uv hi])
end
def LS.upd{L:List Node}{J:Nat}{x x':Node}(hx:L[J]?=some x)(hl:x'.rows.length=x.rows.length){k:Ky}(h:LS (L.set J x') k):LS L k:=by
 rcases h with h|⟨i,q,z,h,hz,hq⟩
 ·exact .inl h
 ·rw[YB]at hz
  by_cases e:J=i
  ·subst e;rw[XO rfl]at hz
   split at hz
   ·cases hz;exact .inr ⟨J,q,x,h,hx,by omega⟩
   ·cases hz
  ·rw[XS e]at hz;exact .inr ⟨i,q,z,h,hz,hq⟩
def Td.upd{K J:Nat}{L:List Node}{V:Ky->AV}{E:Ky->En}{rows:List (List AV)}{x':Node}(hO:R4 K L J V E rows)(e0:E (0,0)=.sl 3 rows)(hrow:rows[J]?=some (nh V J x'.Xx))(hnd:tI K V E J x'):Td K V E (L.set J x'):=by
 refine⟨⟨rows,e0,by simp[hO.len],λi z hz=>?_⟩,λi z hz=>?_⟩
 ·rw[YB]at hz
  by_cases e:J=i
  ·subst e;rw[XO rfl]at hz
   split at hz
   ·cases hz;exact hrow
   ·cases hz
  ·rw[XS e]at hz;exact hO.ns i z (Y5 e) hz
 ·rw[YB]at hz
  by_cases e:J=i
  ·subst e;rw[XO rfl]at hz
   split at hz
   ·cases hz;exact hnd
   ·cases hz
  ·rw[XS e]at hz;exact hO.nd i z (Y5 e) hz
def Node.wr(x:Node)(r:Nat)(y:List Int):Node:=⟨x.Xx,x.XA,x.rows.set r y⟩
abbrev LBS (W:AV)(J:Nat)(Rw:Int):List (Nat×AV):=[(2,Xq 0),(3,Xq 1),(4,Xq 2),(10,jK 3 W J 0),(11,XE Rw)]
section
variable {d K J r:Nat}{L:List Node}{x:Node}{bx:gF}{gr Rw:Int}{t t':T}{g gb:G}{V:Ky->AV}{E:Ky->En}{Q:QT}{y y':List Int}
def BS.put(hS:BS K J L x bx gr (r:Int) t g V E)(hy:x.rows[r]?=some y)(hHb:Hp gb 3 (LS L) V (ups E (J+1,2+r) (.sl 1 (y'.map ci))))(frb:∀i,i<3->gb.h.get i=g.h.get i)(hyl:y'.length<=K)(st:St t' (LBS (V (0,0)) J (r:Int))) :
  BS K J (L.set J (x.wr r y')) (x.wr r y') bx gr (r:Int) t' gb V (ups E (J+1,2+r) (.sl 1 (y'.map ci))):=by
 let⟨rows,hB⟩:=hS.bt;let⟨WN,hW⟩:=hS.bw;have hr:=(XI.1 hy).1;have b:=hW.at_ r y hy;have c:=(XI.1 hS.hx).1;have a:=G6 hB.nd hW.at_ hW.len hr (ae) (by rw[ae,hW.e1,Ah b]) (au _ _ _) (λ_ _=>rfl) (λq hq=>ae) hyl;have hl:(x.wr r y').rows.length=x.rows.length:=by simp[Node.wr]
 refine⟨st,hHb.sub λk hk=>LS.upd hS.hx hl hk,by rw[frb 0 (by omega)];exact hS.f0,by rw[frb 1 (by omega)];exact hS.f1,by rw[frb 2 (by omega)];exact hS.f2,Td.upd hB.Xd.e (by rw[ae];exact hB.e0) hB.row a,by rw[Zv c],.inr ⟨r,rfl,by omega⟩,hS.hK,by simpa using hS.hl⟩
def BS.mv(hS:BS K J L x bx gr Rw t g V E)(hh:gb.h=g.h)(hn:g.nx<=gb.nx)(st:St t' (LBS (V (0,0)) J Rw)):BS K J L x bx gr Rw t' gb V E :=⟨st,hS.hp.same hh hn,by rw[hh];exact hS.f0,by rw[hh];exact hS.f1,by rw[hh];exact hS.f2,hS.bl,hS.hx,hS.hR,hS.hK,hS.hl⟩
structure BR (x:Node) (J r:Nat) (y:List Int) (g:G) (V:Ky->AV) (E:Ky->En) (WN:List (List AV)):Prop where
 wr:ak g.h 1 (V (J+1,1))=some WN
 rl:r<WN.length
 T6:WN[r]?=some [V (J+1,2+r)]
 ry:px (V (J+1,1))=true
 yr:ak g.h 1 (V (J+1,2+r))=some (y.map ci)
 ye:E (J+1,2+r)=.sl 1 (y.map ci)
 yl:y.length<=K
def BS.br(hS:BS K J L x bx gr (r:Int) t g V E)(hy:x.rows[r]?=some y):∃WN,BR (K:=K) x J r y g V E WN:=by
 let⟨rows,hB⟩:=hS.bt;obtain⟨WN,hW⟩:=hS.bw;have hr:=(XI.1 hy).1;have k:r<WN.length:=by have:=hW.len;omega
 have h:=hB.nd.rr r y hy;exact⟨WN,hW.own.rows,k,hW.at_ r y hy,f_ hW.own (by omega),(hS.hp.own (LS.s hS.hx (by omega)) h).rows,h,hB.nd.len.2.2 y (XL hy)⟩
def bc8[Xr](hS:BS K J L x bx gr Rw t g V E)(fin:y9 Q) :
  wp C0 d none (sQ [oM 213 11,W0 214 .geq 213 0,oM 215 214,WW 216 215 true 10,og 217 215 true (.Te (.t 216)),Sd 218 215 true 2 217,Wc 219 215 true 218,WW 220 215 true 11,Oj 221 215 true 1 219 220,Wc 222 215 true 221,Tc 223 215 true 222,Oo 224 215 true .gtr 223 0,Of 225 215 224] (Xf 225 (Xw (.W6 [0,1,3,7,0,0,32,96,224,0,992,2016,4064,8160,16383,32767] [oM 226 10,Ww 227 226,oF 228 2 227,oL 229 228,oM 230 11,oM 231 10,Ww 232 231,oF 233 2 232,oL 234 233,oM 235 11,oX 236 234 235,oL 237 236,oN 238 237,o 239 (.VF 1 8 [XE 0] (.t 238) (.t 238)),oX 240 229 230,W8 1 240 239]) (.W6 [0,1,3,7,0,31,63,0,128,511,1023] [oM 241 10,Ww 242 241,oF 243 2 242,oL 244 243,oM 245 11,oX 246 244 245,oL 247 246,oF 248 0 3,oL 249 248,o 250 (.NQ 1 (.t 247) (qI 0)),W8 1 250 249])) (.skip))) Q t [] g:=by
 obtain⟨h2,h3,h4,Xp,a,-⟩:=hS.st;let⟨rows,hB⟩:=hS.bt;let⟨WN,hW⟩:=hS.bw;have hK:=hS.hK;have hl:=hS.hl;have N:=hS.hp.nx;rcases hS.hR with⟨rfl,h0⟩|⟨r,rfl,hr⟩
 ·simp only[sz,simprocAttr,a];exact hS.fin0 fin (by simp[sx,h3]) (by simp[sx,h4])
 ·obtain⟨y,z⟩:∃y,x.rows[r]?=some y:=⟨_,XJ hr⟩;have f:=hW.at_ r y z;have u:LS L (J+1,2+r):=LS.s hS.hx (by omega);have H:=hS.hp.own u (hB.nd.rr r y z);have I:=hB.nd.len.2.2 y (XL z);have ly:=bQ H.rows;rw[XN]at ly;have c:r<WN.length:=by have:=hW.len;omega
  have F:px (V (J+1,1))=true:=f_ hW.own (by omega);simp only[sz,simprocAttr,Xp,a,show decide ((r:Int) >= 0)=true from by simp,bM hB.ry,bT hB.ry,hB.own.rows,hB.hlt,hB.row,hW.own.rows,c,f,ly];refine bk (λhb=>?_) (λhb=>?_)
  ·have j:0<y.length:=by simpa using hb
   obtain⟨A,M⟩:∃A,A=SC.W6 [0,1,3,7,0,31,63,0,128,511,1023] [oM 241 10,Ww 242 241,oF 243 2 242,oL 244 243,oM 245 11,oX 246 244 245,oL 247 246,oF 248 0 3,oL 249 248,o 250 (.NQ 1 (.t 247) (qI 0)),W8 1 250 249]:=⟨_,rfl⟩;rw[<-M];refine jR (P:=λt' df g'=>df=[]/\∃L' x' V' E',BS K J L' x' bx gr (r:Int) t' g' V' E'/\x'.rows[r]?=some (List.replicate y.length 0)) ?_ ?_
   ·simp only[sz,simprocAttr,sf,Xp,a,bM hB.ry,bT hB.ry,hB.own.rows,hB.hlt,hB.row,hW.own.rows,c,f,ly];refine s_ (b:=3) (n:=y.length) (by unfold aH;omega) (by unfold aH;omega) (by first| (simp;done)| (simp;omega)) λW ga hWo na fra vW lga=>?_;simp only[sy]at na fra vW lga;have D:=(hS.hp.step (g':=G.mk g.h g.nx []) (XH _) (λ_ _ _=>rfl)).set (g':=ga) (k:=(J+1,2+r)) (v':=W) (e':=.sl 1 ((List.replicate y.length (0:Int)).map ci)) u (by rw[List.map_replicate];exact hWo) (by show g.nx<=ga.nx;omega) (λi _ hi _=>fra i (by have hi:i<g.nx:=hi;omega)) (.inr ⟨_,by rw[cJ hWo];exact vW,by show g.nx<=_;omega⟩);have B:ups V (J+1,2+r) W (J+1,1)=V (J+1,1):=ae;have C:ups E (J+1,2+r) (.sl 1 ((List.replicate y.length (0:Int)).map ci)) (J+1,1)=.sl 1 WN:=by rw[ae];exact hW.e1
    have rwa:ak ga.h 1 (V (J+1,1))=some WN:=by rw[<-B];exact (D.own (LS.s hS.hx (by omega)) C).rows
    simp only[sz,simprocAttr,sf,rwa,c];refine (D.same (by simp) (by simp<;>omega)).putv (k:=(J+1,1)) (i:=r) (off:=0) (n:=1) (LS.s hS.hx (by omega)) B (row':=[W]) C f (by rw[hWo.cell.1];rfl) hWo.cell.2 (by rw[hWo.cell.1];rfl) λgb hHb nb frb fob=>?_;simp only[sy]at nb frb fob ⊢;refine⟨?_,L.set J (x.wr r (List.replicate y.length 0)),x.wr r (List.replicate y.length 0),_,_,⟨?_,(hHb.same (g':=_) (by simp) (by simp<;>omega)).sub λk hk=>LS.upd hS.hx (by simp[Node.wr]) hk,?_,?_,?_,Td.upd hB.Xd.v.e.e ?_ ?_ ?_,by rw[Zv (XI.1 hS.hx).1],.inr ⟨r,rfl,by simpa [Node.wr] using hr⟩,hK,by simpa using hl⟩,by simp[Node.wr,hr]⟩
    ·simp only[X7,X8,X3,XY];refine aE (false::(KI (OO (true::(false::(true::[])))))) [(0,13),(1,13),(2,13),(3,13),(4,13)] (by simp[Xl,am,aC]) (by decide) ?_;have ro1:=hB.own.refs_lt;rintro p hp x y hx z;simp only[Yh,Yc,ZQ]at hp;rcases hp with rfl|rfl|rfl|rfl|rfl<;>(simp at hx z;subst hx;subst z;refine cK rfl rfl rfl rfl ?_ ?_ ?_<;>simp[am,aC,jI hB.ry,lga]<;>first|omega| (intro h;have:=ro1 _ h;omega)| (intro i' m e;have:=ro1 i' m;omega)| (intro i' m;have:=ro1 i' m;omega)|skip)
    ·simp[St,sx,h2,h3,h4,Xp,a,ae]
    ·simp only[WS];rw[frb 0 (by omega)];(try simp);rw[fra 0 (by omega),hS.f0]
    ·simp only[WS];rw[frb 1 (by omega),ae];(try simp);rw[fra 1 (by omega),hS.f1]
    ·simp only[WS];rw[frb 2 (by omega)];(try simp);rw[fra 2 (by omega),hS.f2]
    ·rw[ae,ae,hB.e0]
    ·rw[nh,ae,ae];exact hB.row
    ·exact G6 (r:=r) (y':=List.replicate y.length 0) hB.nd hW.at_ hW.len hr (by rw[ae,ae]) (by rw[au,au]) (by rw[ae,au]) (λq hq=>ae) (λq hq=>by rw[ae,ae]) (by simpa using I)
   clear h2 h3 h4 Xp a hB hW u H hS f c F;rintro t df g2 ⟨rfl,L',x',V',E',hS,w⟩;rw[M];obtain⟨h2,h3,h4,Xp,a,-⟩:=hS.st;let⟨rows,hB⟩:=hS.bt;let⟨WN,hR⟩:=hS.br w;have O:0<((List.replicate y.length (0:Int)).map ci).length:=by simpa using j
   have R:((List.replicate y.length (0:Int)).map ci)[0]?=some (ci 0):=by simp[j]
   have u3:=hR.yr;have S:=hR.rl;simp only[sz,simprocAttr,sf,h3,Xp,a,hS.f1,bM hB.ry,bT hB.ry,hB.own.rows,hB.hlt,hB.row,hR.wr,S,hR.T6,DS u3 O];refine (hS.hp.same (by simp) (by simp<;>omega)).put (k:=(J+1,2+r)) (i:=0) (off:=0) (n:=1) (row:=ci 0) (row':=ci gr) (LS.s hS.hx (by have:=(XI.1 w).1;omega)) hR.ye R rfl rfl rfl λgb hHb nb frb fob=>?_;simp only[sy]at nb frb fob ⊢;refine⟨?_,?_⟩
   ·simp only[X7,X8,X3,XY];exact aE (OQ (OO (true::[]))) [] (by simp[Xl,am,aC]) (by decide) (by simp)
   rw[<-YS]at hHb;have l:=hS.put (t':=t) w (hHb.same (g':=G.mk gb.h gb.nx []) rfl (XH _)) (λi hi=>by have:=frb i hi;simpa using this) (by simpa using hR.yl) (by simp[St,h2,h3,h4,Xp,a]);exact fin _ _ gr _ _ (by simp[sx,h3]) (by simp[sx,h4]) (by simpa using l.f1) (by simpa using l.f2) (l.sl.heap (by simp))
  ·simp only[sx];exact hS.fin0 fin (by simp[sx,h3]) (by simp[sx,h4])
def bj9[Xr]{n:Nat}(hn:n<=1000000)(hy0:y.length=n)(hyr:x.rows[r]?=some y)(hS:BS K J L x bx gr (r:Int) t g V E)(h12:Xs t 12=XE 0)(h13:Xs t 13=XE ((n:Int) - 1))
  (fin:∀t g L x E,BS K J L x bx gr (r:Int) t g V E->Q (.exit 5) t [] g):VY (wp C0 d none eQ) Q t [] g:=by
 obtain⟨FR,m⟩:∃FR,FR=SC.W6 [0,1,3,7,0,31,63,0,0,256,768,1792,0,7936,16128,0,65280,130816,262143,524287] [oM 279 10,Ww 280 279,oF 281 2 280,oL 282 281,oM 283 11,oX 284 282 283,oL 285 284,oM 286 12,oM 287 10,Ww 288 287,oF 289 2 288,oL 290 289,oM 291 11,oX 292 290 291,oL 293 292,oM 294 13,oX 295 293 294,oL 296 295,oX 297 285 286,W8 1 297 296]:=⟨_,rfl⟩;simp only[eQ];rw[<-m];refine aU (n / 2) (by omega) (λj t df g=>df=[]/\∃L x y E,BS K J L x bx gr (r:Int) t g V E/\x.rows[r]?=some y/\y.length=n/\Xs t 13=XE ((n:Int) - 1 - (j:Int)))
  ⟨rfl,L,x,y,E,hS,hyr,hy0,by simp[h13]⟩ h12 (by decide) ?_ ?_ ?_ ?_
 ·rintro j t df g v s (rfl|rfl|rfl) ⟨rfl,L,x,y,E,hS,h⟩<;>exact⟨rfl,L,x,y,E,⟨by have:=hS.st;simpa [St,sx] using this,hS.hp,hS.f0,hS.f1,hS.f2,hS.bl,hS.hx,hS.hR,hS.hK,hS.hl⟩,by simpa [sx] using h⟩
 ·rintro j t df g B ⟨rfl,L,x,y,E,hS,hyr,l,h13⟩ h12;simp only[sz,simprocAttr,h12,h13];refine⟨by congr 1;exact decide_eq_decide.2 (by omega),⟨L,x,y,E,⟨by have:=hS.st;simpa [St,sx] using this,hS.hp,hS.f0,hS.f1,hS.f2,hS.bl,hS.hx,hS.hR,hS.hK,hS.hl⟩,hyr,l⟩⟩
 ·rintro j t df g B ⟨rfl,L,x,y,E,hS,hyr,l,h13⟩ h12;have hk:((n:Int) - 1 - (j:Int))=((n - 1 - j:Nat):Int):=by omega
  rw[hk]at h13;obtain⟨z,hz⟩:∃z,y[j]?=some z:=⟨_,XJ (by omega)⟩;obtain⟨z',q⟩:∃z,y[n - 1 - j]?=some z:=⟨_,XJ (by omega)⟩;refine jR (P:=λt' df g'=>df=[]/\g'=g/\BS K J L x bx gr (r:Int) t' g V E/\St t' [(12,XE (j:Int)),(13,XE ((n - 1 - j:Nat):Int)),(14,XE z)]) ?_ ?_
  ·obtain⟨h2,h3,h4,Xp,b,-⟩:=hS.st;let⟨rows,hB⟩:=hS.bt;let⟨WN,hR⟩:=hS.br hyr;have p:j<(y.map ci).length:=by simp;omega
   have u:(y.map ci)[j]?=some (ci z):=by rw[XK,hz];rfl
   have e:=Cz hR.yr p;simp only[sz,simprocAttr,Xp,b,h12,bM hB.ry,bT hB.ry,hB.own.rows,hB.hlt,hB.row,hR.wr,hR.rl,hR.T6,hR.yr,p,u,ci];exact⟨⟨by simp[St,sx,h2,h3,h4,Xp,b],hS.hp,hS.f0,hS.f1,hS.f2,hS.bl,hS.hx,hS.hR,hS.hK,hS.hl⟩,by simp[St,sx,h12,h13]⟩
  clear hS h12 h13;rintro t df g1 ⟨rfl,rfl,hS,h12,h13,c,-⟩;rw[m];refine jR (P:=λt' df g'=>df=[]/\∃L x E,BS K J L x bx gr (r:Int) t' g' V E/\x.rows[r]?=some (y.set j z')/\St t' [(12,XE (j:Int)),(13,XE ((n - 1 - j:Nat):Int)),(14,XE z)]) ?_ ?_
  ·obtain⟨h2,h3,h4,Xp,b,-⟩:=hS.st;let⟨rows,hB⟩:=hS.bt;let⟨WN,hR⟩:=hS.br hyr;have p:j<(y.map ci).length:=by simp;omega
   have u:(y.map ci)[j]?=some (ci z):=by rw[XK,hz];rfl
   have u3:n - 1 - j<(y.map ci).length:=by simp;omega
   have A:(y.map ci)[n - 1 - j]?=some (ci z'):=by rw[XK,q];rfl
   have e:=Cz hR.yr p;have f:=hR.rl;simp only[sz,simprocAttr,sf,Xp,b,h12,h13,bM hB.ry,bT hB.ry,hB.own.rows,hB.hlt,hB.row,hR.wr,f,hR.T6,hR.yr,p,u3,A,ci];refine (hS.hp.same (by simp) (by simp;omega)).put (k:=(J+1,2+r)) (i:=j) (off:=0) (n:=1) (row:=ci z) (row':=ci z') (LS.s hS.hx (by have:=(XI.1 hyr).1;omega)) hR.ye u rfl rfl rfl λgb hHb nb frb fob=>?_;simp only[sy]at nb frb fob ⊢;rw[<-YS]at hHb;have a:=hS.put (t':=t) hyr (hHb.same (g':=G.mk gb.h gb.nx []) rfl (XH _)) (λi hi=>by have:=frb i hi;simpa using this) (by simpa using hR.yl) (by simp[St,h2,h3,h4,Xp,b]);refine⟨?_,_,_,_,a.mv (by simp) (by simp) (by simp[St,sx,h2,h3,h4,Xp,b]),by simp[Node.wr,(XI.1 hyr).1],by simp[St,sx,h12,h13,c]⟩;simp only[X7,X8,X3,XY];exact aE (false::(OQ (OO (OO (true::[]))))) [] (by simp[Xl,am,aC]) (by decide) (by simp)
  clear hS h12 h13 c hyr;rintro t df g2 ⟨rfl,L,x,E,hS,hyr,h12,h13,c,-⟩;refine jR (P:=λt' df g'=>df=[]/\∃L x E,BS K J L x bx gr (r:Int) t' g' V E/\x.rows[r]?=some ((y.set j z').set (n - 1 - j) z)/\St t' [(12,XE (j:Int)),(13,XE ((n - 1 - j:Nat):Int))]) ?_ ?_
  ·obtain⟨h2,h3,h4,Xp,b,-⟩:=hS.st;let⟨rows,hB⟩:=hS.bt;let⟨WN,hR⟩:=hS.br hyr;have u3:n - 1 - j<((y.set j z').map ci).length:=by simp;omega
   obtain⟨w,hw⟩:∃w,(y.set j z')[n - 1 - j]?=some w:=⟨_,XJ (by simp;omega)⟩;have A:((y.set j z').map ci)[n - 1 - j]?=some (ci w):=by rw[XK,hw];rfl
   have e:=Cz hR.yr u3;have f:=hR.rl;have o:=hR.yr;simp only[sz,simprocAttr,Xp,b,h13,c,bM hB.ry,bT hB.ry,hB.own.rows,hB.hlt,hB.row,hR.wr,f,hR.T6,o,u3];refine hS.hp.put (k:=(J+1,2+r)) (i:=n - 1 - j) (off:=0) (n:=1) (row:=ci w) (row':=ci z) (LS.s hS.hx (by have:=(XI.1 hyr).1;omega)) hR.ye A rfl rfl rfl λgb hHb nb frb fob=>?_;simp only[sx,sy];rw[<-YS]at hHb;have a:=hS.put (t':=t) hyr hHb frb (by simpa using hR.yl) (by simp[St,h2,h3,h4,Xp,b]);exact⟨_,_,_,⟨by simp[St,sx,h2,h3,h4,Xp,b],a.hp,a.f0,a.f1,a.f2,a.bl,a.hx,a.hR,a.hK,a.hl⟩,by simp[Node.wr,(XI.1 hyr).1],by simp[St,sx,h12,h13]⟩
  clear hS h12 h13 c hyr;rintro t df g3 ⟨rfl,L,x,E,hS,hyr,h12,h13,-⟩;simp only[sz,simprocAttr,h12,h13];refine⟨L,x,(y.set j z').set (n - 1 - j) z,E,hS.mv rfl (XH _) (by have:=hS.st;simpa [St,sx] using this),hyr,by simp[l],?_⟩;rw[an];congr 1;omega
 ·rintro t df g ⟨rfl,L,x,y,E,hS,-⟩;exact fin t g L x E hS
def bc9[Xr](hS:BS K J L x bx gr Rw t g V E)(fin:y9 λe t df g=>Q e t df g) :
  wp C0 d none (sQ [oM 253 11,W0 254 .geq 253 0] (Xf 254 (Xw (.quiet [oM 255 10,Ww 256 255,oF 257 2 256,oL 258 257,oM 259 11,oX 260 258 259,oL 261 260,oN 262 261,W0 263 .sub 262 1,oK 12 0,oM 13 263]) (.blk 5 (.loop eQ))) (.skip))) Q t [] g:=by
 obtain⟨h2,h3,h4,Xp,k,-⟩:=hS.st;let⟨rows,hB⟩:=hS.bt;rcases hS.hR with⟨rfl,h0⟩|⟨r,rfl,hr⟩
 ·simp only[sx,SO.run,↓reduceIte,k];exact⟨λh=>by simp at h,λ_=>hS.fin0 fin (by simp[sx,h3]) (by simp[sx,h4])⟩
 ·simp only[sx,SO.run,↓reduceIte,k];refine⟨λ_=>?_,λh=>by simp at h⟩;obtain⟨y,a⟩:∃y,x.rows[r]?=some y:=⟨_,XJ hr⟩;obtain⟨WN,hR⟩:=hS.br a;have ly:=bQ hR.yr;rw[XN]at ly;have b:=hR.yl;have hK:=hS.hK;have w9:IntKind.wrap .i64 ((y.length:Int) - 1)=(y.length:Int) - 1:=an;simp only[sx,sy,SO.run,↓reduceIte,Nat.reduceEqDiff,Xp,k,bM hB.ry,bT hB.ry,hB.own.rows,hB.hlt,hB.row,hR.wr,hR.rl,hR.T6,ly,w9,aac,XP];refine bj9 (by omega) rfl a ⟨by simp[St,sx,h2,h3,h4,Xp,k],hS.hp,hS.f0,hS.f1,hS.f2,hS.bl,hS.hx,hS.hR,hS.hK,hS.hl⟩ (by simp[sx]) (by simp[sx]) ?_;intro t g L x E hS;obtain⟨h2,h3,h4,Xp,k,-⟩:=hS.st;simp only[sx,↓reduceIte];exact hS.fin0 fin h3 h4
end
section
variable {gr:Int}{K:Nat}
def RB:VS:=λP k h v=>∃m:Xb,True/\WG m P k h v
def bj8:Q6 RB 1:=qw λm=>di _
def bk5[Xr]{nv:AV}{nds:List Node}(h3:Xs t 3=Xq 1)(h4:Xs t 4=Xq 2)(e1:g.h.get 1=Xy 2 [[XE gr,nv]])(e2:g.h.get 2=Xy 2 [[XE 0,.XC]])
  (hn:Xu P3 0 g.h nds nv):wp C0 d none eR (Sb C0 d [SR.cell true 2 4] λv g'=>∃P,RB P 0 g'.h v) t [] g:=by
 simp only[sz,simprocAttr,eR,h3,h4,e1,e2];refine⟨P3,⟨gr,nds⟩,trivial,_,rfl,?_⟩;exact Rp.mono (P:=P3) (dh.2 ⟨nv,rfl,hn⟩) (λi hi=>⟨hi,by rw[aq (by have:3<=i:=hi;omega)]⟩) (XH _)
def bk6[Xr]{J:Nat}{L:List Node}{x:Node}{bx:gF}{Rw:Int}{V:Ky->AV}{E:Ky->En}{Q:QT}(hS:BS K J L x bx gr Rw t g V E)
  (last:y9 (kB 4 (kS (wp C0 d none eR Q) Q))):wp C0 d none ji Q t [] g:=by
 obtain⟨h2,h3,h4,Xp,k,-⟩:=hS.st;have mv:∀{t':T},St t' (LBS (V (0,0)) J Rw)->BS K J L x bx gr Rw t' g V E:=λh=>hS.mv rfl (XH _) h;simp only[sz,simprocAttr,ji,h2,hS.f0,Xc,ef .u8 (show (0:Int)<=(bx.1.toNat:Int) by omega) (show (0:Int)<12 by decide)];refine bk (λhb=>?_) (λhb=>?_)
 ·exact bc0 (mv (by simp[St,sx,h2,h3,h4,Xp,k])) last
 simp only[sz,simprocAttr];refine bk (λhb=>?_) (λhb=>?_)
 ·exact bc1 (mv (by simp[St,sx,h2,h3,h4,Xp,k])) last
 simp only[sz,simprocAttr];refine bk (λhb=>?_) (λhb=>?_)
 ·exact bc2 (mv (by simp[St,sx,h2,h3,h4,Xp,k])) last
 simp only[sz,simprocAttr];refine bk (λhb=>?_) (λhb=>?_)
 ·exact bc3 (mv (by simp[St,sx,h2,h3,h4,Xp,k])) last
 simp only[sz,simprocAttr];refine bk (λhb=>?_) (λhb=>?_)
 ·exact bc4 (mv (by simp[St,sx,h2,h3,h4,Xp,k])) last
 simp only[sz,simprocAttr];refine bk (λhb=>?_) (λhb=>?_)
 ·exact bc5 (mv (by simp[St,sx,h2,h3,h4,Xp,k])) last
 simp only[sz,simprocAttr];refine bk (λhb=>?_) (λhb=>?_)
 ·exact bc6 (mv (by simp[St,sx,h2,h3,h4,Xp,k])) last
 simp only[sz,simprocAttr];refine bk (λhb=>?_) (λhb=>?_)
 ·exact bc7 (mv (by simp[St,sx,h2,h3,h4,Xp,k])) last
 simp only[sz,simprocAttr];refine bk (λhb=>?_) (λhb=>?_)
 ·exact bc8 (mv (by simp[St,sx,h2,h3,h4,Xp,k])) last
 simp only[sz,simprocAttr];refine bk (λhb=>?_) (λhb=>?_)
 ·exact bc9 (mv (by simp[St,sx,h2,h3,h4,Xp,k])) last
 simp only[sz,simprocAttr];refine bk (λhb=>?_) (λhb=>?_)
 ·exact bk0 (mv (by simp[St,sx,h2,h3,h4,Xp,k])) last
 exact bj_ (mv (by simp[St,sx,h2,h3,h4,Xp,k])) last
def bk7[Xr]{bx:gF}{b:AV}{L:List Node}{V:Ky->AV}{E:Ky->En}(hK:K<=1000000)(hl:L.length<=K)
  (ht:St t [(2,Xq 0),(3,Xq 1),(4,Xq 2)]) (h5:Xs t 5=V (0,0)) (hH:Hp g 3 (LS L) V E) (hB:Vl g [Xc bx.1,Xc bx.2.1,Xc bx.2.2.1,XE bx.2.2.2] gr b) (hD:Td K V E L) :
  wp C0 d none jj (Sb C0 d [SR.cell true 2 4] λv g'=>∃P,RB P 0 g'.h v) t [] g:=by
 obtain⟨h2,h3,h4,-⟩:=ht;let⟨n,b1,b2⟩:=hB;let⟨rows,e1,e2,e3⟩:=hD.ns;have o1:=hH.own LS.z e1;have len1:=bQ o1.rows;rw[e2]at len1;have m:=hH.nx;unfold jj;refine bP (P:=λt df g'=>df=[]/\Hp g' 3 (LS L) V E/\St t [(2,Xq 0),(3,Xq 1),(4,Xq 2),(5,V (0,0))]/\g'.h.get 0=Xy 4 [[Xc bx.1,Xc bx.2.1,Xc bx.2.2.1,XE bx.2.2.2]]/\g'.h.get 1=Xy 2 [[XE gr,V (0,0)]]/\g'.h.get 2=Xy 2 [[XE 0,.XC]]) ?_ ?_
 ·simp only[sz,simprocAttr,h3,h5,b1,o1.cell.1,o1.cell.2];exact⟨hH.step (by simp) λi hi _=>by simp[VO];omega,by simp[St,sx,h2,h3,h4,h5],by simp[n],by simp[b2]⟩
 clear n b1 b2 h2 h3 h4 h5 hH o1 m;rintro t df g1 hg;obtain⟨rfl,hH,⟨h2,h3,h4,h5,-⟩,f0,f1,f2⟩:=hg;have o1:=hH.own LS.z e1;have Xj:=hD.sl hH (by omega) (by omega);simp only[sz,simprocAttr,h5,len1];refine bk (λhb=>?_) (λhb=>?_)
 ·simp only[sz,simprocAttr,h3,h4,f1,f2];refine⟨P3,⟨gr,L⟩,trivial,_,rfl,?_⟩;exact Rp.mono (P:=P3) (dh.2 ⟨_,rfl,Xj⟩) (λi hi=>⟨hi,by rw[aq (by have:3<=i:=hi;omega)]⟩) (XH _)
 have l:0<L.length:=by have:=abO hb;omega
 have at8:bx.2.1.toNat<256:=bx.2.1.toNat_lt;have em:((bx.2.1.toNat:Int) % (L.length:Int))=((bx.2.1.toNat % L.length:Nat):Int):=by omega
 have o:bx.2.1.toNat % L.length<L.length:=YX _ l;obtain⟨J,j⟩:∃J,J=bx.2.1.toNat % L.length:=⟨_,rfl⟩;rw[<-j]at em o;obtain⟨x,hx⟩:∃x,L[J]?=some x:=⟨_,XJ o⟩;have c:J<rows.length:=by omega
 have a:rows[J]?=some [XE x.Xx,V (J+1,0),V (J+1,1)]:=e3 J x hx;have k:px (V (0,0))=true:=f_ o1 (by omega);obtain⟨WN,q,q2,q3⟩:=(hD.nd J x hx).rs;have p:=(hD.nd J x hx).len;have o2:=hH.own (LS.s hx (by omega)) q;have len2:=bQ o2.rows;rw[q2]at len2;rw[CE,xr];refine bP (P:=λt df g'=>df=[]/\g'=g1/\St t [(2,Xq 0),(3,Xq 1),(4,Xq 2),(10,jK 3 (V (0,0)) J 0)]) ?_ ?_
 ·simp only[sz,simprocAttr,h2,h3,h4,h5,f0,len1,Xc,an (show -2^63<=(bx.2.1.toNat:Int) by omega) (show (bx.2.1.toNat:Int)<2^63 by omega),ef .i64 (show (0:Int)<=(bx.2.1.toNat:Int) by omega) (show 0<(L.length:Int) by omega),em,o1.rows,c,St]
 clear h2 h3 h4 h5;rintro t df g' ⟨rfl,rfl,h2,h3,h4,Xp,-⟩;have w:bx.2.2.1.toNat<256:=bx.2.2.1.toNat_lt;refine bP (P:=λt df g''=>df=[]/\g''=g'/\St t (LBS (V (0,0)) J (-1))) ?_ ?_
 ·simp only[sz,simprocAttr,h2,h3,h4,Xp,St]
 clear h2 h3 h4 Xp;rintro t df g'' ⟨rfl,rfl,h2,h3,h4,Xp,e,-⟩;refine jR (P:=λt df g3=>df=[]/\g3=g''/\∃Rw:Int,((Rw = -1/\x.rows.length=0)\/∃r:Nat,Rw=(r:Int)/\r<x.rows.length)/\St t (LBS (V (0,0)) J Rw)) ?_ ?_
 ·simp only[sz,simprocAttr,Xp,bM k,bT k,o1.rows,c,a,len2];refine bk (λhb=>?_) (λhb=>?_)
  ·have f:0<x.rows.length:=by simpa using hb
   have em2:((bx.2.2.1.toNat:Int) % (x.rows.length:Int))=((bx.2.2.1.toNat % x.rows.length:Nat):Int):=by omega
   have hm:=YX bx.2.2.1.toNat f;simp only[sz,simprocAttr,h2,Xp,f0,Xc,an (show -2^63<=(bx.2.2.1.toNat:Int) by omega) (show (bx.2.2.1.toNat:Int)<2^63 by omega),bM k,bT k,o1.rows,c,a,len2,ef .i64 (show (0:Int)<=(bx.2.2.1.toNat:Int) by omega) (show 0<(x.rows.length:Int) by omega),em2];exact⟨_,.inr ⟨_,rfl,hm⟩,by simp[St,sx,h2,h3,h4,Xp]⟩
  ·have h0:x.rows.length=0:=by have:=abO hb;omega
   simp only[sx,sy];exact⟨-1,.inl ⟨rfl,h0⟩,by simp[St,sx,h2,h3,h4,Xp,e]⟩
 clear h2 h3 h4 Xp e;rintro t df g3 ⟨rfl,rfl,Rw,hR,ht⟩;refine bk6 (K:=K) ⟨ht,hH,f0,f1,f2,hD,hx,hR,hK,hl⟩ ?_;intro t g gr nv nds h3 h4 e1 e2 u;rw[GW,xr];exact bk5 h3 h4 e1 e2 u
theorem bj7[Xr]{x:gF}{m:Xb}(hd:0<d)(hx:WG x Xt 0 g.h v)(hm:WG m Xt 0 g.h w)(hK:K<=1000000)(hl:m.XD.length<=K)
  (hb:∀y∈m.XD,y.XA.length<=K/\y.rows.length<=K/\∀r∈y.rows,r.length<=K):∃r,ah C0 d 46 [v,w] g=.val r/\RB Xt 0 .nil r:=by
 have e0:=jM d hx;have e1:=jM d hm;obtain⟨cs,rfl,hc⟩:=hx;have hc:=mG.1 hc;subst hc;obtain⟨cs,rfl,hc⟩:=hm;obtain⟨b,rfl,hN⟩:=dh.1 hc;rw[WL];refine aP AX (xs:=[.agg [Xc x.1,Xc x.2.1,Xc x.2.2.1,XE x.2.2.2],.agg [XE m.Xz,b]]) (by simp only[aD,e0,e1]) (by simp[mV]) bj8 (by decide) hd ?_;clear e0 e1 hc;have hN:=hN.tree (h':=.nil) (XH _);simp only[sz,simprocAttr,mV];obtain⟨g0,hg0⟩:∃g0,g0=((G.empty.new (Xy 4 [[Xc x.1,Xc x.2.1,Xc x.2.2.1,XE x.2.2.2]])).new (Xy 2 [[XE m.Xz,b]])).new (Xy 2 [[XE 0,.XC]]):=⟨_,rfl⟩;rw[<-hg0];have f0:Vl g0 [Xc x.1,Xc x.2.1,Xc x.2.2.1,XE x.2.2.2] m.Xz b:=by rw[hg0];exact⟨by simp[sx,VO],by simp[sx,VO],by simp[sx]⟩
 have e:g0.nx=3:=by rw[hg0];simp[sx]
 clear hg0;have a:Hp g0 3 (LS []) (λ_=>.XC) (λk=>.sl 3 []):=⟨λk _=>.inl ⟨rfl,rfl⟩,λk l _ _ _ id h=>(by cases h),by omega⟩;simp only[sz,simprocAttr,pW];refine bp0 (V:=λ_=>.XC) hK hN hl hb (by simp[St,sx]) (by simp[sx]) (by simp[sx]) a f0 ⟨⟨[],rfl,rfl,λi y hy=>by simp at hy⟩,λi y hy=>by simp at hy⟩ ?_;clear a;intro t g V E ht h5 a hB c;simp only[sx,↓reduceIte];exact bk7 hK hl ht h5 a hB c
end
def lY{α:Type} [Rp α]{x:α}{cs:List AV}(h:Rp.rp Xt 0 .nil x cs)(h':H):WG x P 0 h' (.agg cs):=⟨_,rfl,Rp.tree h (XH _)⟩
def bj6:Nat->Prop:=λk=>k<=2
def LT1(w z:AV)(p:Nat):List (Nat×AV):=[(1,w),(2,z),(6,Xq 1),(8,Xq 3),(11,Xq 4),(14,Xq p)]
structure TbH (l cl:List Int) (p:Nat) (V:Nat->AV) (E:Nat->En) (g:G):Prop where
 hp:Hp g 5 bj6 V E
 v0:V 0=Xq p
 e0:E 0=.bx [V 1,V 2,.XC]
 e1:E 1=.sl 1 (l.map ci)
 e2:E 2=.sl 1 (cl.map ci)
structure TbB (g0:G) (cs XF:List Int) (w z:AV) (p j:Nat) (t:T) (g:G):Prop where
 st:St t (LT1 w z p)
 U4:Xs t 15=XE (EO (EP cs (XF.take j)))
 h57:Xs t 57=z
 hd:∃V E,TbH (XF.take j) (EP cs (XF.take j)) p V E g
 fr:∀i,i<5->g.h.get i=g0.h.get i
def K4:Nat->Prop:=λk=>k<=3
structure TbW (g0:G) (l cl W:List Int) (p r m:Nat) (V:Nat->AV) (E:Nat->En) (g:G):Prop where
 hp:Hp g 5 K4 V E
 v0:V 0=Xq p
 e0:E 0=.bx [V 1,V 2,V 3]
 e1:E 1=.sl 1 (l.map ci)
 e2:E 2=.sl 1 (cl.map ci)
 e3:E 3=.sl 1 (W.map ci)
 nw:∀i,MX (V 3)=some i->g0.nx<=i
 fr:∀i,i<g0.nx->i≠p->g.h.get i=g0.h.get i
def mL(n:Xb)(e XF:List Int)(i:Int)(w:Nat):Bool:=BK n e w&&decide (EL (EP (IO n) XF) (EP (EN (IO n) (w:Int)) XF)=i)
def AF(n:Xb)(e XF:List Int)(j:Nat):List Int:=(List.range (EO (EP (IO n) XF)).toNat).map λi:Nat=>CW n (mL n e XF (i:Int)) j
structure TbJ (g0:G) (n:Xb) (e XF:List Int) (m j:Nat) (h:H):Prop where
 fr:∀i,i<g0.nx->i≠m->h.get i=g0.h.get i
 hm:∃L:List (Int×Int),h.get m=.map (mcl ik L)/\∀k,mgt L k=CW n (mL n e XF k) j
def bj5(h:BK n e j=false):AF n e XF (j+1)=AF n e XF j :=YZ λi _=>by rw[CW,mL,h];simp
def kM(n:Xb)(e XF:List Int)(j:Nat):(AF n e XF j).length=(EO (EP (IO n) XF)).toNat:=by simp[AF]
def md(hi:i<(EO (EP (IO n) XF)).toNat):(AF n e XF j)[i]?=some (CW n (mL n e XF (i:Int)) j):=by simp[AF,hi]
def bj4(h:BK n e j=true)(hi:i<(EO (EP (IO n) XF)).toNat)(hK:EL (EP (IO n) XF) (EP (EN (IO n) (j:Int)) XF)=(i:Int)) :
  (AF n e XF j).set i (CW n (mL n e XF (i:Int)) j+BJ n j)=AF n e XF (j+1):=by
 refine Zd λq=>?_
 by_cases hq:q<(EO (EP (IO n) XF)).toNat
 ·rw[md hq,YB]
  by_cases e1:i=q
  ·subst e1;rw[XO rfl,XO (by rw[kM];exact hi),CW,mL,h,hK];simp[BJ]
  ·rw[XS e1,md hq,CW,mL,h,hK];have:¬((i:Int)=(q:Int)):=by omega
   simp[this]
 ·rw[Yg (by rw[aaE,kM];omega),Yg (by rw[kM];omega)]
structure RtH (l W:List Int) (C:AV) (V:Nat->AV) (E:Nat->En) (g:G):Prop where
 hp:Hp g 2 K4 V E
 v0:V 0=Xq 2
 e0:E 0=.bx [V 1,C,V 3]
 e1:E 1=.sl 1 (l.map ci)
 e3:E 3=.sl 1 (W.map ci)
end
end Hx
