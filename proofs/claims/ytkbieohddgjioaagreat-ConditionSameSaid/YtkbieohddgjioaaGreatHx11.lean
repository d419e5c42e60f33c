/- A part of the proof: what the functions of the chapter compute. -/
import Derived.Test.YtkbieohddgjioaaGreatHx10
set_option linter.all false
section
namespace Hx
open Go
noncomputable section
set_option maxRecDepth 20000
theorem IR{d:Nat}{g:G}{a b:Nat}(hd:0<d)(ha:a<18446744073709551616)(hb:b<18446744073709551616) :
  am C0 d N.aI [.int .u64 (a:Int),.int .u64 (b:Int)] g=.val (.int .u64 (Nat.gcd a b:Int)):=by
 rw[wQ];refine jR zl (xs:=[.int .u64 (a:Int),.int .u64 (b:Int)]) (by simp only[aJ,dS 0]) (by simp[o7]) hd ?_;simp only[sz,simprocAttr,o7];refine jZ (λk t df g=>df=[]/\∃x y:Nat,x<18446744073709551616/\y<18446744073709551616/\k=y/\Nat.gcd x y=Nat.gcd a b/\St t [(0,.int .u64 (x:Int)),(1,.int .u64 (y:Int))]) b
  ⟨rfl,a,b,ha,hb,rfl,rfl,by simp[sx,St]⟩ ?_
 rintro y t df g ⟨rfl,x,y',hx,hy,rfl,hg,h0,h1,-⟩;simp only[sz,simprocAttr,pR,h1];refine fI (λhq=>?_) (λhq=>?_)
 ·have hy0:0<y:=by simp at hq;omega
  have hm:=TD x hy0;simp only[sz,simprocAttr,h0,h1,eP .u64 (show (0:Int)<=(x:Int) by omega) (show (0:Int)<(y:Int) by omega)];exact⟨x % y,hm,y,x % y,hy,by omega,rfl,by rw[<-hg,Nat.gcd_comm y,<-Nat.gcd_rec,Nat.gcd_comm],by simp[St,sx]⟩
 ·have hy0:y=0:=by simp at hq;omega
  subst hy0;rw[Nat.gcd_zero_right]at hg;simp only[sz,simprocAttr,pS,h0,hg]
theorem DX{d:Nat}{g:G}{a:Int}(hd:0<d)(ha:0<=a/\a<9223372036854775808):am C0 d N.af [.int .i64 a] g=.val (.int .u64 a):=by
 rw[yY];refine jR B_ (xs:=[.int .i64 a]) (by simp only[aJ,dS 0]) (by simp[su]) hd ?_;simp only[sz,simprocAttr,su];refine fI (λhq=>?_) (λhq=>?_)
 ·simp at hq;omega
 ·simp only[sz,simprocAttr,q7 ha.1 (show a<18446744073709551616 by omega)]
theorem Qh{d:Nat}{g:G}{x y:Nat}(hd:0<d)(hx:x<=4611686018427387903)(hy:y<=4611686018427387903) :
  am C0 d N.am [.bool false,.agg [.int .u64 0,.int .u64 (x:Int)],.agg [.int .u64 0,.int .u64 (y:Int)]] g=.val (.agg [.int .i64 (x:Int),.int .i64 (y:Int)]):=by
 have key:∃r,am C0 d N.am [.bool false,.agg [.int .u64 0,.int .u64 (x:Int)],.agg [.int .u64 0,.int .u64 (y:Int)]] g=.val r/\Agg (((x:Int),(y:Int)):QI) NoP 0 .nil r:=by
  rw[AE];refine bC DC (xs:=[.bool false,.agg [.int .u64 0,.int .u64 (x:Int)],.agg [.int .u64 0,.int .u64 (y:Int)]]) rfl (by simp[uD]) (dF _) (by decide) hd ?_;have z0:∀id,FW 2 1 (.hptr id 0 0 0) (.int .i64 0)=.val (.hptr id 0 0 0):=λid=>zL 2 1 id 0 0 0 .i64 (j:=0) (by decide);have z1:∀id,FW 2 1 (.hptr id 0 0 0) (.int .i64 1)=.val (.hptr id 0 0 1):=λid=>zL 2 1 id 0 0 0 .i64 (j:=1) (by decide);have hx':decide ((4611686018427387903:Int)<(x:Int))=false:=by simp;omega
  have hy':decide ((4611686018427387903:Int)<(y:Int))=false:=by simp;omega
  simp only[sz,simprocAttr,uD,vH,z0,z1,hx',hy'];simp only[sz,simprocAttr,ua,z1,ax (show -9223372036854775808<=(x:Int) by omega) (show (x:Int)<9223372036854775808 by omega),ax (show -9223372036854775808<=(y:Int) by omega) (show (y:Int)<9223372036854775808 by omega)];exact⟨NoP,nX.2 rfl⟩
 obtain⟨r,h1,h2⟩:=key;rw[h1,nX.1 h2]
theorem Jj(d:Nat)(a b:AV)(g:G):∃v,(I C0).call d N.aK [a,b] g=.ok v g:=by
 have key:=qt (C:=C0) (d:=d) (f:=N.aK) («as»:=[a,b]) (g:=g) (K:=λv g'=>g'=g) r_ (by simp[ii]) ?_
 ·cases hc:(I C0).call d N.aK [a,b] g with
  |fail=>rw[hc]at key;exact key.elim
  |ok v g'=>rw[hc]at key;exact⟨v,by rw[show g'=g from key]⟩
 have e:yc true (.iface true) .nili .nili=.val (.bool false):=rfl;simp only[ii,sx,EX];simp only[sz,simprocAttr,e]
theorem Lu{d:Nat}{g:G}{fn:Nat}{a a':List AV}{x:QI}(hd:0<d)(hs:Hx.snap g.h d aE (.clo fn [] a)=some (.clo fn [] a'))(hc:∀(g:G) (K:AV->G->Prop) (D:ADf->Prop),(∀g',Fr g g'->K (.agg [.int .i64 x.1,.int .i64 x.2]) g')->(fd C0 (I C0) (d+1) (.clo fn [] a') [] g).sat K g D) :
  am C0 d N.aJ [.clo fn [] a] g=.val (.tup [.agg [.int .i64 x.1,.int .i64 x.2],.int .i64 0]):=by
 have key:∃r,am C0 d N.aJ [.clo fn [] a] g=.val r/\wI (Agg x) (One (0:Int)) NoP 0 .nil r:=by
  rw[rR];refine bC uA (xs:=[.clo fn [] a']) (by simp only[aJ,hs]) (by simp[jG]) (gJ (m:=2) (dF _) (bm _) (by decide) (by decide)) (by decide) hd ?_;simp only[sz,simprocAttr,jG,md];rw[GE (f:=N.aK) (first:=[]) (cap:=[.hptr 0 0 0 0,.hptr 1 0 0 0]) (by simp[sx])];simp only[sz,simprocAttr,OU,Oc];refine hc _ _ _ λg2 fr2=>?_;have k0:g2.h.get 0=VG 2 [[.int .i64 0,.int .i64 0]]:=by rw[fr2.2 0 (by simp[sx])];simp[sx,RW]
  have k1:g2.h.get 1=VG 1 [[.int .i64 0]]:=by rw[fr2.2 1 (by simp[sx])];simp[sx]
  simp only[sz,simprocAttr,k0,k1];obtain⟨v,hg1⟩:=Jj (d+1) (.hptr 0 0 0 0) (.hptr 1 0 0 0) ((g2.put 0 (VG 2 [[.int .i64 x.1,.int .i64 x.2]])).put 1 (VG 1 [[.int .i64 0]]));refine I3 hg1 ?_;simp only[sx,sy,↓reduceIte,Nat.reduceEqDiff,Nat.reduceAdd,Nat.reduceLeDiff];exact⟨NoP,_,_,rfl,nX.2 rfl,aI.2 rfl⟩
 obtain⟨r,h1,a,b,rfl,h2,h3⟩:=key;have h3:=aI.1 h3;injection h3 with h3;rw[h1,nX.1 h2,h3]
theorem FF(d:Nat)(a b:AV)(g:G):fd C0 (I C0) d (.clo N.bh [] [a,b]) [] g=orF ((I C0).call d N.bh [a,b] g):=by kernel_rfl
theorem L9{d:Nat}{g:G}{n m z:Nat}{K:AV->G->Prop}{D:ADf->Prop}(hd:0<d)(hn:n<=4611686018427387903)(hm0:0<m)(hm:m<=4611686018427387903)
  (kk:∀g',Fr g g'->K (.agg [.int .i64 (S.a_ n m).1,.int .i64 (S.a_ n m).2]) g') :
  (fd C0 (I C0) d (.clo N.bh [] [.tptr z 1 [[.int .i64 (n:Int)]] 0 0,.tptr z 1 [[.int .i64 (m:Int)]] 0 0]) [] g).sat K g D:=by
 have hg0:0<Nat.gcd n m:=Nat.gcd_pos_of_pos_right n hm0;have q1:n / Nat.gcd n m<=n:=T9 _ _;have q2:m / Nat.gcd n m<=m:=T9 _ _;have e1:∀g,am C0 d N.af [.int .i64 (n:Int)] g=.val (.int .u64 (n:Int)):=λg=>DX hd ⟨by omega,by omega⟩;have e2:∀g,am C0 d N.af [.int .i64 (m:Int)] g=.val (.int .u64 (m:Int)):=λg=>DX hd ⟨by omega,by omega⟩;have e3:∀g,am C0 d N.aI [.int .u64 (n:Int),.int .u64 (m:Int)] g=.val (.int .u64 (Nat.gcd n m:Int)):=λg=>IR hd (by omega) (by omega);have l1:decide ((n:Int)<0)=false:=by simp
 have l2:decide ((m:Int)<0)=false:=by simp
 have wq:∀x:Nat,x<=4611686018427387903->∀y:Nat,0<y->bU .quo (.int .u64 (x:Int)) (.int .u64 (y:Int))=.val (.int .u64 ((x / y:Nat):Int)):=λx hx y hy=>by have hle:x / y<=x:=T9 _ _;rw[BY .u64 (UJ x) (by omega),<-Int.natCast_ediv];generalize x / y=z at hle;rw[q7 (by omega) (by omega)]
 have e4:∀g,am C0 d N.am [.bool false,.agg [.int .u64 0,.int .u64 ((n / Nat.gcd n m:Nat):Int)],.agg [.int .u64 0,.int .u64 ((m / Nat.gcd n m:Nat):Int)]] g=.val (.agg [.int .i64 ((n / Nat.gcd n m:Nat):Int),.int .i64 ((m / Nat.gcd n m:Nat):Int)]):=λg=>Qh hd (by omega) (by omega);rw[FF];refine dc zk (by simp[o5]) ?_;simp only[sz,simprocAttr,o5,q_,sf,kP,e1,e2,e3,l1,l2,Q_,wq n hn _ hg0,wq m hm _ hg0,e4];refine⟨?_,kk _ ⟨by simp;omega,λi hi=>?_⟩⟩
 ·simp only[Si,Sl,Sf,Sd];exact aA [false,false,false,false,false,false,false,false,false,false,false,false,false,false,false,false,true] [] (by simp[All2,ac,ap,zw,AR]) (by decide) (by simp)
 ·simp[RW,show ¬i=g.nx by omega]
theorem K7{d:Nat}{g:G}{n m:Nat}(hd:0<d)(hn:n<=4611686018427387903)(hm0:0<m)(hm:m<=4611686018427387903) :
  am C0 d N.aH [.int .i64 (n:Int),.int .i64 (m:Int)] g=.val (.tup [.agg [.int .i64 (S.a_ n m).1,.int .i64 (S.a_ n m).2],.int .i64 0]):=by
 have key:∃r,am C0 d N.aH [.int .i64 (n:Int),.int .i64 (m:Int)] g=.val r/\wI (Agg (S.a_ n m)) (One (0:Int)) NoP 0 .nil r:=by
  rw[yX];refine bC B9 (xs:=[.int .i64 (n:Int),.int .i64 (m:Int)]) rfl (by simp[sn]) (gJ (m:=2) (dF _) (bm _) (by decide) (by decide)) (by decide) hd ?_;have l1:decide ((m:Int)=0)=false:=by simp;omega
  simp only[sz,simprocAttr,sn,t_,l1];rw[Lu (x:=S.a_ n m) (a':=[.tptr (Nat.max (d+1) 0) 1 [[.int .i64 (n:Int)]] 0 0,.tptr (Nat.max (d+1) 0) 1 [[.int .i64 (m:Int)]] 0 0]) (SH d) ?_ (λg K D kk=>L9 (SH _) hn hm0 hm kk)]
  ·simp only[sz,simprocAttr];exact⟨NoP,_,_,rfl,nX.2 rfl,aI.2 rfl⟩
  ·rw[JY (a':=.tptr (Nat.max (d+1) 0) 1 [[.int .i64 (n:Int)]] 0 0) (b':=.tptr (Nat.max (d+1) 0) 1 [[.int .i64 (m:Int)]] 0 0) (E_ (n:=(n:Int)) (d+1) 20 (by simp[sx,RW])) (E_ (n:=(m:Int)) (d+1) 20 (by simp[sx,RW]))]
 obtain⟨r,h1,a,b,rfl,h2,h3⟩:=key;have h3:=aI.1 h3;injection h3 with h3;rw[h1,nX.1 h2,h3]
theorem Nn{d:Nat}{g:G}{v:AV}{n:Net}(hd:0<d)(hm:Agg n NoP 0 g.h v)(hr:NR n):am C0 d N.aN [v] g=.val (.tup [.int .i64 (S.bE n),.int .i64 0]):=by
 have hl2:=hr.l2;have hnr:=cY.2 hr;obtain⟨b,rows,rfl,e1,hm',hN,r1,r2,r3,r4⟩:=gG d hm;have key:∃r,am C0 d N.aN [.agg [.int .i64 n.grain,b]] g=.val r/\wI (One (S.bE n)) (One (0:Int)) NoP 0 .nil r:=by
  rw[y6];refine bC Cc (xs:=[.agg [.int .i64 n.grain,b]]) (by simp only[aJ,e1]) (by simp[sG]) (gJ (m:=1) (bm _) (bm _) (by decide) (by decide)) (by decide) hd ?_;simp only[sz,simprocAttr,sG,ud,sH];obtain⟨z,ez,hz⟩:=wm (d:=d+1) (g:=G.empty.new (VG 2 [[.int .i64 n.grain,b]])) (SH d) (n:=n) (v:=.agg [.int .i64 n.grain,b]) (hm' _);rcases oE hz with⟨hn,-⟩|⟨hn,b',cv,sv,oz,o,rfl,hb,hcv,-,-⟩
  ·rw[hnr]at hn;cases hn
  have hpb:=qR hr;simp only[sz,simprocAttr,ez,hb.len];refine aK (m:=n.nodes.length) (by omega) (λj t df g=>df=[]/\St t [(4,.hptr 1 0 0 0),(6,.int .i64 (S.ae (List.replicate j n.grain)))]/\g.h.get 1=VG 5 [[.int .i64 n.grain,b',cv,sv,oz]])
   ⟨rfl,by simp[St,sx,S.ae],by simp[sx]⟩ (by simp[sx]) (by simp[sx]) (by decide) (by rintro j t df g v s (rfl|rfl|rfl)<;>simp[St,sx]) ?_ ?_
  ·rintro j t df g hj ⟨rfl,⟨h4,h6,-⟩,hg⟩ h19 h18;have e1:S.ae (List.replicate (j+1) n.grain)=S.ae (List.replicate j n.grain)*n.grain:=by rw[List.replicate_succ',mF]
   have hb:=hpb (j+1) (by omega);have w1:IntKind.wrap .i64 (S.ae (List.replicate j n.grain)*n.grain)=S.ae (List.replicate (j+1) n.grain):=by rw[<-e1,ax (by omega) (by omega)]
   simp only[sz,simprocAttr,h4,h6,h19,h18,hg,St,w1]
  ·rintro t df g ⟨rfl,⟨h4,h6,-⟩,hg⟩;simp only[sz,simprocAttr,sI,h6];exact⟨λ_=>True,_,_,rfl,aI.2 rfl,aI.2 rfl⟩
 obtain⟨r,hr1,a,c,rfl,ha,hc2⟩:=key;have ha:=aI.1 ha;have hc2:=aI.1 hc2;injection ha with ha;injection hc2 with hc2;rw[hr1,ha,hc2]
theorem NN{d:Nat}{g:G}{x:Int}(hd:0<d):am C0 d N.aD [.int .i64 x] g=.val (.bool false):=by rw[vo];refine nA x_ (xs:=[.int .i64 x]) (by simp only[aJ,dS 0]) (by simp[mV]) hd ?_;simp only[sz,simprocAttr,mV]
theorem O1{d:Nat}{g:G}{x:Int}(hd:0<d):am C0 d N.aT [.int .i64 x] g=.val (.bool false):=by rw[rU];refine nA uC (xs:=[.int .i64 x]) (by simp only[aJ,dS 0]) (by simp[jO]) hd ?_;simp only[sz,simprocAttr,jO]
theorem Oj{d:Nat}{g:G}{x y:Int}(hd:0<d):am C0 d N.aY [.int .i64 x,.int .i64 y] g=.val (.bool (decide (x<y))):=by rw[wP];refine nA zi (xs:=[.int .i64 x,.int .i64 y]) (by simp only[aJ,dS 0]) (by simp[o4]) hd ?_;simp only[sz,simprocAttr,o4,NN (SH d)]
theorem JU{d k:Nat}{g:G}{P:Nat->Prop}{v:AV}{l:List Int}{x:Int}(hd:0<d)(hv:SlR P k g.h l v)(hl:l.length<=1000):∃(p:Nat) (b:Bool),p<=l.length/\am C0 d N.aR [v,.int .i64 x] g=.val (.tup [.int .i64 (p:Int),.bool b]):=by
 obtain⟨v',e,hv'⟩:=fU hv d;have nl:=λg=>(hv' .nil).len g;have rl:=λh=>(hv' h).ints;have key:∃r,am C0 d N.aR [v,.int .i64 x] g=.val r/\(λP k h v=>∃o:Nat×Bool,o.1<=l.length/\wI (One (o.1:Int)) (One o.2) P k h v) NoP 0 .nil r:=by
  rw[kC];refine bC lR (xs:=[v',.int .i64 x]) (by simp only[aJ,e,dS 0]) (by simp[cH]) (lj λo=>gJ (m:=1) (bm _) (bm _) (by decide) (by decide)) (by decide) hd ?_;simp only[sz,simprocAttr,cH,nl];refine jZ (λm t df g=>df=[]/\∃i j:Nat,m=j - i/\i<=j/\j<=l.length/\St t [(0,v'),(1,.int .i64 x),(6,.int .i64 (l.length:Int)),(7,.int .i64 (i:Int)),(8,.int .i64 (j:Int))]) l.length
   ⟨rfl,0,l.length,rfl,S2 _,R5 _,by simp[St,sx]⟩ ?_
  rintro m t df g ⟨rfl,i,j,rfl,hij,hj,h0,h1,h6,h7,h8,-⟩;simp only[sz,simprocAttr,eF,h7,h8];refine fI (λhb=>?_) (λhb=>?_)
  ·have hb:i<j:=by simpa using hb
   have w1:IntKind.wrap .i64 ((i:Int)+(j:Int))=((i+j:Nat):Int):=by rw[ax (by omega) (by omega)];simp
   have w2:IntKind.wrap .u64 ((i+j:Nat):Int)=((i+j:Nat):Int):=q7 (by omega) (by omega);have hm:(i+j) / 2<l.length:=by omega
   have hm1:i<=(i+j) / 2:=by omega
   have hm2:(i+j) / 2<j:=by omega
   have hsh:=Lv (i:=i) (j:=j) (by omega);generalize (i+j) / 2=c at hm hm1 hm2 hsh;have w3:IntKind.wrap .i64 (c:Int)=(c:Int):=ax (by omega) (by omega);have w4:IntKind.wrap .i64 ((c:Int)+1)=((c+1:Nat):Int):=by rw[ax (by omega) (by omega)];simp
   obtain⟨y,hy,-,-⟩:=an (l:=l) (j:=c) hm;have u1:c<(l.map ci).length:=by simpa using hm
   have u2:(l.map ci)[c]?=some (ci y):=by rw[R_,hy];rfl
   simp only[sz,simprocAttr,h0,h1,h7,h8,w1,w2,hsh,w3,rl,u1,u2,ci,Oj (SH d)];refine fI (λhb=>?_) (λhb=>?_)
   ·simp only[sz,simprocAttr,w4];exact⟨j - (c+1),by omega,c+1,j,rfl,by omega,hj,by simp[St,sx,h0,h1,h6,h8]⟩
   ·simp only[sz,simprocAttr];exact⟨c - i,by omega,i,c,rfl,by omega,by omega,by simp[St,sx,h0,h1,h6,h7]⟩
  ·simp only[sz,simprocAttr,eG,h6,h7];have hil:i<=l.length:=by omega
   by_cases c1:i<l.length
   ·obtain⟨y,hy,-,-⟩:=an (l:=l) (j:=i) c1;have u1:i<(l.map ci).length:=by simpa using c1
    have u2:(l.map ci)[i]?=some (ci y):=by rw[R_,hy];rfl
    have c2:(i:Int)<(l.length:Int):=by omega
    cases hq:decide (y=x) with
    | true =>
     simp only[sz,simprocAttr,h0,h1,h7,c2,rl,u1,u2,ci,hq];exact⟨λ_=>True,(i,true),hil,_,_,rfl,aI.2 rfl,mz.2 rfl⟩
    | false =>
     simp only[sz,simprocAttr,h0,h1,h7,c2,rl,u1,u2,ci,hq,O1 (SH d)];exact⟨λ_=>True,(i,false),hil,_,_,rfl,aI.2 rfl,mz.2 rfl⟩
   ·have c2:¬((i:Int)<(l.length:Int)):=by omega
    simp only[sz,simprocAttr,c2];exact⟨λ_=>True,(i,false),hil,_,_,rfl,aI.2 rfl,mz.2 rfl⟩
 obtain⟨r,hr,⟨p,b⟩,hp,a,c,rfl,ha,hc⟩:=key;have ha:=aI.1 ha;have hc:=mz.1 hc;injection ha with ha;injection hc with hc;exact⟨p,b,hp,by rw[hr,ha,hc]⟩
theorem oS(d:Nat)(xs:List AV)(g:G):am C0 d N.bL xs g=li d xs g:=by kernel_rfl
theorem IP{d:Nat}{g:G}{l:List Int}{v:AV}{K:AV->G->Prop}{D:ADf->Prop}(hv:SlR NoP 0 .nil l v)(hl2:l.length<=1000)(kk:∀u g',CloneR g.nx l u g'->Fr g g'->K u g') :
  (am C0 d N.aa [v] g).sat K g D:=FC hv hl2 λu g' h1 h2 _=>kk u g' h1 h2
theorem FO{d b p id2 ep2:Nat}{g:G}{l:List Int}{u:AV}{x:Int}{lim:Option Nat}{lo fz:Bool}(hu:CloneR b l u g)(hl:l.length<=1000)(hp:p<=l.length)(h2:g.h.get id2=.cells 1 [ci x] ep2 lo fz)(hne:∀i,vid u=some i->i≠id2)(hb:b<=g.nx) :
  ∃w g',am C0 d N.bL [u,.int .i64 (p:Int),.hsl id2 ep2 0 1 lim] g=.upd w g'/\Own g' b w 1 ((S.aH l p x).map ci)/\g.nx<=g'.nx/\(∀i,i<g.nx->vid u≠some i->g'.h.get i=g.h.get i):=by
 rw[oS];have e0:li d [u,.int .i64 (p:Int),.hsl id2 ep2 0 1 lim] g=yf id2 p u [ci x] g:=by
  show (match g.get id2 with
   |.cells sz2 vrows ep2' _ _=>aB ((((Nat.beq sz2 1&&Nat.beq ep2 ep2')&&Nat.beq 0 0)&&Nat.beq 1 (bz vrows))&&Nat.ble 1 1) (yf id2 p u vrows g) .fail
   |_=>.fail)=_
  rw[G.get_eq,h2];dsimp only;rw[aa,Sb];simp[ay]
 rw[e0];have hnew:p=0->l=[]->∃w g',qJ p [ci x] g=.upd w g'/\Own g' b w 1 ((S.aH l p x).map ci)/\g.nx<=g'.nx/\(∀i,i<g.nx->vid u≠some i->g'.h.get i=g.h.get i):=λh1 h2=>by
  subst h1;subst h2;refine⟨.hsl g.nx 0 0 1 none,g.new (.cells 1 [ci x] 0 true false),?_,.inr ⟨g.nx,0,true,hb,by simp,rfl,by simp[aS,S.aH]⟩,by simp,λi hi _=>?_⟩
  ·unfold qJ;rw[aa,Sb]
   ·rfl
   ·simp[ay]
  ·rw[G.new_h,af _ _ _ (by omega)]
 rcases hu with⟨rfl,rfl⟩|⟨id,lo2,h3,h4,rfl,h5,h6,h7⟩
 ·exact hnew (by simpa using hp) rfl
 ·cases l with
  | nil =>
   have e1:yf id2 p (.hsl id 0 0 ([]:List Int).length none) [ci x] g=qJ p [ci x] g:=by rw[h7 rfl]at h5;simp only[yf,G.get_eq,h5,TP];rw[aa,Sb];simp
   rw[e1];exact hnew (by simpa using hp) rfl
  | cons y l =>
   rw[h6 (by simp)]at h5;have hid:=hne id rfl;have e1:yf id2 p (.hsl id 0 0 (y::l).length none) [ci x] g=.upd (.hsl id 1 0 ((y::l).length+1) none) (g.put id (.cells 1 ((S.aH (y::l) p x).map ci) 1 true false)):=by
    simp only[yf,G.get_eq,h5,Te];rw[aa,Sb]
    ·simp[ay,bh,bg,S.aH]
    ·rw[show Nat.beq 1 1=true from rfl];have hb1:Nat.beq id id2=false:=by rw[<-Ub,Nat.beq_eq];exact hid
     simp only[hb1,j3,ay,SQ,R7,SS,SJ,Ss,T8,true_and,and_true];simp at hp hl
     (repeat' apply R3)<;>first|omega| (simp;done)
   rw[e1];refine⟨_,_,rfl,.inr ⟨id,1,true,h3,by simpa using h4,?_,by simp[aS]⟩,by simp,λi hi hv=>?_⟩
   ·rw[Ss,tC _ _ _ hp]
   ·rw[G.put_h,af _ _ _ (λe=>hv (by rw[e];rfl))]
theorem Qd{d pl q:Nat}{gr:Int}{b cv sv oz w:AV}{nd:List AV}{cs vars:List Int}{Q:QT}{t:T}{g:G}(rc:∀h,ak h 1 cv=some (cs.map ci))(hvl:vars.length<=16)(hvp:∀p∈vars,0<=p/\p<cs.length)(hcb:∀c∈cs,1<=c/\c<=4)(hpl:pl<=1000)
  (h0:FacJ gr b cv sv oz nd w cs vars pl q 0 t g) (h40:tat t 40=.int .i64 0) (h39:tat t 39=.int .i64 (vars.length:Int))
  (fin:∀t g,FacJ gr b cv sv oz nd w cs vars pl q vars.length t g->Q (.exit 0) t [] g):wpL (wp C0 d none eB) Q t [] g:=by
 simp only[eB,jf];refine aK (m:=vars.length) (by omega) (λj t df g=>df=[]/\FacJ gr b cv sv oz nd w cs vars pl q j t g) ⟨rfl,h0⟩ h40 h39 (by decide)
  (by rintro j t df g v s (rfl|rfl|rfl) ⟨a1,⟨b1,b2,b3,b4,b5,b6,b7,-⟩,c1⟩<;>exact⟨a1,by simp[St,oI,sx,b1,b2,b3,b4,b5,b6,b7],c1⟩) ?_ ?_
 ·rintro j t df g hj ⟨rfl,⟨h38,h6,h2,h4,h5,h8,h9,-⟩,u,hp⟩ h40 h39;obtain⟨p,hpj,htk,hpm⟩:=an hj;obtain⟨hp0,hpc⟩:=hvp p hpm;obtain⟨pn,rfl⟩:=R8 hp0;have hpn:pn<cs.length:=by omega
  have hcp:cs[pn]?=some cs[pn]:=R4 hpn;have hcb1:=hcb _ (Ta hpn);generalize cs[pn]=c at hcp hcb1;have u1:j<(vars.map ci).length:=by simpa using hj
  have u2:(vars.map ci)[j]?=some (ci (pn:Int)):=by rw[R_,hpj];rfl
  have u3:pn<(cs.map ci).length:=by simpa using hpn
  have u4:(cs.map ci)[pn]?=some (ci c):=by rw[R_,hcp];rfl
  have rw_:=hp.hw.rows;have q3:=hp.q3;have qn:=hp.qn;have epc:S.ac cs (vars.take (j+1))=S.ac cs (vars.take j)++[c]:=by rw[htk,eZ];simp[S.ac,hcp]
  have hle:(S.ac cs (vars.take j)).length<=16:=by simp[S.ac];omega
  have nq1:¬q=q+1:=by omega
  have nq2:¬q+1=q:=by omega
  refine be (P:=λt' df g'=>df=[]/\g'=g/\St t' ((40,.int .i64 (j:Int))::(39,.int .i64 (vars.length:Int))::(10,.int .i64 (j:Int))::(11,.int .i64 (pn:Int))::(38,w)::(6,.int .i64 (pl:Int))::oI q)) ?_ ?_
  ·simp only[sz,simprocAttr,h38,h40,rw_,u1,u2,ci];simp[St,oI,sx,h38,h6,h2,h4,h5,h8,h9,h40,h39]
  clear h38 h6 h2 h4 h5 h8 h9 h40 h39;rintro t df g1 ⟨rfl,rfl,⟨h40,h39,h10,h11,h38,h6,h2,h4,h5,h8,h9,-⟩⟩;refine bI (P:=λt' df g'=>df=[]/\St t' ((40,.int .i64 (j:Int))::(39,.int .i64 (vars.length:Int))::(10,.int .i64 (j:Int))::(11,.int .i64 (pn:Int))::(38,w)::(6,.int .i64 (pl:Int))::oI q) /\
   ∃u,FacH [.int .i64 gr,b,cv,sv,oz] nd w u vars (S.ac cs (vars.take (j+1))) (S.ae (S.ac cs ((vars.take j).drop (pl+1)))) q g') ?_ ?_
  ·simp only[sz,simprocAttr,sf,h8,h2,h11,hp.h8,hp.h0,rc,u3,u4,ci];refine aW (b:=q+2) (rows:=(S.ac cs (vars.take j)).map ci) (new:=[[.int .i64 c]]) (hp.hu.fr (by simp;omega) λi hi=>?_) (by simp[sx,sy]) (by simp;omega) (by unfold aY;simp;omega) λu' ga hu' n1 f1 vid1 lg1=>?_
   ·have:=(hp.hu.lt hi).2;simp[RW];omega
   simp only[sx,sy]at n1 f1 vid1 lg1;have hq8:ga.h.get q=VG 3 [[w,u,.nils]]:=by rw[f1 q (by omega) (λe=>by have:=(hp.hu.lt e).1;omega),Sa (by omega),hp.h8]
   simp only[sz,simprocAttr,sf,h8,hq8,hu'.cell.1,hu'.cell.2];refine⟨?_,?_,u',?_⟩
   ·simp only[Si,Sl,Sf,Sd];refine aA [false,false,false,false,false,false,false,true,true,false,true] [(0,7),(1,7)] (by simp[All2,ac,ap]) (by decide) ?_;rintro p hp' x y hx hy;simp only[Sq,Sk,Ui]at hp';rcases hp' with rfl|rfl<;>(simp at hx hy;subst hx;subst hy;refine bH rfl rfl rfl rfl ?_ ?_ ?_<;>simp[ac,ap,ae]<;>omega)
   ·simp[St,oI,sx,h38,h6,h2,h4,h5,h8,h9,h40,h39,h10,h11]
   ·have keep:∀i,i<q+2->i≠q->(ga.h.put q (VG 3 [[w,u',.nils]])).get i=g1.h.get i:=λi hi hne=>by simp only[RW,Sa hne];rw[f1 i (by omega) (λe=>by have:=(hp.hu.lt e).1;omega),Sa (by omega)]
    refine⟨(keep 0 (by omega) (by omega)).trans hp.h0,(keep 1 (by omega) (by omega)).trans hp.h1,(keep 2 (by omega) (by omega)).trans hp.h2,by simp[RW],(keep (q+1) (by omega) (by omega)).trans hp.h9,hp.hw.fr (by simp;omega) λi hi=>keep i (by have:=hp.wq i hi;omega) (by have:=hp.wq i hi;omega),?_,hp.wq,q3,by simp;omega⟩;rw[epc,TA];exact hu'.fr (by simp;omega) λi hi=>by have:=(hu'.lt hi).1;simp[RW,show ¬i=q by omega]
  clear hp qn rw_ h40 h39 h10 h11 h38 h6 h2 h4 h5 h8 h9;rintro t df g ⟨rfl,⟨h40,h39,h10,h11,h38,h6,h2,h4,h5,h8,h9,-⟩,u,hp⟩
  by_cases hk:pl<j
  ·have hk':(pl:Int)<(j:Int):=by omega
   have ed:S.ae (S.ac cs ((vars.take (j+1)).drop (pl+1)))=S.ae (S.ac cs ((vars.take j).drop (pl+1)))*c:=by rw[zf htk hj hk,eZ,qh];simp[S.ac,hcp,S.ae]
   have hpb:=cg (l:=S.ac cs ((vars.take (j+1)).drop (pl+1))) (bM hcb λp hp=>hvp p (SM (Tv hp)));have hp4:=gS (a:=(S.ac cs ((vars.take (j+1)).drop (pl+1))).length) (b:=16) (by simp[S.ac];omega);have h48:(4:Int) ^ 16=4294967296:=by decide
   have w1:IntKind.wrap .i64 (S.ae (S.ac cs ((vars.take j).drop (pl+1)))*c)=S.ae (S.ac cs ((vars.take (j+1)).drop (pl+1))):=by rw[<-ed,ax (by omega) (by omega)]
   simp only[sz,simprocAttr,sf,h10,h6,hk',h9,hp.h9,h2,hp.h0,h11,rc,u3,u4,ci,w1];refine⟨?_,⟨?_,u,?_⟩,h40,h39⟩
   ·simp only[Si,Sl,Sf,Sd];exact aA [false,false,false,false,false,false,false,true] [] (by simp[All2,ac,ap]) (by decide) (by simp)
   ·simp[St,oI,sx,h38,h6,h2,h4,h5,h8,h9]
   ·have qn:=hp.qn;have keep:∀i,i≠q+1->(g.h.put (q+1) (VG 1 [[.int .i64 (S.ae (S.ac cs ((vars.take (j+1)).drop (pl+1))))]])).get i=g.h.get i:=λi hne=>by simp only[RW,Sa hne]
    exact⟨(keep 0 (by omega)).trans hp.h0,(keep 1 (by omega)).trans hp.h1,(keep 2 (by omega)).trans hp.h2,(keep q (by omega)).trans hp.h8,by simp[RW],hp.hw.fr (by simp;omega) λi hi=>keep i (by have:=hp.wq i hi;omega),hp.hu.fr (by simp;omega) λi hi=>keep i (by have:=(hp.hu.lt hi).1;omega),hp.wq,q3,by simp;omega⟩
  ·have hk':¬((pl:Int)<(j:Int)):=by omega
   have ed:(vars.take (j+1)).drop (pl+1)=(vars.take j).drop (pl+1):=ze (by omega);simp only[sz,simprocAttr,h10,h6,hk'];refine⟨⟨by simp[St,oI,sx,h38,h6,h2,h4,h5,h8,h9],u,?_⟩,h40,h39⟩;rw[ed];exact hp
 ·rintro t df g ⟨rfl,h⟩;exact fin t g h
theorem Qe{d A B C q j iw:Nat}{w u W z:AV}{r:List Int}{rws:List (List Int)}{pa ra:AV}{rd:Option Nat}{Q:QT}{t:T}{g g0 g2:G}(hz:SlR NoP 0 .nil r z)(hr:rws[j]?=some r)(hrl:r.length=C)(hB:0<B)(hA:rws.length=A*B)(hsz:rws.length*C<=1000000)
  (e8:g0.h.get q=VG 3 [[w,u,W]]) (e2:g0.h.get 2=VG 3 [[.int .i64 (C:Int),pa,ra]]) (e9:g0.h.get (q+1)=VG 1 [[.int .i64 (B:Int)]]) (hq:q+1<g0.nx) (hq3:3<=q) (hiw:iw<g0.nx) (hvw:vid W=some iw) (hiq:q+1<iw) (hg2:g0.nx<=g2.nx)
  (h0:FacI g0 g2 iw W z r rws B C q j 0 t g) (h80:tat t 80=.int .i64 0) (h79:tat t 79=.int .i64 (r.length:Int))
  (fin:∀t g,FacI g0 g2 iw W z r rws B C q j r.length t g->Q (.exit 4) t [] g):wpL (wp C0 d rd eC) Q t [] g:=by
 simp only[eC];refine aK (m:=r.length) hz.1 (λi t df g=>df=[]/\FacI g0 g2 iw W z r rws B C q j i t g) ⟨rfl,h0⟩ h80 h79 (by decide)
  (by rintro j t df g v s (rfl|rfl|rfl) ⟨a1,⟨b1,b2,b3,b4,b5,b6,b7,-⟩,c1,c2,c3⟩<;>exact⟨a1,by simp[St,oI,sx,b1,b2,b3,b4,b5,b6,b7],c1,c2,c3⟩) ?_ ?_
 ·rintro i t df g hi ⟨rfl,⟨h78,h12,h2,h4,h5,h8,h9,-⟩,hp,hnx,hfr⟩ h80 h79;obtain⟨x,hx,-,-⟩:=an hi;have rz:=λh=>(hz.tree (h':=h) (R5 0)).ints;have u1:i<(r.map ci).length:=by simpa using hi
  have u2:(r.map ci)[i]?=some (ci x):=by rw[R_,hx];rfl
  have hj:=(R6.1 hr).1;have hiC:i<C:=by omega
  have hpl:=Cj (A:=A) (b:=B) (card:=C) (i:=j) (x:=i) hB (by omega) hiC;rw[<-hA]at hpl;have hst:=I9 (b:=B) (card:=C) (A:=A) (i:=j) (x:=i) hB hA hr hiC hx;have k8:g.h.get q=VG 3 [[w,u,W]]:=by rw[hp.fr q (by omega) (by omega),e8]
  have k2:g.h.get 2=VG 3 [[.int .i64 (C:Int),pa,ra]]:=by rw[hp.fr 2 (by omega) (by omega),e2]
  have k9:g.h.get (q+1)=VG 1 [[.int .i64 (B:Int)]]:=by rw[hp.fr (q+1) (by omega) (by omega),e9]
  have hwr:=hp.ow.rows;rw[GH_h]at hwr;have hjl:j<1000001:=by have:rws.length*1<=rws.length*C:=Vq _ (by omega);omega
  have q1:=yE (x:=j) (y:=B) (by omega) hB;have q2:=CN (x:=j) (y:=B) hB;have l1:j / B*C<=S.aL B C j i:=by unfold S.aL;have:(j / B*C+i)*1<=(j / B*C+i)*B:=Vq _ hB;omega
  have l2:(j / B*C+i)<=S.aL B C j i:=by unfold S.aL;have:(j / B*C+i)*1<=(j / B*C+i)*B:=Vq _ hB;omega
  have l3:(j / B*C+i)*B<=S.aL B C j i:=by unfold S.aL;omega
  have w1:IntKind.wrap .i64 (((j / B:Nat):Int)*(C:Int))=((j / B*C:Nat):Int):=by rw[<-Tt,ax (by omega) (by omega)]
  have w2:IntKind.wrap .i64 (((j / B*C:Nat):Int)+(i:Int))=((j / B*C+i:Nat):Int):=by rw[ax (by omega) (by omega)];simp
  have w3:IntKind.wrap .i64 (((j / B*C+i:Nat):Int)*(B:Int))=(((j / B*C+i)*B:Nat):Int):=by rw[<-Tt,ax (by omega) (by omega)]
  have w4:IntKind.wrap .i64 ((((j / B*C+i)*B:Nat):Int)+((j % B:Nat):Int))=((S.aL B C j i:Nat):Int):=by rw[<-U6];show IntKind.wrap .i64 ((S.aL B C j i:Nat):Int)=_;rw[ax (by omega) (by omega)]
  have hfl:=DO rws B C (j*C+i);have u3:S.aL B C j i<((S.aY rws B C (j*C+i)).map ci).length:=by rw[Ss,hfl];exact hpl
  have u4:((S.aY rws B C (j*C+i)).map ci)[S.aL B C j i]?=some (((S.aY rws B C (j*C+i)).map ci)[S.aL B C j i]):=R4 u3;have hone:∃y:Int,((S.aY rws B C (j*C+i)).map ci)[S.aL B C j i]=ci y:=⟨_,UX ..⟩;obtain⟨y,hy⟩:=hone;rw[hy]at u4;have hge:g0.nx<=g.nx:=by omega
  refine be (P:=λt' df g'=>df=[]/\g'=g/\St t' ((80,.int .i64 (i:Int))::(79,.int .i64 (r.length:Int))::(14,.int .i64 (i:Int))::(15,.int .i64 x)::(78,z)::(12,.int .i64 (j:Int))::oI q)) ?_ ?_
  ·simp only[sz,simprocAttr,h78,h80,rz,u1,u2,ci];simp[St,oI,sx,h78,h12,h2,h4,h5,h8,h9,h80,h79]
  clear h78 h12 h2 h4 h5 h8 h9 h80 h79;rintro t df g1 ⟨rfl,rfl,⟨h80,h79,h14,h15,h78,h12,h2,h4,h5,h8,h9,-⟩⟩;simp only[sz,simprocAttr,sf,h8,h12,h9,h5,h14,h15,k8,k2,k9,q1,q2,w1,w2,w3,w4,hwr,u3];refine cQ (v:=W) (sz:=1) (n:=1) (i:=S.aL B C j i) (off:=0) (x:=.int .i64 x) (row':=ci x) ((hp.ow.fr (g':=g1) (by simp;omega) λi _=>rfl).fr (by simp;omega) λi _=>by simp) u4 rfl rfl rfl λg4 hu4 n4 f4=>?_;rw[<-TQ,hst]at hu4;have f4':∀i,i≠iw->g4.h.get i=g1.h.get i:=λi hi=>by rw[f4 i (by rw[hvw];intro e;injection e with e;exact hi e.symm)];simp
  have n4':g1.nx<=g4.nx:=by rw[n4];simp;omega
  simp only[sx,sy,↓reduceIte,Nat.reduceEqDiff];refine⟨?_,⟨?_,⟨λi h1 h2=>?_,?_⟩,?_,λi h1 h2=>?_⟩,h80,h79⟩
  ·simp only[Si,Sl,Sf,Sd];exact aA [false,false,false,false,false,false,false,false,false,false,false,false,false,false,false,false,false,false,true] [] (by simp[All2,ac,ap]) (by decide) (by simp)
  ·simp[St,oI,sx,h78,h12,h2,h4,h5,h8,h9]
  ·simp only[bumpG_h];rw[f4' i h2,hp.fr i h1 h2]
  ·exact hu4.gh hvw
  ·simp;omega
  ·simp only[bumpG_h];rw[f4' i (by omega),hfr i h1 h2]
 ·rintro t df g ⟨rfl,h⟩;exact fin t g h
theorem KZ{d A B C q iw:Nat}{w u W pa ra pa' ra':AV}{rws:List (List Int)}{Q:QT}{t:T}{g0:G}(hra:SlR NoP 0 .nil rws ra')(hrl:∀r∈rws,r.length=C)(hB:0<B)(hA:rws.length=A*B)(hsz:rws.length*C<=1000000)
  (h75:tat t 75=.clo N.ah [] [.tptr 0 3 [[.int .i64 (C:Int),pa',ra']] 0 0])
  (e8:g0.h.get q=VG 3 [[w,u,W]]) (e2:g0.h.get 2=VG 3 [[.int .i64 (C:Int),pa,ra]]) (e9:g0.h.get (q+1)=VG 1 [[.int .i64 (B:Int)]]) (hq:q+1<g0.nx) (hq3:3<=q) (hiw:iw<g0.nx) (hvw:vid W=some iw) (hiq:q+1<iw)
  (ht:St t (oI q)) (hW:Own g0 3 W 1 ((List.replicate (rws.length*C) (0:Int)).map ci))
  (fin:∀g',FacG g0 iw W rws B C (rws.length*C) g'.h->g0.nx+2<=g'.nx->g'.h.get g0.nx=.dfr true->Q .norm t [.mark g0.nx] g') :
  wp C0 d none (.rng 105 (.t 75) [76,77] eA eD) Q t [] g0:=by
 obtain⟨h2,h4,h5,h8,h9,-⟩:=ht;refine EV (c:=(C:Int)) (pa:=pa') hra h75 (by decide) (by decide) (λj h=>FacG g0 iw W rws B C (j*C) h) (λ_=>False) ?_ ?_ ?_ ?_ fin ?_
 ·intro j h h' hh hf;exact hf.up hvw hiw hh
 ·intro h h' _ hf;exact hf
 ·refine⟨λi _ _=>rfl,?_⟩;rw[Vm,I_];exact hW.gh hvw
 ·intro j r z g1 hr hz hf hn;have hrm:=hrl r (R9 hr);simp only[sz,simprocAttr,eA];intro g2 hg2n hg2;have hf2:FacG g0 iw W rws B C (j*C) g2.h:=hf.up hvw hiw λi hi=>hg2 i (by omega);simp only[sz,simprocAttr,eD,hz.len];refine Qe (g2:=g2) (A:=A) (q:=q) (iw:=iw) (w:=w) (u:=u) (W:=W) (z:=z) (r:=r) (rws:=rws) hz hr hrm hB hA hsz e8 e2 e9 hq hq3 hiw hvw hiq (by omega) ⟨by simp[St,oI,sx,h2,h4,h5,h8,h9],by simpa using hf2,R5 _,λ_ _ _=>rfl⟩ (by simp[sx]) (by simp[sx]) ?_;rintro t g ⟨-,hp,hnx,hfr⟩;simp only[sx,sy,↓reduceIte];refine⟨hnx,hfr,.inl ⟨rfl,?_⟩⟩;rw[hrm,show j*C+C=(j+1)*C by rw[SA,Tq]]at hp;exact hp
 ·intro g' hf;exact hf.elim
theorem Jb{d i:Nat}{g:G}{v:AV}{n:Net}{x:Node}{o:List Int}(hd:0<d)(hr:NR n)(hm:Agg ((n,S.aa n,S.ak n,o):NwM) NoP 0 g.h v)(hx:n.nodes[i]?=some x) :
  ∃r,am C0 d N.bu [v,.int .i64 (i:Int)] g=.val r/\RG n i x NoP 0 .nil r:=by
 have e0:=mK d hm;obtain⟨cs,rfl,hc⟩:=hm;obtain⟨b,cv,sv,oz,rfl,hN,hcv,-,-⟩:=ww.1 hc;have hN:SlR NoP 0 .nil n.nodes b:=hN.tree (h':=.nil) (R5 0);have hcv:SlR NoP 0 .nil (S.aa n) cv:=hcv.tree (h':=.nil) (R5 0);obtain⟨rows,r1,r2,r3,r4⟩:=hN.all;obtain⟨row,q1,q2⟩:=r3 i x hx;obtain⟨pa,ra,rfl,hpa,hra⟩:=cK.1 q2;have hxm:=R9 hx;have hil:=(R6.1 hx).1;have hl8:=hr.l2;have hlt:i<rows.length:=by omega
 have hry:=r4 (by omega);have hpl:=gH (hr.places x hxm) (by omega);have hpin:=hr.pin hxm;have r1:∀h',ak h' 3 b=some rows:=r1;have rc:=λh=>(hcv.tree (h':=h) (R5 0)).ints;rw[pH];refine bC rH (xs:=[.agg [.int .i64 n.grain,b,cv,sv,oz],.int .i64 (i:Int)]) (by simp only[aJ,e0,dS 0]) (by simp[gi]) (lj λo=>dF _) (by decide) hd ?_;simp only[sz,simprocAttr,gi];obtain⟨g0,hg0⟩:∃g0,g0=(G.empty.new (VG 5 [[.int .i64 n.grain,b,cv,sv,oz]])).new (VG 3 [[.nils,.nils,.nils]]):=⟨_,rfl⟩;rw[<-hg0];have f0:g0.h.get 0=VG 5 [[.int .i64 n.grain,b,cv,sv,oz]]:=by rw[hg0];simp[sx,RW]
 have f1:g0.h.get 1=VG 3 [[.nils,.nils,.nils]]:=by rw[hg0];simp[sx]
 have f2:g0.nx=2:=by rw[hg0];simp[sx]
 clear hg0;simp only[jJ];refine bI (P:=λt' df g'=>df=[]/\g'.nx=3/\g'.h.get 0=VG 5 [[.int .i64 n.grain,b,cv,sv,oz]]/\g'.h.get 1=VG 3 [[.nils,.nils,.nils]]/\g'.h.get 2=VG 3 [[.int .i64 x.card,pa,ra]]/\St t' [(1,.int .i64 (i:Int)),(2,.hptr 0 0 0 0),(4,.hptr 1 0 0 0),(5,.hptr 2 0 0 0)]) ?_ ?_
 ·simp only[sz,simprocAttr,f0,r1,hlt,q1];simp[St,sx,f1,f2]
 rintro t df g1 ⟨rfl,n1,k0,k1,k2,h1,h2,h4,h5,-⟩;obtain⟨p,sb,hp,es⟩:=JU (d:=d+1) (g:=g1) (x:=(i:Int)) (SH d) (hpa.tree (R5 0)) (by omega);refine bI (P:=λt' df g'=>df=[]/\g'=g1/\St t' [(1,.int .i64 (i:Int)),(2,.hptr 0 0 0 0),(4,.hptr 1 0 0 0),(5,.hptr 2 0 0 0),(6,.int .i64 (p:Int))]) ?_ ?_
 ·simp only[sz,simprocAttr,h5,h1,k2,es];simp[St,sx,h1,h2,h4,h5]
 clear h1 h2 h4 h5;rintro t df g2 ⟨rfl,rfl,h1,h2,h4,h5,h6,-⟩;refine bI (P:=λt' df g'=>df=[]/\∃w q,w.cells=[w]/\FacH [.int .i64 n.grain,b,cv,sv,oz] [.int .i64 x.card,pa,ra] w .nils (S.aH x.parents p (i:Int)) [] 1 q (g'.new (VG 1 [[.int .i64 1]]))/\g'.nx=q+1/\St t' [(2,.hptr 0 0 0 0),(4,.hptr 1 0 0 0),(5,.hptr 2 0 0 0),(6,.int .i64 (p:Int)),(8,.hptr q 0 0 0)]) ?_ ?_
 ·simp only[sz,simprocAttr,h5,k2];refine IP (l:=x.parents) hpa (by omega) λu ga hu fa=>?_;simp only[sz,simprocAttr,h6,h1];have hun:∀i,vid u=some i->g2.nx<=i/\i<ga.nx:=λi hi=>by
   rcases hu with⟨-,rfl⟩|⟨id,lo,a1,a2,rfl,-⟩
   ·cases hi
   ·injection hi with hi;subst hi;exact⟨a1,a2⟩
  have fa1:=fa.1;obtain⟨w,g3,e3,hw,n3,f3⟩:=FO (d:=d+1) (b:=g2.nx) (p:=p) (id2:=ga.nx) (ep2:=0) (x:=(i:Int)) (lim:=none) (hu.fr (Fr.new ga (VG 1 [[.int .i64 (i:Int)]]))) (by omega) hp (by simp[RW];exact⟨rfl,rfl,rfl⟩) (λj hj=>by have:=hun j hj;omega) (by simp;omega);rw[e3];simp only[sz,simprocAttr,K3 hw.cell.1 hw.cell.2];have n3':ga.nx+1<=g3.nx:=by simpa using n3
  have keep:∀j,j<3->g3.h.get j=g2.h.get j:=λj hj=>by rw[f3 j (by simp;omega) (λe=>by have:=hun j e;omega),<-fa.2 j (by omega)];simp[RW,show ¬j=ga.nx by omega]
  have hwl:∀j,vid w=some j->3<=j/\j<g3.nx:=λj hj=>by have:=hw.lt hj;omega
  have ne1:∀j,j<g3.nx->¬j=g3.nx/\¬j=g3.nx+1:=λj hj=>by omega
  refine⟨w,g3.nx,hw.cell.1,⟨?_,?_,?_,?_,?_,?_,?_,?_,?_,?_⟩,?_,?_⟩
  ·simp[RW,ne1 0 (by omega),keep 0 (by omega),k0,show ¬g3.nx=0 by omega]
  ·simp[RW,ne1 1 (by omega),keep 1 (by omega),k1,show ¬g3.nx=0 by omega]
  ·simp[RW,ne1 2 (by omega),keep 2 (by omega),k2]
  ·simp[RW]
  ·simp[RW]
  ·refine (Own.low hw (b':=3) (by omega)).fr (by simp;omega) λj hj=>?_;have:=ne1 j (hwl j hj).2;simp[RW,this]
  ·exact .inl ⟨rfl,rfl⟩
  ·exact λj hj=>(hwl j hj).2
  ·omega
  ·simp
  ·simp
  ·simp[St,sx,h2,h4,h5,h6]
 clear h1 h2 h4 h5 h6 es;rintro t df g3 ⟨rfl,w,q,hwc,hp3,hnq,h2,h4,h5,h6,h8,-⟩;have hfl:=tC x.parents p (i:Int) hp;have fa:=hp3.hw.rows;refine bI (P:=λt' df g'=>df=[]/\g'=(g3.new (VG 1 [[.int .i64 0]])).put (q+1) (VG 1 [[.int .i64 1]])/\St t' ((6,.int .i64 (p:Int))::oI q)) ?_ ?_
 ·simp only[sz,simprocAttr,hnq];simp[St,oI,sx,h2,h4,h5,h6,h8]
 clear h2 h4 h5 h6 h8;rintro t df g4 ⟨rfl,hg4,h6,h2,h4,h5,h8,h9,-⟩;have hp4:FacH [.int .i64 n.grain,b,cv,sv,oz] [.int .i64 x.card,pa,ra] w .nils (S.aH x.parents p (i:Int)) [] 1 q g4:=by
  have e:∀j,g4.h.get j=(g3.new (VG 1 [[.int .i64 1]])).h.get j:=λj=>by
   rw[hg4]
   by_cases hj:j=q+1<;>simp[RW,hnq,hj]
  have en:g4.nx=(g3.new (VG 1 [[.int .i64 1]])).nx:=by rw[hg4];simp
  exact⟨by rw[e,hp3.h0],by rw[e,hp3.h1],by rw[e,hp3.h2],by rw[e,hp3.h8],by rw[e,hp3.h9],hp3.hw.fr (by omega) λj _=>e j,hp3.hu.fr (by omega) λj _=>e j,hp3.wq,hp3.q3,by rw[en];exact hp3.qn⟩
 clear hg4 hp3;have hwl:∀g,dO .slice w g=.val (.int .i64 (((S.aH x.parents p (i:Int)).length:Nat):Int)):=λg=>by
  rcases hp4.hw with⟨-,e⟩|⟨id,ep,lo,-,-,rfl,-⟩
  ·have:((S.aH x.parents p (i:Int)).map ci).length=0:=by rw[e];rfl
   rw[Ss]at this;omega
  ·rw[Ss];rfl
 simp only[sz,simprocAttr,h8,hp4.h8,hwl];refine Qd (gr:=n.grain) (b:=b) (cv:=cv) (sv:=sv) (oz:=oz) (nd:=[.int .i64 x.card,pa,ra]) (w:=w) (cs:=S.aa n) (vars:=S.aH x.parents p (i:Int)) (pl:=p) (q:=q) rc (by omega) ?_ hr.cs (by omega) ⟨by simp[St,oI,sx,h2,h4,h5,h6,h8,h9],.nils,by simpa [S.ac,S.ae] using hp4⟩ (by simp[sx]) (by simp[sx]) ?_
 ·intro y hy;simp only[S.aH,SG,Sq]at hy;rcases hy with hy|rfl|hy
  ·exact hpin y (SM hy)
  ·rw[aX];omega
  ·exact hpin y (Tv hy)
 clear h2 h4 h5 h6 h8 h9 hp4;rintro t g ⟨⟨h38,h6,h2,h4,h5,h8,h9,-⟩,u,hp5⟩;rw[S1,FN hp]at hp5;have hcx:=hr.card x hxm;have hd1:∀c∈S.ac (S.aa n) (x.parents.drop p),1<=c/\c<=4:=bM hr.cs λp hp=>hpin p (Tv hp);have ht1:∀c∈S.ac (S.aa n) (x.parents.take p),1<=c/\c<=4:=bM hr.cs λp hp=>hpin p (SM hp);have er:(x.rows.length:Int)=S.ae (S.ac (S.aa n) (x.parents.take p))*S.ae (S.ac (S.aa n) (x.parents.drop p)):=by
  rw[hr.rows x hxm]
  conv=>lhs;rw[<-SW p x.parents,eZ,qh]
 have hB1:=gT λc hc=>(hd1 c hc).1;have hA1:=gT λc hc=>(ht1 c hc).1;have hpb:=cg (l:=S.ac (S.aa n) x.parents) (bM hr.cs hpin);have hp4:=gS (a:=(S.ac (S.aa n) x.parents).length) (b:=8) (by simp[S.ac];omega);have h48:(4:Int) ^ 8=65536:=by decide
 have hrows:=hr.rows x hxm;obtain⟨B,hB⟩:=R8 (show 0<=S.ae (S.ac (S.aa n) (x.parents.drop p)) by omega);obtain⟨A,hA⟩:=R8 (show 0<=S.ae (S.ac (S.aa n) (x.parents.take p)) by omega);obtain⟨C,hC⟩:=R8 (show 0<=x.card by omega);have hAB:x.rows.length=A*B:=by
  have:((x.rows.length:Nat):Int)=((A*B:Nat):Int):=by rw[er,Tt,hA,hB]
  omega
 have hsz:x.rows.length*C<=1000000:=by
  have h1:x.rows.length<=65536:=by omega
  have h2:C<=4:=by omega
  have:=VA h1 h2;omega
 have rl:=λg=>(hra.tree (h':=g) (R5 0)).len;have rl:=λg=>(hra).len g;have w1:IntKind.wrap .i64 ((x.rows.length:Int)*(C:Int))=((x.rows.length*C:Nat):Int):=by rw[<-Tt,ax (by omega) (by omega)]
 rw[hB]at hp5;simp only[jh,hC]at hp5 ⊢;obtain⟨pa',ra',er',hpa',hra'⟩:=zX (d:=d+1) (g:=.empty) (x:=x) (v:=.agg [.int .i64 (C:Int),pa,ra]) (SH d) ⟨_,rfl,cK.2 ⟨pa,ra,by rw[hC],hpa.tree (R5 0),hra.tree (R5 0)⟩⟩;have q3:=hp5.q3;have qn:=hp5.qn;refine bI (P:=λt' df g'=>df=[]/\∃W,vid W=some g.nx/\g'.nx=g.nx+1/\(∀i,i<g.nx->i≠q->g'.h.get i=g.h.get i)/\g'.h.get q=VG 3 [[w,u,W]]/\Own g' 3 W 1 ((List.replicate (x.rows.length*C) (0:Int)).map ci)/\St t' (oI q)) ?_ ?_
 ·simp only[sz,simprocAttr,h5,hp5.h2,rl,w1];refine yA (b:=3) (n:=x.rows.length*C) (by unfold aY;omega) (by unfold aY;omega) (by omega) λW g1 hW n1 f1 vW=>?_;have k8:g1.h.get q=VG 3 [[w,u,.nils]]:=by rw[f1 q (by omega),hp5.h8]
  simp only[sz,simprocAttr,h8,k8,hW.cell.1,hW.cell.2];refine⟨W,vW,by simpa using n1,λi h1 h2=>?_,by simp[RW],?_,by simp[St,oI,sx,h2,h4,h5,h8,h9]⟩
  ·simp[h2];exact f1 i h1
  ·have hW':Own g1 3 W 1 ((List.replicate (x.rows.length*C) (0:Int)).map ci):=by simpa [ci] using hW
   exact hW'.fr (by simp) λi hi=>by have:=di vW hi;simp[RW,show ¬i=q by omega]
 clear h38 h6 h2 h4 h5 h8 h9;rintro t df g1 ⟨rfl,W,vW,n1,f1,k8,hW,h2,h4,h5,h8,h9,-⟩;have k2:g1.h.get 2=VG 3 [[.int .i64 (C:Int),pa,ra]]:=by rw[f1 2 (by omega) (by omega),hp5.h2]
 have k9:g1.h.get (q+1)=VG 1 [[.int .i64 (B:Int)]]:=by rw[f1 (q+1) (by omega) (by omega),hp5.h9]
 have k1:g1.h.get 1=VG 3 [[.nils,.nils,.nils]]:=by rw[f1 1 (by omega) (by omega),hp5.h1]
 obtain⟨pa',ra',er',hpa',hra'⟩:=zX (d:=d+1) (g:=g1) (x:=x) (v:=.agg [.int .i64 (C:Int),pa,ra]) (SH d) ⟨_,rfl,cK.2 ⟨pa,ra,by rw[hC],hpa.tree (R5 0),hra.tree (R5 0)⟩⟩;rw[hC]at er';rw[eM,eM];simp only[sz,simprocAttr,h5,k2,er'];refine KZ (A:=A) (B:=B) (C:=C) (q:=q) (iw:=g.nx) (w:=w) (u:=u) (W:=W) (pa:=pa) (ra:=ra) (pa':=pa') hra' (λr hrm=>by have:=(hr.row x hxm r hrm).1;omega) (by omega) hAB hsz (by simp[sx]) k8 k2 k9 (by omega) q3 (by omega) vW (by omega) (by simp[St,oI,sx,h2,h4,h5,h8,h9]) hW ?_;intro g' hf hn hdf;have k8':g'.h.get q=VG 3 [[w,u,W]]:=by rw[hf.fr q (by omega) (by omega),k8]
 have k1':g'.h.get 1=VG 3 [[.nils,.nils,.nils]]:=by rw[hf.fr 1 (by omega) (by omega),k1]
 simp only[sz,simprocAttr,jg,h8,k8',h4,k1'];refine kG (by simp[RW,show ¬g1.nx=1 by omega,hdf]) ?_;simp only[sx,sy,↓reduceIte,Nat.reduceEqDiff,h4];rw[Sa (by omega)];simp only[sx,sy,↓reduceIte,Nat.reduceAdd,Nat.reduceLeDiff];have lw:=hp5.hw;have lu:=hp5.hu;have lW:=hf.ow;have hne:∀i,i<g1.nx->i≠1->((g'.h.put 1 (VG 3 [[w,u,W]])).put g1.nx (.dfr false)).get i=g'.h.get i:=λi h1 h2=>by simp[RW,h2,show ¬i=g1.nx by omega]
 have oW:Own (GH ((g'.h.put 1 (VG 3 [[w,u,W]])).put g1.nx (.dfr false)) (g.nx+1)) 3 W 1 ((S.aY x.rows B C (x.rows.length*C)).map ci):=lW.fr (by simp) λi hi=>by have:=di vW hi;exact hne i (by omega) (by omega)
 have ow:Own (GH ((g'.h.put 1 (VG 3 [[w,u,W]])).put g1.nx (.dfr false)) (g.nx+1)) 3 w 1 ((S.aH x.parents p (i:Int)).map ci):=lw.fr (by simp) λj hj=>by have:=hp5.wq j hj;have:=(lw.lt hj).1;show ((g'.h.put 1 (VG 3 [[w,u,W]])).put g1.nx (.dfr false)).get j=_;rw[hne j (by omega) (by omega),hf.fr j (by omega) (by omega),f1 j (by omega) (by omega)]
 have ou:Own (GH ((g'.h.put 1 (VG 3 [[w,u,W]])).put g1.nx (.dfr false)) (g.nx+1)) (q+2) u 1 ((S.ac (S.aa n) (S.aH x.parents p (i:Int))).map ci):=lu.fr (by simp) λj hj=>by have:=lu.lt hj;show ((g'.h.put 1 (VG 3 [[w,u,W]])).put g1.nx (.dfr false)).get j=_;rw[hne j (by omega) (by omega),hf.fr j (by omega) (by omega),f1 j (by omega) (by omega)]
 have hfw:(S.aY x.rows B C (x.rows.length*C))=S.cw x.rows (S.ae (S.ac (S.aa n) (x.parents.drop p))).toNat x.card.toNat:=by rw[hB,hC,Sx,Sx];exact KY (A:=A) (by omega) hAB
 refine⟨λ_=>True,p,hp,_,rfl,qj.2 ⟨w,u,W,rfl,?_,?_,?_⟩⟩
 ·obtain⟨_,e1,h⟩:=ow.ints (k:=0) (by omega);injection e1 with e1;subst e1;exact h
 ·obtain⟨_,e1,h⟩:=ou.ints (k:=0) (by simp[S.ac];omega);injection e1 with e1;subst e1;exact h
 ·rw[hfw]at oW;obtain⟨_,e1,h⟩:=oW.ints (k:=0) (by rw[<-hfw,DO];omega);injection e1 with e1;subst e1;exact h
theorem NZ{d:Nat}{g:G}{v:AV}{n:Net}(hd:0<d)(hm:Agg n NoP 0 g.h v):∃r,am C0 d N.bp [v] g=.val r/\Q5 n NoP 0 .nil r:=by
 obtain⟨b,rows,rfl,e1,hm',hN,r1,r2,r3,r4⟩:=gG d hm;rw[wR];refine bC zm (xs:=[.agg [.int .i64 n.grain,b]]) (by simp only[aJ,e1]) (by simp[o8]) (lj λo=>gJ (m:=2) (bm _) (bm _) (by decide) (by decide)) (by decide) hd ?_;simp only[sz,simprocAttr,o8,rg];obtain⟨z,ez,hz⟩:=wm (d:=d+1) (g:=G.empty.new (VG 2 [[.int .i64 n.grain,b]])) (SH d) (n:=n) (v:=.agg [.int .i64 n.grain,b]) (hm' _);rcases oE hz with⟨hn,cs,rfl,hcs⟩|⟨hn,b',cv,sv,oz,o,rfl,hb,hcv,hsv,hoz⟩
 ·obtain⟨a1,a2,a3,a4,a5,rfl⟩:∃a1 a2 a3 a4 a5,cs=[a1,a2,a3,a4,a5]:=by
   match cs,hcs with
   |[a1,a2,a3,a4,a5],_=>exact⟨a1,a2,a3,a4,a5,rfl⟩
  simp only[sz,simprocAttr,ez,show ¬((50:Int)=0) from by decide];refine⟨NoP,[],⟨λh=>(by rw[hn]at h;cases h),λi x hi=>(by simp at hi)⟩,_,_,rfl,⟨_,rfl,⟨by show 0<9223372036854775808;decide,rfl⟩⟩,?_⟩;rw[hn];exact aI.2 rfl
 ·have hr:=cY.1 hn;have hl8:=hr.l2;simp only[sz,simprocAttr,ez,hb.len];refine yA (b:=2) (n:=n.nodes.length) (by unfold aY;omega) (by unfold aY;omega) (by simp) λW g1 hW n1 f1 vW=>?_;have k1:g1.h.get 1=VG 5 [[.int .i64 n.grain,b',cv,sv,oz]]:=by rw[f1 1 (by simp)];simp[RW]
  have hWl:∀(g:G) (rows:List (List AV)),rows.length=n.nodes.length->Own g 2 W 3 rows->dO .slice W g=.val (.int .i64 (n.nodes.length:Int)):=λg rows h1 h=>by
   rcases h with⟨rfl,e⟩|⟨id,ep,lo,-,-,rfl,-⟩
   ·cases vW
   ·rw[h1];rfl
  have hlW:=hWl g1 _ (by simp) hW;have hryW:Ak W=true:=by
   rcases hW with⟨rfl,e⟩|⟨id,ep,lo,-,-,rfl,-⟩
   ·cases vW
   ·rfl
  simp only[sz,simprocAttr,hlW];simp only[pT];refine aK (m:=n.nodes.length) (by omega) (λj t df g=>df=[]/\FasJ n W b' cv sv oz j t g) ⟨rfl,by simp[St,sx],k1,_,[],hW,by simp,rfl,trivial,λi x hi=>(by simp at hi),λi _ hi=>by simp[hi]⟩ (by simp[sx]) (by simp[sx]) (by decide)
   (by rintro j t df g v s (rfl|rfl|rfl) ⟨a1,⟨b1,b2,-⟩,c1,c2⟩<;>exact⟨a1,by simp[St,sx,b1,b2],c1,c2⟩) ?_ ?_
  ·rintro j t df g hj ⟨rfl,⟨h4,h6,-⟩,hg,rows',l,hW,hrl,hll,hal,hfs,hnil⟩ h23 h22;obtain⟨x,hx,-,-⟩:=an hj;have hm5:Agg ((n,S.aa n,S.ak n,o):NwM) NoP 0 g.h (.agg [.int .i64 n.grain,b',cv,sv,oz]):=⟨_,rfl,ww.2 ⟨b',cv,sv,oz,rfl,hb.tree (R5 0),hcv.tree (R5 0),hsv.tree (R5 0),hoz.tree (R5 0)⟩⟩;obtain⟨f,ef,p,hp,cs,rfl,hcs⟩:=Jb (d:=d+1) (g:=g) (i:=j) (SH d) hr hm5 hx;obtain⟨a1,a2,a3,rfl,ha1,ha2,ha3⟩:=qj.1 hcs;have hrj:=hnil j (R5 _) hj;have hWr:=hW.rows;have hjr:j<rows'.length:=by omega
   simp only[sz,simprocAttr,h23,h6,h4,hg,ef,hWr,hjr];refine cQ (v:=W) (sz:=3) (n:=3) (i:=j) (off:=0) (x:=.agg [a1,a2,a3]) (row':=[a1,a2,a3]) hW hrj (by rfl) rfl ?_ λg4 hW4 n4 f4=>?_
   ·rfl
   have htk:(rows'.set j [a1,a2,a3]).take (j+1)=rows'.take j++[[a1,a2,a3]]:=by
    rw[UC,List.take_set_of_le (R5 _),Tu hjr]
    rfl
   simp only[sx,sy,↓reduceIte,Nat.reduceEqDiff];refine⟨⟨by simp[St,sx,h4,h6],?_,_,l++[S.bi n j x p],hW4,by simpa using hrl,by simp[hll],?_,?_,λi h1 h2=>by rw[Ty (by omega),hnil i (by omega) h2]⟩,h23,h22⟩
   ·rw[f4 1 λe=>by have:=(hW.lt e).1;omega,hg]
   ·rw[htk];exact hal.append ⟨qj.2 ⟨a1,a2,a3,rfl,ha1,ha2,ha3⟩,trivial⟩
   ·intro i y hi hy
    by_cases hij:i<l.length
    ·rw[So hij];exact hfs i y hij hy
    ·have hi:i=j:=by simp at hi;omega
     subst hi;rw[hx]at hy;injection hy with hy;subst hy;exact⟨p,hp,by rw[Sj (by omega),hll];simp⟩
  ·rintro t df g ⟨rfl,⟨h4,h6,-⟩,hg,rows',l,hW,hrl,hll,hal,hfs,hnil⟩;rw[S5 (by omega)]at hal;simp only[sz,simprocAttr,pU,h6];refine⟨λ_=>True,l,⟨λ_=>hll,hfs⟩,_,_,rfl,⟨W,rfl,Own.sl (α:=Factor) hW (by omega) (hal.mono λa b r=>Rp.tree r (R5 0)) λ_ _=>trivial⟩,?_⟩;rw[hn];exact aI.2 rfl
theorem P4{d m q k fb iR:Nat}{gr:Int}{va ca wa S_ R b fl fl':AV}{f:Factor}{rowsS:List (List AV)}{Q:QT}{t:T}{g g0:G}(hva:SlR NoP 0 .nil f.vars va)(hca:SlR NoP 0 .nil f.cards ca)(hcl:f.cards.length=f.vars.length)(hvl:f.vars.length<=16)(hcb:∀c∈f.cards,1<=c/\c<=4)(hnd:f.vars.Nodup)(hin:∀y∈f.vars,0<=y/\y<m)
  (e11:g0.h.get q=VG 4 [[.int .i64 gr,b,fl',S_]]) (e13:g0.h.get fb=VG 3 [[va,ca,wa]]) (hS:Own g0 2 S_ 1 rowsS) (hk:rowsS[k]?=some [R]) (vR:vid R=some iR) (vS:vid S_≠some iR) (n1:q≠iR/\fb≠iR) (n2:q<g0.nx/\fb<g0.nx/\iR<g0.nx)
  (h0:AskI fl m q k g0 iR R f fb f.vars.length t g) (h15:tat t 15=.int .i64 ((f.vars.length:Int) - 1))
  (fin:∀t g,AskI fl m q k g0 iR R f fb 0 t g->Q (.exit 4) t [] g):wpL (wp C0 d none mY) Q t [] g:=by
 have rva:=λh=>(hva.tree (h':=h) (R5 0)).ints;have rca:=λh=>(hca.tree (h':=h) (R5 0)).ints;simp only[mY];refine Fk (m:=f.vars.length) (by omega) (λj t df g=>df=[]/\AskI fl m q k g0 iR R f fb j t g) ⟨rfl,h0⟩ h15 (by decide)
  (by rintro j t df g v s (rfl|rfl|rfl|rfl|rfl) ⟨a1,⟨b1,b2,b3,b4,b5,b6,b7,b8,b9,-⟩,c1,c2,c3⟩<;>exact⟨a1,by simp[St,C_,sx,b1,b2,b3,b4,b5,b6,b7,b8,b9],c1,c2,c3⟩) ?_ ?_
 ·rintro j t df g hj ⟨rfl,⟨h13,h12,h14,h11,h2,h4,h45,h46,h47,-⟩,hnx,hfr,X,hX,hst⟩ h15;obtain⟨y,hy,-,hym⟩:=an hj;obtain⟨hy0,hym⟩:=hin y hym;obtain⟨yn,rfl⟩:=R8 hy0;have hcj:f.cards[j]?=some f.cards[j]:=R4 (by omega);have hcb1:=hcb _ (Ta (show j<f.cards.length by omega));have hdr:f.cards.drop j=f.cards[j]::f.cards.drop (j+1):=Tf (by omega);generalize f.cards[j]=c at hcj hcb1 hdr;have u1:j<(f.vars.map ci).length:=by simpa using hj
  have u2:(f.vars.map ci)[j]?=some (ci (yn:Int)):=by rw[R_,hy];rfl
  have u3:j<(f.cards.map ci).length:=by simp;omega
  have u4:(f.cards.map ci)[j]?=some (ci c):=by rw[R_,hcj];rfl
  have hXl:=hst.1;have hylt:yn<X.length:=by omega
  have u5:yn<(X.map ci).length:=by simpa using hylt
  have u6:(X.map ci)[yn]?=some (ci X[yn]):=by rw[R_,R4 hylt];rfl
  have k11:g.h.get q=VG 4 [[.int .i64 gr,b,fl',S_]]:=by rw[hfr q n2.1 n1.1,e11]
  have k13:g.h.get fb=VG 3 [[va,ca,wa]]:=by rw[hfr fb n2.2.1 n1.2,e13]
  have hS':Own g 2 S_ 1 rowsS:=hS.fr hnx λi hi=>hfr i (hS.lt hi).2 λe=>vS (by rw[hi,e]);have rS:=hS'.rows;have rX:=hX.rows;have kl:k<rowsS.length:=(R6.1 hk).1;have w0:S.ae (f.cards.drop j)=S.ae (f.cards.drop (j+1))*c:=by rw[hdr,bG,Vh]
  have hpb:=cg (l:=f.cards.drop j) λc hc=>hcb c (Tv hc);have hp4:=gS (a:=(f.cards.drop j).length) (b:=16) (by simp;omega);have h48:(4:Int) ^ 16=4294967296:=by decide
  have w1:IntKind.wrap .i64 (S.ae (f.cards.drop (j+1))*c)=S.ae (f.cards.drop j):=by rw[<-w0,ax (by omega) (by omega)]
  have hst':=GL hst hnd hin hy;rw[Sx]at hst';simp only[sz,simprocAttr,sf,h11,h12,h13,h14,h15,k11,k13,rva,u1,u2,rS,kl,hk,rX,u5,ci];refine cQ (v:=R) (sz:=1) (n:=1) (i:=yn) (off:=0) (x:=.int .i64 (S.ae (f.cards.drop (j+1)))) (row':=ci (S.ae (f.cards.drop (j+1)))) (hX.fr (by simp;omega) λi _=>by simp) u6 rfl rfl rfl λg4 hu4 n4 f4=>?_;rw[<-TQ]at hu4;have f4':∀i,i≠iR->g4.h.get i=g.h.get i:=λi hi=>by rw[f4 i (by rw[vR];intro e;injection e with e;exact hi e.symm)];simp
  have n4':g.nx<=g4.nx:=by rw[n4];simp;omega
  simp only[sz,simprocAttr];refine⟨?_,?_⟩
  ·simp only[Si,Sl,Sf,Sd];exact aA [false,false,false,false,false,false,false,false,false,false,false,false,true] [] (by simp[All2,ac,ap]) (by decide) (by simp)
  have k13':g4.h.get fb=VG 3 [[va,ca,wa]]:=by rw[f4' fb n1.2,k13]
  simp only[sz,simprocAttr,h13,h14,h15,k13',rca,u3,u4,ci,w1];refine⟨by simp[St,C_,sx,h13,h12,h11,h2,h4,h45,h46,h47],?_,λi h1 h2=>?_,_,hu4.fr (by simp) λi _=>by simp,hst'⟩
  ·simp;omega
  ·simp only[bumpG_h];rw[f4' i h2,hfr i h1 h2]
 ·rintro t df g ⟨rfl,h⟩;exact fin t g h
theorem P5{d m q:Nat}{gr:Int}{b fl S_:AV}{fs:List Factor}{Q:QT}{t:T}{g:G}(hb:∀g,dO .slice b g=.val (.int .i64 (m:Int)))(hm:m<=8)(hfl:SlR NoP 0 .nil fs fl)(hfm:fs.length=m)(hok:∀(i:Nat) (f:Factor),fs[i]?=some f->FOk m f)
  (h0:AskJ gr b fl S_ m q fs 0 t g) (h47:tat t 47=.int .i64 0) (h46:tat t 46=.int .i64 (m:Int))
  (fin:∀t g,AskJ gr b fl S_ m q fs m t g->Q (.exit 2) t [] g):wpL (wp C0 d none mZ) Q t [] g:=by
 obtain⟨rows,r1,r2,r3,r4⟩:=hfl.all;have r1:∀h',ak h' 3 fl=some rows:=r1;simp only[mZ,sC];refine aK (m:=m) (by omega) (λk t df g=>df=[]/\AskJ gr b fl S_ m q fs k t g) ⟨rfl,h0⟩ h47 h46 (by decide)
  (by rintro j t df g v s (rfl|rfl|rfl) ⟨a1,⟨b1,b2,b3,b4,-⟩,c1⟩<;>exact⟨a1,by simp[St,sx,b1,b2,b3,b4],c1⟩) ?_ ?_
 ·rintro k t df g hk ⟨rfl,⟨h11,h2,h4,h45,-⟩,hp⟩ h47 h46;obtain⟨f,hf,-,-⟩:=an (l:=fs) (j:=k) (by omega);obtain⟨row,q1,q2⟩:=r3 k f hf;obtain⟨va,ca,wa,rfl,hva,hca,hwa⟩:=qj.1 q2;have hF:=hok k f hf;have hlt:k<rows.length:=by omega
  have hry:=r4 (by omega);obtain⟨Vs,l,hS,hVl,hll,hal,hst⟩:=hp.hS;obtain⟨q2a,q2b⟩:=hp.q2;have ne0:∀i,i<g.nx->¬i=g.nx:=λi hi=>by omega
  refine be (P:=λt' df g'=>df=[]/\g'=(g.new (VG 3 [[.nils,.nils,.nils]])).put g.nx (VG 3 [[va,ca,wa]])/\St t' ((13,.hptr g.nx 0 0 0)::(12,.int .i64 (k:Int))::C_ fl m q k)) ?_ ?_
  ·simp only[sz,simprocAttr,h45,h47,r1,hlt,q1];simp[St,C_,sx,h11,h2,h4,h45,h47,h46]
  clear h11 h2 h4 h45 h47 h46;rintro t df g1 ⟨rfl,hg1,⟨h13,h12,h11,h2,h4,h45,h46,h47,-⟩⟩;have f1:∀i,i<g.nx->g1.h.get i=g.h.get i:=λi hi=>by rw[hg1];simp[RW,ne0 i hi]
  have n1:g1.nx=g.nx+1:=by rw[hg1];simp
  have k1:g1.h.get g.nx=VG 3 [[va,ca,wa]]:=by rw[hg1];simp[RW]
  clear hg1;have e0:g1.h.get 0=VG 2 [[.int .i64 gr,b]]:=by rw[f1 0 (by omega),hp.h0]
  have eq:g1.h.get q=VG 4 [[.int .i64 gr,b,fl,S_]]:=by rw[f1 q (by omega),hp.hq]
  have hS1:Own g1 2 S_ 1 (Vs.map λv=>[v]):=hS.fr (by omega) λi hi=>f1 i (hS.lt hi).2;have rS:=hS1.rows;have hkV:k<(Vs.map λv=>[v]).length:=by simp;omega
  have hgV:(Vs.map λv=>[v])[k]?=some [Vs[k]'(by omega)]:=by rw[R_,R4 (by omega)];rfl
  refine bI (P:=λt' df g'=>df=[]/\St t' ((13,.hptr g.nx 0 0 0)::(12,.int .i64 (k:Int))::C_ fl m q k)/\g1.nx<g'.nx/\∃R iR,vid R=some iR/\g1.nx<=iR/\iR<g'.nx/\Own g' 2 S_ 1 ((Vs.set k R).map λv=>[v])/\Own g' (q+1) R 1 ((List.replicate m (0:Int)).map ci)/\∀i,i<g1.nx->vid S_≠some i->g'.h.get i=g1.h.get i) ?_ ?_
  ·simp only[sz,simprocAttr,sf,h11,h2,h12,e0,eq,hb];refine jS (b:=q+1) (n:=m) (by unfold aY;omega) (by unfold aY;omega) (by simp;omega) λR g2 hR n2 f2 vR lg2=>?_;simp only[sy]at n2 f2 vR lg2;have hS2:Own g2 2 S_ 1 (Vs.map λv=>[v]):=hS1.fr (by omega) λi hi=>by have:=hS1.lt hi;rw[f2 i (by omega)]
   have rS2:=hS2.rows;simp only[sz,simprocAttr,sf,rS2,hkV];refine cQ (v:=S_) (sz:=1) (n:=1) (i:=k) (off:=0) (x:=R) (row':=[R]) (hS2.fr (by simp;omega) λi _=>by simp) hgV (by rw[hR.cell.1];rfl) hR.cell.2 (by rw[hR.cell.1];rfl) λg4 hu4 n4 f4=>?_;rw[show (Vs.map λv=>[v]).set k [R]=(Vs.set k R).map λv=>[v] from by rw[TQ]]at hu4;have f4':∀i,vid S_≠some i->g4.h.get i=g2.h.get i:=λi hi=>by rw[f4 i hi];simp
   have n4':g2.nx<=g4.nx:=by rw[n4];simp;omega
   simp only[sy,lg2];refine⟨?_,?_,?_,R,g1.nx+6,vR,by omega,?_,?_,?_,λi h1 h2=>?_⟩
   ·simp only[Si,Sl,Sf,Sd];refine aA [false,false,false,false,false,false,true,false,true] [(0,6),(1,6),(2,6)] (by simp[All2,ac,ap]) (by decide) ?_;rintro p hp' x y hx hy;simp only[Sq,Sk,Ui]at hp';rcases hp' with rfl|rfl|rfl<;>(simp at hx hy;subst hx;subst hy;refine bH rfl rfl rfl rfl ?_ ?_ ?_<;>simp[ac,ap,ae]<;>omega)
   ·simp[St,C_,sx,h13,h12,h11,h2,h4,h45,h46,h47]
   ·omega
   ·omega
   ·exact hu4.fr (by simp) λi _=>by simp
   ·have hR':Own g2 (q+1) R 1 ((List.replicate m (0:Int)).map ci):=by simpa [ci] using hR
    refine hR'.fr (by simp;omega) λi hi=>?_;have:=di vR hi;simp only[bumpG_h];exact f4' i λe=>by have:=hS1.lt e;omega
   ·rw[f4' i h2,f2 i (by omega)]
  clear h13 h12 h11 h2 h4 h45 h46 h47;rintro t df g2 ⟨rfl,⟨h13,h12,h11,h2,h4,h45,h46,h47,-⟩,n2,R,iR,vR,hiR,hiR2,hS2,hR,f2⟩;have e13:g2.h.get g.nx=VG 3 [[va,ca,wa]]:=by rw[f2 g.nx (by omega) (λe=>by have:=hp.sq _ e;omega),k1]
  have e11:g2.h.get q=VG 4 [[.int .i64 gr,b,fl,S_]]:=by rw[f2 q (by omega) (λe=>by have:=hp.sq _ e;omega),eq]
  have lva:=hva.len;have hvl:=hF.vl;have hR2:Own g2 2 R 1 ((List.replicate m (0:Int)).map ci):=Own.low hR (by omega);have w1:IntKind.wrap .i64 ((f.vars.length:Int) - 1)=(f.vars.length:Int) - 1:=ax (by omega) (by omega);have hgV2:((Vs.set k R).map λv=>[v])[k]?=some [R]:=by rw[R_,Tu (by omega)];rfl
  simp only[sz,simprocAttr,h13,e13,lva,w1];refine P4 (g0:=g2) (fl:=fl) (fl':=fl) (m:=m) (q:=q) (k:=k) (fb:=g.nx) (iR:=iR) (R:=R) (S_:=S_) (b:=b) (gr:=gr) (va:=va) (ca:=ca) (wa:=wa) (f:=f) (rowsS:=(Vs.set k R).map λv=>[v]) hva hca hF.cl hF.vl hF.cb hF.nd hF.vr e11 e13 hS2 hgV2 vR (λe=>by have:=hp.sq _ e;omega) ⟨by omega,by omega⟩ ⟨by omega,by omega,by omega⟩
   ⟨by simp[St,C_,sx,h13,h12,h11,h2,h4,h45,h46,h47,S.ae,U3 (show f.cards.length<=f.vars.length by rw[hF.cl];exact R5 _)],R5 _,λ_ _ _=>rfl,List.replicate m 0,hR2,by simp,λj y hj hy=>?_⟩ (by simp[sx]) ?_
  ·have:=(R6.1 hy).1;omega
  clear h13 h12 h11 h2 h4 h45 h46 h47;rintro t g3 ⟨⟨h13,h12,h14,h11,h2,h4,h45,h46,h47,-⟩,n3,f3,X,hX,hXo⟩;simp only[sx,sy,↓reduceIte];have hfin:∀i,i<g.nx->vid S_≠some i->g3.h.get i=g.h.get i:=λi h1 h2=>by rw[f3 i (by omega) (by omega),f2 i (by omega) h2,f1 i h1]
  refine⟨⟨by simp[St,h11,h2,h4,h45],?_⟩,h47,h46⟩;have hsl:∀i,i<2\/i=q->vid S_≠some i:=λi hi e=>by have:=hp.sq i e;have:=(hS.lt e).1;omega
  refine⟨by rw[hfin 0 (by omega) (hsl 0 (by omega)),hp.h0],by rw[hfin 1 (by omega) (hsl 1 (by omega)),hp.h1],by rw[hfin q q2b (hsl q (by omega)),hp.hq],⟨q2a,by omega⟩,hp.sq,Vs.set k R,l++[X],hS2.fr n3 λi hi=>f3 i (hS2.lt hi).2 λe=>by have:=hp.sq i hi;omega,by simpa using hVl,by simp[hll],?_,?_⟩
  ·have htk:(Vs.set k R).take (k+1)=Vs.take k++[R]:=by
    rw[UC,List.take_set_of_le (R5 _),Tu (by omega)]
    rfl
   rw[htk];refine (hal.mono λX' v r=>?_).append ⟨?_,trivial⟩
   ·exact r.fr (by omega) λi hi=>by have:=r.lt hi;exact hfin i this.2 λe=>by have:=hp.sq i e;omega
   ·rcases hX with h|⟨id,ep,lo,p1,p2,rfl,p4⟩
    ·exact .inl h
    ·injection vR with vR;exact .inr ⟨id,ep,lo,by omega,p2,rfl,p4⟩
  ·intro i f' X' hf' hX'
   by_cases hi:i<l.length
   ·rw[So hi]at hX';exact hst i f' X' hf' hX'
   ·have h1:=(R6.1 hX').1;have:i=k:=by simp at h1;omega
    subst this;rw[hf]at hf';injection hf' with hf';subst hf';rw[Sj (by omega),hll,Th]at hX';simp at hX';subst hX';exact hXo
 ·rintro t df g ⟨rfl,h⟩;exact fin t g h
theorem P6{d kk:Nat}{P:Nat->Prop}{g:G}{v w:AV}{n:Net}{ls:List (List Int)}(hd:0<d)(hm:Agg n NoP 0 g.h v)(hw:SlR P kk g.h ls w):∃r,am C0 d N.bi [v,w] g=.val r/\Nw n ls NoP 0 .nil r:=by
 obtain⟨b,rows,rfl,e1,hm',hN,r1,r2,r3,r4⟩:=gG d hm;obtain⟨w',e2,hw'⟩:=fU hw d;obtain⟨wrows,p1,p2,p3,p4⟩:=(hw' .nil).all;have p1:∀h',ak h' 1 w'=some wrows:=p1;have hwl:=hw.1;have wl:=λg=>(hw' .nil).len g;rw[yZ];refine bC Ca (xs:=[.agg [.int .i64 n.grain,b],w']) (by simp only[aJ,e1,e2]) (by simp[sA]) (O2 n ls) (by decide) hd ?_;simp only[sz,simprocAttr,sA];obtain⟨g0,hg0⟩:∃g0,g0=(G.empty.new (VG 2 [[.int .i64 n.grain,b]])).new (VG 4 [[.int .i64 0,.nils,.nils,.nils]]):=⟨_,rfl⟩;rw[<-hg0];have f0:g0.h.get 0=VG 2 [[.int .i64 n.grain,b]]:=by rw[hg0];simp[sx,RW]
 have f1:g0.h.get 1=VG 4 [[.int .i64 0,.nils,.nils,.nils]]:=by rw[hg0];simp[sx]
 have f2:g0.nx=2:=by rw[hg0];simp[sx]
 clear hg0;simp only[ub];obtain⟨z,ez,fs,⟨hfl,hfs⟩,fl,er,rfl,hfl2,her⟩:=NZ (d:=d+1) (g:=g0) (SH d) (hm' g0.h);have her:=aI.1 her;injection her with her;subst her;obtain⟨_,e3,hfl2⟩:=hfl2;injection e3 with e3;subst e3;cases hn:S.aM n with
 | false =>
  have hs:S.bQ n ls=50:=by rw[S.bQ,hn];rfl
  rw[hn]at ez;simp only[TC,↓reduceIte]at ez;simp only[sz,simprocAttr,f0,ez,show ¬((50:Int)=0) from by decide,f1];refine⟨λ_=>True,qn0,?_,_,_,rfl,?_,?_⟩
  ·rw[hs];intro h;cases h
  ·exact MN _ _
  ·rw[hs];exact aI.2 rfl
 | true =>
  have hr:=cY.1 hn;have hfl:=hfl hn;rw[hn]at ez;simp only[↓reduceIte]at ez;refine bI (P:=λt' df g'=>df=[]/\g'=g0/\St t' [(1,w'),(2,.hptr 0 0 0 0),(4,.hptr 1 0 0 0),(6,fl),(7,.int .i64 0)]) ?_ ?_
  ·simp only[sz,simprocAttr,f0,ez];simp[St,sx]
  rintro t df g1 ⟨rfl,rfl,h1,h2,h4,h6,h7,-⟩;obtain⟨Qf,hQf⟩:∃Qf,Qf=fnQ C0 (d+1) [SR.cell true 4 4,SR.tm 5] (λv g'=>∃P,Nw n ls P 0 g'.h v):=⟨_,rfl⟩;rw[<-hQf];simp only[sz,simprocAttr,h1,h7,wl,sB];refine aK (m:=ls.length) hwl (λj t df g=>df=[]/\St t [(25,w'),(2,.hptr 0 0 0 0),(4,.hptr 1 0 0 0),(6,fl)]/\g=g1/\∀e∈ls.take j,S.aJ n e=true) ⟨rfl,by simp[St,sx,h2,h4,h6],rfl,by simp⟩ (by simp[sx]) (by simp[sx]) (by decide)
   (by rintro j t df g v s (rfl|rfl|rfl) ⟨a1,⟨b1,b2,b3,b4,-⟩,c1,c2⟩<;>exact⟨a1,by simp[St,sx,b1,b2,b3,b4],c1,c2⟩) ?_ ?_
  ·rintro j t df g hj ⟨rfl,⟨h25,h2,h4,h6,-⟩,rfl,hall⟩ h27 h26;obtain⟨e,he,htk,hem⟩:=an hj;obtain⟨row,q1,q2⟩:=p3 j e he;obtain⟨z,rfl,hz⟩:=mA.1 q2;have hlt:j<wrows.length:=by omega
   have hch:=Dm (d:=d+1) (g:=g) (e:=e) (w:=z) (SH d) (hm' g.h) (hz.tree (h':=g.h) (R5 _));cases hev:S.aJ n e with
   | true =>
    have hs:S.aN n e=0:=by rw[S.aN,hn,hev];rfl
    rw[hs]at hch;simp only[sz,simprocAttr,h25,h27,h26,h2,p1,hlt,q1,f0,hch];refine⟨by simp[St,sx,h2,h4,h6,h25],λy hy=>?_⟩;rw[htk]at hy;rcases SG.1 hy with h|h
    ·exact hall y h
    ·rw[SK.1 h];exact hev
   | false =>
    have hs:S.aN n e=2:=by rw[S.aN,hn,hev];rfl
    have hs2:S.bQ n ls=2:=by
     have:ls.all (S.aJ n)=false:=by rw[<-Ub,Sy];intro h;rw[h e hem]at hev;cases hev
     rw[S.bQ,hn,this];rfl
    rw[hs]at hch;rw[hQf];simp only[sz,simprocAttr,h25,h27,h2,h4,p1,hlt,q1,f0,f1,hch,show ¬((2:Int)=0) from by decide];refine⟨λ_=>True,qn0,?_,_,_,rfl,?_,?_⟩
    ·rw[hs2];intro h;cases h
    ·exact MN _ _
    ·rw[hs2];exact aI.2 rfl
  ·rintro t df g ⟨rfl,⟨h25,h2,h4,h6,-⟩,rfl,hall⟩;rw[S1]at hall;have hs:S.bQ n ls=0:=by rw[S.bQ,hn,Sy.2 hall];rfl
   have hl8:=hr.l2;have fll:=λg=>hfl2.len g;simp only[sx,↓reduceIte];unfold sE;refine bI (P:=λt' df g'=>df=[]/\∃S_ q,St t' [(2,.hptr 0 0 0 0),(4,.hptr 1 0 0 0),(6,fl),(11,.hptr q 0 0 0)]/\AskH n.grain b fl S_ n.nodes.length q fs 0 g') ?_ ?_
   ·simp only[sz,simprocAttr,sf,h2,h6,f0,fll,hfl];refine jS (b:=2) (n:=n.nodes.length) (by unfold aY;omega) (by unfold aY;omega) (by first| (simp;done)| (simp;omega)) λS_ g2 hS n2 f2' vS lg2=>?_;simp only[sy]at n2 f2' vS lg2;have hflc:fl.cells=[fl]/\fl.isTup=false:=by
     have h:=hfl2.2;unfold SlV at h
     split at h<;>first|exact⟨rfl,rfl⟩|exact h.elim
    simp only[sz,simprocAttr,sf,FI hS.cell.1 hS.cell.2 hflc.1 hflc.2,lg2];have n2':g.nx+5=g2.nx:=by omega
    have k0:g2.h.get 0=VG 2 [[.int .i64 n.grain,b]]:=by rw[f2' 0 (by omega),f0]
    have k1:g2.h.get 1=VG 4 [[.int .i64 0,.nils,.nils,.nils]]:=by rw[f2' 1 (by omega),f1]
    refine⟨?_,S_,g2.nx+1+1,by simp[St,sx,h2,h4,h6],⟨?_,?_,?_,⟨by omega,by simp⟩,λi hi=>by have:=di vS hi;omega,List.replicate n.nodes.length .nils,[],?_,by simp,rfl,trivial,λi f X _ h=>by simp at h⟩⟩
    ·simp only[Si,Sl,Sf,Sd,G.new_lg,G.put_lg,setLog_lg];refine aA [false,false,false,false,true,false,true,true] [(0,4),(1,4),(0,6),(1,6),(2,6),(3,6),(4,6),(5,6)] (by simp[All2,ac,ap]) (by decide) ?_;rintro p hp' x y hx hy;simp only[Sq,Sk,Ui]at hp';rcases hp' with rfl|rfl|rfl|rfl|rfl|rfl|rfl|rfl<;>(simp at hx hy;subst hx;subst hy;refine bH rfl rfl rfl rfl ?_ ?_ ?_<;>simp[ac,ap,ae]<;>omega)
    ·simp[RW,k0]
    ·simp[RW,k1]
    ·simp[RW]
    ·have hS':Own g2 2 S_ 1 ((List.replicate n.nodes.length AV.nils).map λv=>[v]):=by simpa using hS
     refine hS'.fr (by simp;omega) λi hi=>?_;have:=di vS hi;simp[RW,show ¬i=g2.nx+1+1 by omega]
   clear h25 h2 h4 h6;rintro t df g2 ⟨rfl,S_,q,⟨h2,h4,h6,h11,-⟩,hp⟩;have hbl:=hN.len;simp only[sz,simprocAttr,h6,fll,hfl];refine P5 (m:=n.nodes.length) (q:=q) (gr:=n.grain) (b:=b) (fl:=fl) (S_:=S_) (fs:=fs) hbl hl8 hfl2 hfl (λi f hf=>?_) ⟨by simp[St,sx,h2,h4,h11],hp⟩ (by simp[sx]) (by simp[sx]) ?_
   ·have hi:=(R6.1 hf).1;obtain⟨x,hx,-,-⟩:=an (l:=n.nodes) (j:=i) (by omega);obtain⟨p,hpp,hf2⟩:=hfs i x hi hx;rw[hf]at hf2;injection hf2 with hf2;subst hf2;exact KX hr hx hpp
   clear h2 h4 h6 h11 hp;rintro t g3 ⟨⟨h11,h2,h4,h45,-⟩,hp⟩;obtain⟨Vs,l,hS,hVl,hll,hal,hst⟩:=hp.hS;rw[S5 (by omega)]at hal;rw[hQf];have q2:=hp.q2.1;simp only[sz,simprocAttr,sD,h11,h4,hp.hq,hp.h1];have hne:∀i,i≠1->(g3.h.put 1 (VG 4 [[.int .i64 n.grain,b,fl,S_]])).get i=g3.h.get i:=λi hi=>by simp[RW,hi]
   refine⟨λ_=>True,(n,fs,l),λ_=>⟨rfl,hfl,hfs,hll,hst⟩,_,_,rfl,⟨_,rfl,xP.2 ⟨b,fl,S_,rfl,hN.wide (R5 0),hfl2.wide (R5 0),?_⟩⟩,?_⟩
   ·have hS':Own (g3.put 1 (VG 4 [[.int .i64 n.grain,b,fl,S_]])) 2 S_ 1 (Vs.map λv=>[v]):=hS.fr (by simp) λi hi=>by have:=(hS.lt hi).1;simp[RW,show ¬i=1 by omega]
    refine Own.sl (α:=List Int) hS' (by show l.length<_;omega) ?_ λ_ _=>trivial;have hal2:∀(l:List (List Int)) (Vs:List AV),All2 (λX v=>Own g3 (q+1) v 1 (X.map ci)) l Vs->(∀X∈l,X.length<9223372036854775808)->All2 (Rp.rp (λ_=>True) 0 (g3.put 1 (VG 4 [[.int .i64 n.grain,b,fl,S_]])).h) l (Vs.map λv=>[v]):=by
     intro l
     induction l with
     | nil=>intro Vs h _;cases Vs with
      |nil=>trivial
      |cons v Vs=>exact h.elim
     | cons X l ih=>intro Vs h hX;cases Vs with
      |nil=>exact h.elim
      | cons v Vs =>
       refine⟨?_,ih Vs h.2 λY hY=>hX Y (by simp[hY])⟩;have ho:Own (g3.put 1 (VG 4 [[.int .i64 n.grain,b,fl,S_]])) (q+1) v 1 (X.map ci):=h.1.fr (by simp) λi hi=>by have:=(h.1.lt hi).1;simp[RW,show ¬i=1 by omega]
       obtain⟨_,e1,hh⟩:=ho.ints (k:=0) (hX X (by simp));exact mA.2 ⟨_,e1,hh⟩
    refine hal2 l Vs hal λX hX=>?_;obtain⟨i,hi,he⟩:=Tl.1 hX;have:=(hst i _ X (R4 (show i<fs.length by omega)) (by rw[R4 hi,he])).1;omega
   ·rw[hs];exact aI.2 rfl
theorem J9{d m k fb kv kz:Nat}{y:QnM}{b fl S_ wv va ca wa:AV}{gr wt p:Int}{f:Factor}{R vals:List Int}{mm:Nat}{Q:QT}{t:T}{g:G}(hva:SlR NoP kv .nil f.vars va)(hF:FOk mm f)(hR:S.cI mm f 0 R)(hvl:vals.length=mm)
  (hS:∃(srows:List (List AV)) (z:AV),(∀h,ak h 1 S_=some srows)/\srows[k]?=some [z]/\k<srows.length/\SlR NoP kz .nil R z) (rv:∀h,ak h 1 wv=some (vals.map ci)) (hp:p=S.ah f.cards (S.ac vals f.vars)) (hin:InC f.cards (S.ac vals f.vars)) (hpb:p<=10000000)
  (h0:WtI y b fl S_ wv va ca wa gr wt p f.cards (S.ac vals f.vars) m k fb 0 t g) (h22:tat t 22=.int .i64 0) (h21:tat t 21=.int .i64 (f.vars.length:Int))
  (fin:∀t g,WtI y b fl S_ wv va ca wa gr wt p f.cards (S.ac vals f.vars) m k fb f.vars.length t g->Q (.exit 2) t [] g):wpL (wp C0 d none cT) Q t [] g:=by
 obtain⟨srows,z,s1,s2,s3,hz⟩:=hS;have rva:=λh=>(hva.tree (h':=h) (R5 _)).ints;have rz:=λh=>(hz.tree (h':=h) (R5 _)).ints;simp only[cT];refine aK (m:=f.vars.length) hva.1 (λi t df g=>df=[]/\WtI y b fl S_ wv va ca wa gr wt p f.cards (S.ac vals f.vars) m k fb i t g) ⟨rfl,h0⟩ h22 h21 (by decide)
  (by rintro j t df g v s (rfl|rfl|rfl) ⟨a1,⟨b1,b2,b3,b4,b5,b6,b7,b8,b9,b10,-⟩,c1,c2,c3,c4⟩<;>exact⟨a1,by simp[St,sx,b1,b2,b3,b4,b5,b6,b7,b8,b9,b10],c1,c2,c3,c4⟩) ?_ ?_
 ·rintro i t df g hi ⟨rfl,⟨h1,h2,h12,h13,h14,h5,h6,h7,h20,h8,-⟩,e0,ef,hnn,hnx⟩ h22 h21;obtain⟨u,hu,-,hum⟩:=an hi;obtain⟨hu0,hum⟩:=hF.vr u hum;obtain⟨un,rfl⟩:=R8 hu0;have hcl:=hF.cl;have hdr:f.cards.drop i=f.cards[i]::f.cards.drop (i+1):=Tf (by omega);have hval:vals[un]?=some vals[un]:=R4 (by omega);have hpvi:(S.ac vals f.vars)[i]?=some vals[un]:=by simp[S.ac,hu,hval]
  have hdp:(S.ac vals f.vars).drop i=vals[un]::(S.ac vals f.vars).drop (i+1):=by
   have hl:i<(S.ac vals f.vars).length:=by rw[uO];exact hi
   rw[Tf hl];rw[R4 hl]at hpvi;injection hpvi with hpvi;rw[hpvi]
  have hv0:0<=vals[un]:=by obtain⟨v',h1,h2,-⟩:=hin.get (i:=i) (c:=f.cards[i]) (R4 (by omega));rw[Cm hpvi h1];exact h2
  generalize vals[un]=x at hval hpvi hdp hv0;have hRu:=hR.2 i (un:Int) (S2 _) hu;rw[Sx]at hRu;have hRl:=(R6.1 hRu).1;have u1:i<(f.vars.map ci).length:=by simpa using hi
  have u2:(f.vars.map ci)[i]?=some (ci (un:Int)):=by rw[R_,hu];rfl
  have u3:un<(vals.map ci).length:=by simp;omega
  have u4:(vals.map ci)[un]?=some (ci x):=by rw[R_,hval];rfl
  have u5:un<(R.map ci).length:=by simpa using hRl
  have u6:(R.map ci)[un]?=some (ci (S.ae (f.cards.drop (i+1)))):=by rw[R_,hRu];rfl
  have hidx:S.ah (f.cards.drop i) ((S.ac vals f.vars).drop i)=x*S.ae (f.cards.drop (i+1))+S.ah (f.cards.drop (i+1)) ((S.ac vals f.vars).drop (i+1)):=by rw[hdr,hdp,S.ah]
  have hb1:=dB (cards:=f.cards.drop (i+1)) (vals:=(S.ac vals f.vars).drop (i+1)) (λc hc=>hF.cb c (Tv hc)) (hin.drop (i+1));have hb2:=dB (cards:=f.cards.drop i) (vals:=(S.ac vals f.vars).drop i) (λc hc=>hF.cb c (Tv hc)) (hin.drop i);have hpp:=gT (cs:=f.cards.drop (i+1)) λc hc=>(hF.cb c (Tv hc)).1;have hxs:0<=x*S.ae (f.cards.drop (i+1)):=UI hv0 (by omega);have w1:IntKind.wrap .i64 (x*S.ae (f.cards.drop (i+1)))=x*S.ae (f.cards.drop (i+1)):=ax (by omega) (by omega);have w2:IntKind.wrap .i64 (p - S.ah (f.cards.drop i) ((S.ac vals f.vars).drop i)+x*S.ae (f.cards.drop (i+1)))=p - S.ah (f.cards.drop (i+1)) ((S.ac vals f.vars).drop (i+1)):=by rw[ax (by omega) (by omega)];omega
  simp only[sz,simprocAttr,h1,h2,h6,h8,h20,h22,h21,e0,rva,u1,u2,rv,u3,u4,s1,s2,s3,rz,u5,u6,ci,w1,w2];refine⟨by simp[St,sx,h1,h2,h12,h13,h14,h5,h6,h7,h20],e0,ef,by omega,by first|exact hnx| (simp;done)| (simp;omega)⟩
 ·rintro t df g ⟨rfl,h⟩;exact fin t g h
theorem J_{d kk ky:Nat}{P:Nat->Prop}{g:G}{v w:AV}{n:Net}{y:QnM}{vals:List Int}(hd:0<d)(hr:NR n)(hm:Agg y NoP ky g.h v)(hq:QnOk n y)(hv:SlR P kk g.h vals w)(hc:InC (S.aa n) vals) :
  am C0 d N.bm [v,w] g=.val (.int .i64 (S.bo n vals)):=by
 have e0:=mK d hm;obtain⟨cs,rfl,hcs⟩:=hm;obtain⟨b,fl,S_,rfl,hN,hfl,hS⟩:=xP.1 hcs;have hfl:SlR NoP ky .nil y.2.1 fl:=hfl.tree (R5 _);have hS:SlR NoP ky .nil y.2.2 S_:=hS.tree (R5 _);obtain⟨w',e2,hw'⟩:=fU hv d;have hgr:y.1.grain=n.grain:=by rw[hq.net]
 obtain⟨frows,f1,f2,f3,f4⟩:=hfl.all;have f1:∀h',ak h' 3 fl=some frows:=f1;obtain⟨srows,s1,s2,s3,s4⟩:=CO hS;have rv:=λh=>(hw' h).ints;have hvl:=hc.len;rw[aX]at hvl;have hl8:=hr.l2;have hfll:=hq.fl;rw[mO];refine jR oZ (xs:=[.agg [.int .i64 y.1.grain,b,fl,S_],w']) (by simp only[aJ,e0,e2]) (by simp[eo]) hd ?_;rw[hgr];have ll:=hfl.len;simp only[sz,simprocAttr,eo,g_,ll,hfll];simp only[gc,gf];refine aK (m:=n.nodes.length) (by omega) (λk t df g=>df=[]/\WtJ n vals b fl S_ w' k t g) ⟨rfl,by simp[St,sx,S.ae],by simp[sx],by simp⟩ (by simp[sx]) (by simp[sx]) (by decide)
  (by rintro j t df g v s (rfl|rfl|rfl) ⟨a1,⟨b1,b2,b3,b4,-⟩,c1,c2⟩<;>exact⟨a1,by simp[St,sx,b1,b2,b3,b4],c1,c2⟩) ?_ ?_
 ·rintro k t df g hk ⟨rfl,⟨h1,h2,h12,h5,-⟩,g0,hnx⟩ h14 h13;obtain⟨x,hx,-,-⟩:=an hk;obtain⟨p,hp,hf⟩:=hq.fs k x (by omega) hx;obtain⟨row,q1,q2⟩:=f3 k _ hf;obtain⟨va,ca,wa,rfl,hva,hca,hwa⟩:=qj.1 q2;have hF:=KX hr hx hp;obtain⟨pn,i1,i2,i3⟩:=Qc hr hc hx p;have hlt:k<frows.length:=by omega
  have hry:=f4 (by omega);obtain⟨R,hR,-,-⟩:=an (l:=y.2.2) (j:=k) (by rw[hq.sl];exact hk);obtain⟨z,z1,z2,z3⟩:=s3 k R hR;have hinp:InC (S.bi n k x p).cards (S.ac vals (S.bi n k x p).vars):=nF hc λu hu=>by rw[aX];exact zz hr hx p u hu
  have hib:=dB hF.cb hinp;have hpb:=cg (l:=(S.bi n k x p).cards) hF.cb;have hfv:=hF.vl;have hp4:=gS (a:=(S.bi n k x p).cards.length) (b:=9) (by
   have h1:=gH (hr.places x (R9 hx)) (by omega);have h3:=tC x.parents p (k:Int) hp;show (S.ac _ _).length<=9;rw[uO];omega)
  have h48:(4:Int) ^ 9=262144:=by decide
  have ei:S.ah (S.bi n k x p).cards (S.ac vals (S.bi n k x p).vars)=(pn:Int):=i1;have lva:=hva.len;have rwa:=λh=>(hwa.tree (h':=h) (R5 _)).ints;refine be (P:=λt' df g'=>df=[]/\g'=(g.new (VG 3 [[.nils,.nils,.nils]])).put g.nx (VG 3 [[va,ca,wa]])/\St t' [(1,w'),(2,.hptr 0 0 0 0),(12,fl),(13,.int .i64 (n.nodes.length:Int)),(14,.int .i64 (k:Int)),(5,.int .i64 (S.ae ((List.range k).map (S.aC n vals)))),(6,.int .i64 (k:Int)),(7,.hptr g.nx 0 0 0)]) ?_ ?_
  ·simp only[sz,simprocAttr,h14,h12,f1,hlt,q1];simp[St,sx,h1,h2,h12,h13,h14,h5]
  clear h1 h2 h12 h5 h14 h13;rintro t df g1 ⟨rfl,hg1,⟨h1,h2,h12,h13,h14,h5,h6,h7,-⟩⟩;have k0:g1.h.get 0=VG 4 [[.int .i64 n.grain,b,fl,S_]]:=by rw[hg1];simp[RW,show ¬0=g.nx by omega,g0]
  have k1:g1.h.get g.nx=VG 3 [[va,ca,wa]]:=by rw[hg1];simp[RW]
  have kn:g1.nx=g.nx+1:=by rw[hg1];simp
  simp only[sz,simprocAttr,h7,k1,lva];refine J9 (y:=y) (b:=b) (fl:=fl) (S_:=S_) (wv:=w') (va:=va) (ca:=ca) (wa:=wa) (gr:=n.grain) (wt:=S.ae ((List.range k).map (S.aC n vals))) (p:=(pn:Int)) (f:=S.bi n k x p) (R:=R) (vals:=vals) (mm:=n.nodes.length) (m:=n.nodes.length) (k:=k) (fb:=g.nx) hva hF (hq.st k _ R hf hR) hvl ⟨srows,z,s1,z1,z2,z3⟩ rv ei.symm hinp (by omega)
   ⟨by simp[St,sx,h1,h2,h12,h13,h14,h5,h6,h7,ei],by simpa using k0,by simpa using k1,by simp[ei],by omega⟩ (by simp[sx]) (by simp[sx]) ?_
  clear h1 h2 h12 h13 h14 h5 h6 h7;rintro t g2 ⟨⟨h1,h2,h12,h13,h14,h5,h6,h7,h20,h8,-⟩,k0,k1,-,hnx2⟩;have hnil:S.ah ((S.bi n k x p).cards.drop (S.bi n k x p).vars.length) ((S.ac vals (S.bi n k x p).vars).drop (S.bi n k x p).vars.length)=0:=by rw[U3 (by rw[hF.cl];exact R5 _)];rfl
  rw[hnil,Int.sub_zero]at h8;have u1:pn<((S.bi n k x p).w.map ci).length:=by rw[Ss];exact (R6.1 i3).1
  have u2:((S.bi n k x p).w.map ci)[pn]?=some (ci (S.aC n vals k)):=by rw[R_];exact congrArg (Option.map ci) i3
  have wb:=uo hr hc (j:=k+1) (by omega);have ws:=GW n vals k;have w1:IntKind.wrap .i64 (S.ae ((List.range k).map (S.aC n vals))*S.aC n vals k)=S.ae ((List.range (k+1)).map (S.aC n vals)):=by rw[<-ws,ax (by omega) (by omega)]
  simp only[sz,simprocAttr,ge,h5,h7,k1,h8,rwa,u1,u2,ci,w1];exact⟨⟨by simp[St,sx,h1,h2,h12],k0,hnx2⟩,h14,h13⟩
 ·rintro t df g ⟨rfl,⟨h1,h2,h12,h5,-⟩,g0,hnx⟩;simp only[sz,simprocAttr,gg,h5]
  rfl
theorem Gc{d k k2:Nat}{g:G}{P P2:Nat->Prop}{v w:AV}{vals e:List Int}(hd:0<d)(hv:SlR P k g.h vals v)(hw:SlR P2 k2 g.h e w)(hl:e.length<=vals.length) :
  am C0 d N.bj [v,w] g=.val (.bool (S.jm vals e)):=by
 obtain⟨v',e1,r1⟩:=fU hv d;obtain⟨w',e2,r2⟩:=fU hw d;have ra:∀h',ak h' 1 v'=some (vals.map ci):=λh'=>(r1 h').ints;have rb:∀h',ak h' 1 w'=some (e.map ci):=λh'=>(r2 h').ints;have n2:=λg=>(r2 .nil).len g;rw[uv];refine nA w_ (xs:=[v',w']) (by simp only[aJ,e1,e2]) (by simp[lS]) hd ?_;simp only[sz,simprocAttr,lS,m6,n2];refine aK (m:=e.length) hw.1 (λj t df g=>df=[]/\St t [(0,v'),(8,w'),(5,.bool true)]/\(List.range j).all (S.cz vals e)=true) ⟨rfl,by simp[St,sx],rfl⟩ (by simp[sx]) (by simp[sx]) (by decide) (by rintro j t df g v s (rfl|rfl|rfl)<;>simp[St,sx]) ?_ ?_
 ·rintro j t df g hj ⟨rfl,⟨h0,h8,h5,-⟩,hA⟩ h10 h9;obtain⟨x,hx,-,-⟩:=an hj;obtain⟨z,hz,-,-⟩:=an (l:=vals) (j:=j) (by omega);have q1:j<(e.map ci).length:=by simpa using hj
  have q2:j<(vals.map ci).length:=by rw[Ss];omega
  have q3:(e.map ci)[j]?=some (ci x):=by rw[R_,hx];rfl
  have q4:(vals.map ci)[j]?=some (ci z):=by rw[R_,hz];rfl
  have hat:S.cz vals e j=(decide (x = -1) || decide (x=z)):=by simp[S.cz,hx,hz]
  by_cases c1:x = -1
  ·subst c1;simp only[sz,simprocAttr,h10,h9,h8,rb,q1,q3,ci];refine⟨by simp[St,sx,h0,h8,h5],?_⟩;rw[rM,hA,hat];simp
  ·by_cases c2:x=z
   ·subst c2;simp only[sz,simprocAttr,h10,h9,h8,h0,ra,rb,q1,q2,q3,q4,ci,c1];refine⟨by simp[St,sx,h0,h8,h5],?_⟩;rw[rM,hA,hat];simp
   ·have:S.cz vals e j=false:=by rw[hat];simp[c1,c2]
    have hf:S.jm vals e=false:=by rw[S.jm,xV hj this]
    simp only[sz,simprocAttr,h10,h8,h0,ra,rb,q1,q2,q3,q4,ci,c1,c2,iT,hf]
 ·rintro t df g ⟨rfl,⟨h0,h8,h5,-⟩,hA⟩;simp only[sz,simprocAttr,iT,h5];rw[S.jm,hA]
def MtV(y:QnM)(e:List Int):VS:=λP k h v=>∃p q,v=.clo N.an [] [p,q]/\Kh y 4 P k h p/\Kh e 1 P k h q
theorem QQ(y:QnM)(e:List Int):Snb (MtV y e) 2:=by
 refine⟨λ{P k h v n} d r hn=>?_,λ{k h v n} r hn=>?_⟩
 ·obtain⟨p,q,rfl,r1,r2⟩:=r;obtain⟨n,rfl⟩:∃q,n=q+2:=⟨n - 2,by omega⟩;obtain⟨p',e1,r1'⟩:=EL (n:=n) d r1 (Sz (show Rp.dp QnM<=20 by decide) (by omega));obtain⟨q',e2,r2'⟩:=EL (n:=n) d r2 (Sz (show Rp.dp (List Int)<=20 by decide) (by omega));refine⟨.clo N.an [] [p',q'],?_,p',q',rfl,r1',r2'⟩;simp only[Hx.snap,aJ]at e1 e2 ⊢;rw[e1,e2]
 ·obtain⟨p,q,rfl,r1,r2⟩:=r;obtain⟨n,rfl⟩:∃q,n=q+2:=⟨n - 2,by omega⟩;obtain⟨m1,e1,l1⟩:=H_ (n:=n) r1;obtain⟨m2,e2,l2⟩:=H_ (n:=n) r2;refine⟨Nat.max m1 (Nat.max m2 0),?_,by show max m1 (max m2 0)<=k;omega⟩;show iK (fp (n+1)) [p,q]=_;simp only[iK,e1,e2]
theorem Eo{d kk:Nat}{g:G}{v w:AV}{y:QnM}{e:List Int}(hd:0<d)(hm:Agg y NoP 0 g.h v)(hw:SlR NoP kk g.h e w)(hk:kk<d:=by omega) :
  ∃cs z t1 t2,am C0 d N.aL [v,w] g=.val (.clo N.an [] [.tptr t1 4 [cs] 0 0,.tptr t2 1 [[z]] 0 0])/\Rp.rp NoP kk .nil y cs/\SlR NoP kk .nil e z:=by
 have e0:=mK d hm;obtain⟨cs,rfl,hc⟩:=hm;obtain⟨a,b,c,rfl,h1,h2,h3⟩:=xP.1 hc;have key:∃r,am C0 d N.aL [.agg [.int .i64 y.1.grain,a,b,c],w] g=.val r/\MtV y e NoP kk .nil r:=by rw[lM];refine bC mS (xs:=[.agg [.int .i64 y.1.grain,a,b,c],w]) (by simp only[aJ,e0,wy d hw]) (by simp[dw]) (QQ y e) (by decide) hk ?_;simp only[sz,simprocAttr,dw,fP,P8 hw];refine⟨λ_=>True,_,_,rfl,.inl ⟨0,_,rfl,trivial,by simp[sx,RW],Rp.tree hc (S2 _)⟩,.inl ⟨1,[w],rfl,trivial,by simp[sx],?_⟩⟩;exact⟨w,rfl,hw.wide (R5 _)⟩
 obtain⟨r,hr,p,q,rfl,r1,r2⟩:=key;rcases r1 with⟨id,cs,rfl,hP,-⟩|⟨t,cs,rfl,ht,r1⟩
 ·exact hP.elim
 rcases r2 with⟨id,cs,rfl,hP,-⟩|⟨t2,cs2,rfl,ht2,r2⟩
 ·exact hP.elim
 obtain⟨z,rfl,hz⟩:=mA.1 r2;exact⟨cs,z,t,t2,hr,r1,hz⟩
theorem Js{d id k m t1 t2 ky:Nat}{n:Net}{b fl S_ w u:AV}{vs:List Int}{Q:QT}{t:T}{g g0:G}(hr:NR n)(hN:SlR NoP ky .nil n.nodes b)(hc:InC (S.aa n) vs)(hm:m<=n.nodes.length)
  (h0:OdoJ n vs (LM id n.grain b fl S_ w u k t1 t2) u g0 m t g)
  (fin:∀m' t g',m'<=n.nodes.length->OdoJ n vs (LM id n.grain b fl S_ w u k t1 t2) u g0 m' t g'->g.nx<=g'.nx->(∀i,vid u≠some i->g'.h.get i=g.h.get i)->(m'=0\/∃x c,vs[m' - 1]?=some x/\(S.aa n)[m' - 1]?=some c/\x≠c - 1/\0<m')->Q (.exit 2) t [] g') :
  wpL (wp C0 d none bA) Q t [] g:=by
 obtain⟨rows,r1,r2,r3,r4⟩:=hN.all;have r1:∀h',ak h' 3 b=some rows:=r1;have hvl:=hc.len;rw[aX]at hvl;have hl8:=hr.l2;refine jZ (λm t df g'=>df=[]/\m<=n.nodes.length/\OdoJ n vs (LM id n.grain b fl S_ w u k t1 t2) u g0 m t g'/\g.nx<=g'.nx/\∀i,vid u≠some i->g'.h.get i=g.h.get i) m ⟨rfl,hm,h0,R5 _,λ_ _=>rfl⟩ ?_;rintro m t df g1 ⟨rfl,hm,⟨h6,⟨h0,h1,h2,h4,h5,-⟩,how,hmx⟩,hnx,hfr⟩;simp only[bA];cases m with
 | zero =>
  have c1:¬((0:Int)<=((0:Nat):Int) - 1):=by omega
  simp only[sz,simprocAttr,h6,c1];refine fin 0 _ _ (S2 _) ⟨?_,?_,?_,hmx⟩ ?_ ?_ (.inl rfl)
  ·simp[sx,h6]
  ·simp[St,LM,sx,h0,h1,h2,h4,h5]
  ·exact how
  ·exact hnx
  ·exact hfr
 | succ m =>
  have c1:(0:Int)<=((m+1:Nat):Int) - 1:=by omega
  have e1:((m+1:Nat):Int) - 1=(m:Int):=by omega
  rw[e1]at c1 h6;obtain⟨x,hx,-,-⟩:=an (l:=n.nodes) (j:=m) (by omega);obtain⟨row,q1,q2⟩:=r3 m x hx;obtain⟨pa,ra,rfl,-,-⟩:=cK.1 q2;have hlt:m<rows.length:=by omega
  have hry:=r4 (by omega);have hci:(S.aa n)[m]?=some x.card:=by simp[S.aa,hx]
  obtain⟨v,hv,hv0,hv1⟩:=hc.get hci;have hcx:=hr.card x (R9 hx);have u1:m<((vs.take (m+1)++List.replicate (vs.length - (m+1)) 0).map ci).length:=by simp;omega
  have u2:((vs.take (m+1)++List.replicate (vs.length - (m+1)) 0).map ci)[m]?=some (ci v):=by rw[R_,So (by simp;omega),SN (by omega),hv];rfl
  have ru:=how.rows;have w1:IntKind.wrap .i64 (x.card - 1)=x.card - 1:=ax (by omega) (by omega)
  by_cases c2:v=x.card - 1
  ·simp only[sz,simprocAttr,h6,h1,h4,c1,ru,u1,u2,r1,hlt,q1,hry,vM,kP,ci,w1,c2];refine cQ (v:=u) (sz:=1) (n:=1) (i:=m) (off:=0) (x:=.int .i64 0) (row':=ci 0) how u2 rfl rfl rfl λg4 hu4 n4 f4=>?_;rw[<-TQ,wC (by omega)]at hu4;have w2:IntKind.wrap .i64 ((m:Int) - 1)=(m:Int) - 1:=ax (by omega) (by omega);simp only[sz,simprocAttr,h6,w2];refine⟨m,by omega,by omega,⟨by simp[sx],by simp[St,LM,sx,h0,h1,h2,h4,h5],hu4,λj c hj hc'=>?_⟩,by omega,λi hi=>by rw[f4 i hi,hfr i hi]⟩
   by_cases e:j=m
   ·subst e;rw[hci]at hc';injection hc' with hc';rw[hv,Se];omega
   ·exact hmx j c (by omega) hc'
  ·simp only[sz,simprocAttr,h6,h1,h4,c1,ru,u1,u2,r1,hlt,q1,hry,vM,kP,ci,w1,c2];refine fin (m+1) _ _ hm ⟨?_,?_,?_,hmx⟩ ?_ ?_ (.inr ⟨v,x.card,hv,hci,c2,by omega⟩)
   ·simp[sx,h6]
   ·simp[St,LM,sx,h0,h1,h2,h4,h5]
   ·exact how
   ·exact hnx
   ·exact hfr
theorem Jt{d id t1 t2 ky ke:Nat}{n:Net}{y:QnM}{e:List Int}{b fl S_ w:AV}{g0:G}{K:AV->G->Prop}(hd:0<d)(hr:NR n)(hq:QnOk n y)(hcs:Rp.rp NoP ky .nil y [.int .i64 n.grain,b,fl,S_])(hw:SlR NoP ke .nil e w)(hel:e.length<=n.nodes.length)
  (J:Nat->H->Prop) (E:G->Prop) (hJ:∀j h h',(∀i,i<g0.nx->h'.get i=h.get i)->J j h->J j h')
  (skip:∀(j:Nat) (h:H),j<S.ba n->S.jm (S.aD (S.aa n) j) e=false->J j h->J (j+1) h)
  (step:∀(j:Nat) (u:AV) (g:G) (K':AV->G->Prop) (D:ADf->Prop),j<S.ba n->S.jm (S.aD (S.aa n) j) e=true->g0.nx<=g.nx->J j g.h->SlR (λi=>g0.nx<=i/\i<g.nx) 0 g.h (S.aD (S.aa n) j) u ->
   (∀g',J (j+1) g'.h->g.nx<=g'.nx->(∀i,g0.nx<=i->i<g.nx->g'.h.get i=g.h.get i)->K' (.bool true) g')->(∀g',E g'->K' (.bool false) g')->(cp (I C0) d id [.agg [.int .i64 (j:Int),.int .i64 (S.bo n (S.aD (S.aa n) j)),u]] g).sat K' g D)
  (h0:J 0 g0.h) (fin:∀g',J (S.ba n) g'.h->g0.nx<=g'.nx->K (.tup []) g') (finE:∀g',E g'->K (.tup []) g') :
  wp C0 d none aH.code (fnQ C0 d aH.res K) (co 0 [.yld id,.tptr t1 4 [[.int .i64 n.grain,b,fl,S_]] 0 0,.tptr t2 1 [[w]] 0 0] .nil) [] g0:=by
 obtain⟨b',fl',S',e1,hN,hfl,hS⟩:=xP.1 hcs;injection e1 with e1 e2;injection e2 with e2 e3;injection e3 with e3 e4;injection e4 with e4 e5;subst e2;subst e3;subst e4;have hN:SlR NoP ky .nil n.nodes b:=by rw[<-hq.net];exact hN
 have hl8:=hr.l2;have hl1:=hr.l1;obtain⟨W1,W2,W3⟩:=hr.wl;have hcs1:=λc hc=>(hr.cs c hc).1;have nl:=hN.len;have hcl:=aX n;obtain⟨Qf,hQf⟩:∃Qf,Qf=fnQ C0 d aH.res K:=⟨_,rfl⟩;rw[<-hQf];simp only[sz,simprocAttr,aH,vM,kP,nl];refine yA (b:=g0.nx) (n:=n.nodes.length) (by unfold aY;omega) (by unfold aY;omega) (R5 _) λu g1 hu n1 fr1 v1=>?_;simp only[sz,simprocAttr];have hul:∀(g:G) (l:List Int),l.length=n.nodes.length->Own g g0.nx u 1 (l.map ci)->∀g2:G,dO .slice u g2=.val (.int .i64 (n.nodes.length:Int)):=λg l hl ho g2=>by rw[qf ho.rows];simp[hl]
 obtain⟨INV,hINV⟩:∃INV:Nat->PT,INV=(λm t df g=>df=[]/\∃(j:Nat) (vs:List Int),m=S.ba n - j/\j<S.ba n/\InC (S.aa n) vs/\S.ah (S.aa n) vs=(j:Int)/\St t (LM id n.grain b fl S_ w u j t1 t2)/\Own g g0.nx u 1 (vs.map ci)/\J j g.h/\g0.nx<=g.nx):=⟨_,rfl⟩;refine jZ INV (S.ba n) ?_ ?_
 ·rw[hINV];exact⟨rfl,0,List.replicate n.nodes.length 0,rfl,by omega,by rw[<-hcl];exact Fm hcs1,by rw[vP];rfl,by simp[St,LM,sx],by simpa [ci] using hu,hJ 0 _ _ (λi hi=>fr1 i hi) h0,by omega⟩
 intro m t df g hI;have hI2:=hI;rw[hINV]at hI2;obtain⟨rfl,j,vs,rfl,hj,hin,hidx,⟨h0,h1,h2,h4,h5,-⟩,ho,hJj,hnx⟩:=hI2;clear hI;have hvl:=hin.len;rw[aX]at hvl;have hval:S.aD (S.aa n) (j:Int)=vs:=by rw[<-hidx];exact uV hcs1 hin
 have hvu:vid u=some g0.nx:=v1;have hsl:SlR (λi=>g0.nx<=i/\i<g.nx) 0 g.h vs u:=Own.sl (α:=Int) ho (by omega) (RS (λa=>aI.2 rfl) _) λi hi=>ho.lt hi;have hmt:=Gc (d:=d) (g:=g) (v:=u) (w:=w) (vals:=vs) (e:=e) hd hsl (hw.tree (h':=g.h) (R5 _)) (by omega);have hlu:=hul g vs hvl ho;have w1:IntKind.wrap .i64 ((n.nodes.length:Int) - 1)=(n.nodes.length:Int) - 1:=ax (by omega) (by omega);obtain⟨R,hR⟩:∃R,R=sQ [oM 28 4,oN 29 28,VI 30 .sub 29 1,oM 6 30] (.seq (.blk 2 (.loop bA)) bB):=⟨_,rfl⟩;simp only[ej];rw[<-hR,eM,C4];obtain⟨Q1,hQ1⟩:∃Q1,Q1=kB 1 (kS (wp C0 d none cd (kL INV (S.ba n - j) (kB 0 Qf))) (kL INV (S.ba n - j) (kB 0 Qf))):=⟨_,rfl⟩;rw[<-hQ1];have rest:∀(t:T) (g:G),St t (LM id n.grain b fl S_ w u j t1 t2)->Own g g0.nx u 1 (vs.map ci)->J (j+1) g.h->g0.nx<=g.nx->wp C0 d none R Q1 t [] g:=by
  rintro t g ⟨h0,h1,h2,h4,h5,-⟩ ho hJj hnx;rw[hR,hQ1];simp only[sz,simprocAttr,h4,hlu,w1];refine Js (t1:=t1) (t2:=t2) (id:=id) (k:=j) (m:=n.nodes.length) (n:=n) (b:=b) (fl:=fl) (S_:=S_) (w:=w) (u:=u) (vs:=vs) (g0:=g0) hr hN hin (R5 _) ⟨by simp[sx],by simp[St,LM,sx,h0,h1,h2,h4,h5],?_,λi c hi hc=>?_⟩ ?_
  ·rw[S5 (by omega),show vs.length - n.nodes.length=0 by omega];simpa using ho
  ·have:=(R6.1 hc).1;omega
  rintro m' t2 g2 hm' ⟨h6,⟨h0,h1,h2,h4,h5,-⟩,ho2,hmx⟩ hn2 hf2 hcase;have hJ2:J (j+1) g2.h:=hJ _ _ _ (λi hi=>hf2 i λe=>by rw[hvu]at e;injection e with e;omega) hJj;rcases hcase with rfl|⟨x,c,hx,hc,hxc,hm0⟩
  ·have hlast:j+1=S.ba n:=by have:=yx (cs:=S.aa n) (vs:=vs) hin.len.symm λi c hc=>hmx i c (S2 _) hc;omega
   have c1:(((0:Nat):Int) - 1<0):=by omega
   rw[hQf];simp only[sz,simprocAttr,bB,aH,h6,c1];rw[hlast]at hJ2;exact fin g2 hJ2 (by omega)
  ·obtain⟨i,rfl⟩:∃i,m'=i+1:=⟨m' - 1,by omega⟩;rw[U5]at hx hc;have hil:=(R6.1 hx).1;have e1:((i+1:Nat):Int) - 1=(i:Int):=by omega
   rw[e1]at h6;have c1:¬((i:Int)<0):=by omega
   have u1:i<((vs.take (i+1)++List.replicate (vs.length - (i+1)) 0).map ci).length:=by simp;omega
   have u2:((vs.take (i+1)++List.replicate (vs.length - (i+1)) 0).map ci)[i]?=some (ci x):=by rw[R_,So (by simp;omega),SN (by omega),hx];rfl
   have ru:=ho2.rows;obtain⟨x',hx',hx0,hx1⟩:=hin.get hc;rw[Cm hx' hx]at hx0 hx1;have hcb:=hr.cs c (R9 hc);have w2:IntKind.wrap .i64 (x+1)=x+1:=ax (by omega) (by omega);simp only[sz,simprocAttr,bB,h6,c1,h4,ru,u1,u2,ci,w2];refine cQ (v:=u) (sz:=1) (n:=1) (i:=i) (off:=0) (x:=.int .i64 (x+1)) (row':=ci (x+1)) ho2 u2 rfl rfl rfl λg4 hu4 n4 f4=>?_;rw[<-TQ,wB hil]at hu4;have hin2:=Eu hin hcs1 hx hc hxc;have hidx2:=D9 (cs:=S.aa n) (vs:=vs) hin.len.symm hx λk c hk hc=>hmx k c (by omega) hc;rw[hidx]at hidx2;have hlt2:=dB hr.cs hin2;have w3:IntKind.wrap .i64 ((j:Int)+1)=((j+1:Nat):Int):=by rw[ax (by omega) (by omega)];rfl
   simp only[sz,simprocAttr,cd,h5,w3];refine⟨S.ba n - (j+1),by omega,?_⟩;rw[hINV];refine⟨rfl,j+1,_,rfl,by omega,hin2,by rw[hidx2];rfl,by simp[St,LM,sx,h0,h1,h2,h4],hu4,hJ _ _ _ (λi hi=>f4 i λe=>by rw[hvu]at e;injection e with e;omega) hJ2,by omega⟩
 cases hm:S.jm vs e with
 | false =>
  rw[hm]at hmt;rw[eM];simp only[sz,simprocAttr,h4,h2,kP,hmt];exact rest _ _ (by simp[St,LM,sx,h0,h1,h2,h4,h5]) ho (skip j _ hj (by rw[hval];exact hm) hJj) hnx
 | true =>
  rw[hm]at hmt;rw[eM];have hwt:=J_ (d:=d) (g:=g) (v:=.agg [.int .i64 n.grain,b,fl,S_]) (w:=u) (vals:=vs) (y:=y) hd hr ⟨_,rfl,Rp.tree hcs (R5 _)⟩ hq hsl hin;simp only[sz,simprocAttr,h0,h1,h5,h4,h2,kP,hmt,hwt,Qg (a:=.int .i64 (j:Int)) (b:=.int .i64 (S.bo n vs)) ⟨rfl,rfl⟩ ⟨rfl,rfl⟩ ho.cell];have st:=λK' D=>step j u g K' D hj (by rw[hval];exact hm) hnx hJj (by rw[hval];exact hsl);rw[hval]at st;show (cp (I C0) d id [.agg [.int .i64 (j:Int),.int .i64 (S.bo n vs),u]] g).sat _ _ _;refine st _ _ (λg' hJ' hn' hf'=>?_) λg' hE=>?_
  ·simp only[sz,simprocAttr];exact rest _ _ (by simp[St,LM,sx,h0,h1,h2,h4,h5]) (ho.fr hn' λi hi=>hf' i (ho.lt hi).1 (ho.lt hi).2) hJ' (by omega)
  ·rw[hQ1,hQf];simp only[sz,simprocAttr,aH];exact finE g' hE
theorem DH:C0.ext N.an=none:=by kernel_rfl
theorem JM{d nt p r t1 t2 ky ke:Nat}{n:Net}{y:QnM}{e:List Int}{cs:List AV}{w:AV}{ca cb:SC}{Q:QT}{t:T}{df:List ADf}{g:G}(hd:0<d)(hr:NR n)(hq:QnOk n y)(hcs:Rp.rp NoP ky .nil y cs)(hw:SlR NoP ke .nil e w)(hel:e.length<=n.nodes.length)
  (hv:tat t r=.clo N.an [] [.tptr t1 4 [cs] 0 0,.tptr t2 1 [[w]] 0 0]) (hp:p<nt)
  (J:Nat->H->Prop) (E:H->Prop) (hJ:∀j h h',(∀i,i<g.nx->h'.get i=h.get i)->J j h->J j h') (hE:∀h h',(∀i,i<g.nx->h'.get i=h.get i)->E h->E h') (h0:J 0 g.h)
  (skip:∀(j:Nat) (h:H),j<S.ba n->S.jm (S.aD (S.aa n) j) e=false->J j h->J (j+1) h)
  (step:∀(j:Nat) (u:AV) (g1:G),j<S.ba n->S.jm (S.aD (S.aa n) j) e=true->J j g1.h->g.nx+2<=g1.nx->SlR (λi=>g.nx+2<=i/\i<g1.nx) 0 g1.h (S.aD (S.aa n) j) u ->
   wp C0 d (some (g.nx+1)) ca (λe t1 df g1'=>e=.norm/\df=[]/\Fr g1 g1'/\∀g2:G,g2.nx=g1'.nx->(∀i,i≠g.nx+1->g2.h.get i=g1'.h.get i) ->
    wp C0 d (some (g.nx+1)) cb (λe _ df g3=>df=[]/\RowQ g.nx g2 g3 e (J (j+1) g3.h) (E g3.h)) t1 [] g2)
    (fq t p (.agg [.int .i64 (j:Int),.int .i64 (S.bo n (S.aD (S.aa n) j)),u])) [] g1)
  (fin:∀g',J (S.ba n) g'.h->g.nx+2<=g'.nx->g'.h.get g.nx=.dfr true->Q .norm t (.mark g.nx::df) g')
  (finE:∀g',E g'.h->g.nx+2<=g'.nx->g'.h.get g.nx=.dfr true->Q .ret t (.mark g.nx::df) g') :
  wp C0 d none (.rng nt (.t r) [p] ca cb) Q t df g:=by
 obtain⟨b,fl,S_,rfl,-,-,-⟩:=xP.1 hcs;rw[hq.net]at hv hcs;refine qY (fn:=N.an) (first:=[]) (cap:=[.tptr t1 4 [[.int .i64 n.grain,b,fl,S_]] 0 0,.tptr t2 1 [[w]] 0 0]) (s:=aH) hv DH lQ (by simp[aH]) ?_;intro assign body ha hb;have e1:((g.new (.dfr true)).new (.loop nt t [p] assign body g.nx .ready none)).nx=g.nx+2:=by simp
 refine Jt (g0:=(g.new (.dfr true)).new (.loop nt t [p] assign body g.nx .ready none)) (id:=g.nx+1) hd hr hq hcs hw hel
  (λj h=>J j h/\h.get g.nx=.dfr true/\h.get (g.nx+1)=.loop nt t [p] assign body g.nx .ready none)
  (λg'=>E g'.h/\g'.h.get g.nx=.dfr true/\g'.h.get (g.nx+1)=.loop nt t [p] assign body g.nx .done (some .ret)/\g.nx+2<=g'.nx) ?_ ?_ ?_ ?_ ?_ ?_
 ·rintro j h h' hh ⟨a1,a2,a3⟩;rw[e1]at hh;exact⟨hJ j h h' (λi hi=>hh i (by omega)) a1,by rw[hh _ (by omega),a2],by rw[hh _ (by omega),a3]⟩
 ·rintro j h hj hm ⟨a1,a2,a3⟩;exact⟨skip j h hj hm a1,a2,a3⟩
 ·rintro j u g1 K' D hj hm hn ⟨a1,a2,a3⟩ hsl kk kE;rw[e1]at hn kk hsl;refine xn a3 ha hb (t':=fq t p (.agg [.int .i64 (j:Int),.int .i64 (S.bo n (S.aD (S.aa n) j)),u])) ?_ ?_
  ·simp only[cP,aa,Tg,Sb hp];rfl
  ·refine cw _ (step j u g1 hj hm a1 (by omega) hsl) ?_;rintro e t1 df g1' ⟨rfl,rfl,hfr,h⟩;have hl0:g.nx+1<g1.nx:=by omega
   have hl:g.nx+1<g1'.nx:=SB hl0 hfr.1;have a2':g1'.h.get g.nx=.dfr true:=by rw[hfr.2 _ (by omega),a2]
   have a3':g1'.h.get (g.nx+1)=.loop nt t [p] assign body g.nx .ready none:=by rw[hfr.2 _ hl0,a3]
   refine⟨rfl,rfl,a3',?_⟩;refine cw _ (h (g1'.put (g.nx+1) (.loop nt t [p] assign body g.nx .busy none)) (by simp) (λi hi=>by simp[RW,hi])) ?_;rintro e t2 df g3 ⟨rfl,⟨b2,b3,b1⟩⟩;have b4:g3.h.get (g.nx+1)=.loop nt t [p] assign body g.nx .busy none:=by rw[b3 _ (by omega) (by simpa using hl)];simp[RW]
   have b5:g3.h.get g.nx=.dfr true:=by rw[b3 _ (by omega) (by simp;omega)];simp[RW,a2']
   refine⟨rfl,b4,?_⟩;have b2':g1'.nx<=g3.nx:=by simpa using b2
   have hf1:=hfr.1;rcases b1 with⟨rfl,b1⟩|⟨rfl,b1⟩
   ·refine .inl ⟨rfl,kk _ ⟨hJ _ g3.h _ (λi hi=>by simp[RW,show ¬i=g.nx+1 by omega]) b1,?_,?_⟩ (by simp;omega) λi h1 h2=>?_⟩
    ·simp[RW,b5]
    ·simp[RW]
    ·have hne:¬i=g.nx+1:=by omega
     have:=b3 i (by omega) (by simp;omega);simp[RW,hne]at this ⊢;rw[this,hfr.2 i h2]
   ·refine .inr ⟨rfl,kE _ ⟨hE g3.h _ (λi hi=>by simp[RW,show ¬i=g.nx+1 by omega]) b1,?_,?_,?_⟩⟩
    ·simp[RW,b5]
    ·simp[RW]
    ·simp;omega
 ·refine⟨hJ 0 g.h _ (λi hi=>?_) h0,?_,?_⟩
  ·simp[RW,show ¬i=g.nx+1 by omega,show ¬i=g.nx by omega]
  ·simp[RW]
  ·simp[RW]
 ·rintro g' ⟨a1,a2,a3⟩ hn;rw[e1]at hn;refine⟨_,_,_,_,_,_,.inl ⟨a3,fin _ (hJ _ g'.h _ (λi hi=>by simp[RW,show ¬i=g.nx+1 by omega]) a1) (by simpa using hn) ?_⟩⟩;simp[RW,a2]
 ·rintro g' ⟨a1,a2,a3,hn⟩;refine⟨_,_,_,_,_,_,.inr ⟨a3,finE _ (hE g'.h _ (λi hi=>by simp[RW,show ¬i=g.nx+1 by omega]) a1) (by simpa using hn) ?_⟩⟩;simp[RW,a2]
theorem Ot{d kk:Nat}{g:G}{v w:AV}{n:Net}{y:QnM}{e:List Int}(hd:0<d)(hr:NR n)(hm:Agg y NoP 0 g.h v)(hq:QnOk n y)(he:SlR NoP kk g.h e w)(hev:S.aJ n e=true)(hk:kk<=d:=by omega) :
  am C0 d N.bk [v,w] g=.val (.int .i64 (S.bF n e)):=by
 have e0:=mK d hm;have ew:=wy d he;obtain⟨cs,rfl,hcs⟩:=hm;obtain⟨b,fl,S_,rfl,-,-,-⟩:=xP.1 hcs;obtain⟨el,ege⟩:=KU hev;obtain⟨W1,W2,W3⟩:=hr.wl;rw[oR];refine jR qz (xs:=[.agg [.int .i64 y.1.grain,b,fl,S_],w]) (by simp only[aJ,e0,ew]) (by simp[fF]) hd ?_;simp only[sz,simprocAttr,fF];unfold jd;refine bI (P:=λt' df g'=>df=[]/\g'.nx=2/\g'.h.get 0=VG 4 [[.int .i64 y.1.grain,b,fl,S_]]/\g'.h.get 1=VG 1 [[.int .i64 0]]/\St t' [(1,w),(2,.hptr 0 0 0 0),(5,.hptr 1 0 0 0)]) ?_ ?_
 ·simp only[sz,simprocAttr];simp[St,sx]
 rintro t df g0 ⟨rfl,f2,f0,f1,h1,h2,h5,-⟩;obtain⟨cs,z,t1,t2,ez,hcs',hz⟩:=Eo (d:=d+1) (g:=g0) (y:=y) (e:=e) (v:=.agg [.int .i64 y.1.grain,b,fl,S_]) (w:=w) (SH d) ⟨_,rfl,Rp.tree hcs (R5 _)⟩ (he.tree (R5 _));rw[eM,eM];simp only[sz,simprocAttr,h1,h2,f0,ez];refine JM (t1:=t1) (t2:=t2) (n:=n) (y:=y) (e:=e) (cs:=cs) (w:=z) (SH d) hr hq hcs' hz (by omega) (by simp[sx]) (by decide)
  (λj h=>h.get 1=VG 1 [[.int .i64 (S.bc n (S.pe n e) j)]]) (λ_=>False) (λj h h' hh h1=>by rw[hh 1 (by omega),h1]) (λ_ _ _ h=>h) f1 ?_ ?_ ?_ (λ_ h=>h.elim)
 ·intro j h hj hmt h1;have hp:S.pe n e j=false:=by rw[S.pe,<-Px ege];exact hmt
  rw[h1,S.bc,hp];simp
 ·intro j u g1 hj hmt h1 hn hu;have hp:S.pe n e j=true:=by rw[S.pe,<-Px ege];exact hmt
  have hb:=O_ hr (p:=S.pe n e) (j:=j+1) (by omega);have hs:S.bc n (S.pe n e) (j+1)=S.bc n (S.pe n e) j+S.bo n (S.aD (S.aa n) (j:Int)):=by rw[S.bc,hp];simp
  have w1:IntKind.wrap .i64 (S.bc n (S.pe n e) j+S.bo n (S.aD (S.aa n) (j:Int)))=S.bc n (S.pe n e) (j+1):=by rw[<-hs,ax (by omega) (by omega)]
  simp only[sz,simprocAttr,iB];refine⟨Ra _ _ _,?_⟩;intro g2 n2 f2';have k6:g2.h.get g1.nx=VG 3 [[.int .i64 (j:Int),.int .i64 (S.bo n (S.aD (S.aa n) (j:Int))),u]]:=by rw[f2' _ (by omega),Sb rfl]
  have k1:g2.h.get 1=VG 1 [[.int .i64 (S.bc n (S.pe n e) j)]]:=by rw[f2' 1 (by omega),Sa (by omega),Sa (by omega),h1]
  simp only[sz,simprocAttr,iC,h5,k1,k6,w1];exact⟨by simp,λi h1 h2=>by simp[RW,show ¬i=1 by omega],.inl ⟨rfl,by simp[RW]⟩⟩
 ·intro g' h1 hn hdf;simp only[sz,simprocAttr,iD,h5,h1];refine kG hdf ?_;simp only[sx,↓reduceIte];rw[Ml]
theorem LJ{d k0:Nat}{P:Nat->Prop}{g:G}{v w0:AV}{n:Net}{e:List Int}(hd:0<d)(hm:Agg n NoP 0 g.h v)(he:SlR P k0 g.h e w0)(hk:k0<=d:=by omega) :
  am C0 d N.ay [v,w0] g=.val (.tup [.agg [.int .i64 (S.ch n e).1,.int .i64 (S.ch n e).2],.int .i64 (S.aN n e)]):=by
 have key:∃r,am C0 d N.ay [v,w0] g=.val r/\wI (Agg (S.ch n e)) (One (S.aN n e)) NoP 0 .nil r:=by
  obtain⟨b,rows,rfl,e1,hm',hN,r1,r2,r3,r4⟩:=gG d hm;obtain⟨w,ew,hw⟩:=fU he d;rw[Nat.max_eq_right hk]at hw;have hw:=hw .nil;rw[xX];refine bC AK (xs:=[.agg [.int .i64 n.grain,b],w]) (by simp only[aJ,e1,ew]) (by simp[qB]) (gJ (m:=2) (dF _) (bm _) (by decide) (by decide)) (by decide) hd ?_;simp only[sz,simprocAttr,qB,sw,hw.cell.1,hw.cell.2];refine kU (P6 (n:=n) (ls:=[e]) (SH d) (hm' _) (RM hw (by simp[sx]))) λz hz=>?_;obtain⟨y,cs,rfl,hy,hc,a1,a2,a3,a4,rfl⟩:=Ft hz;rw[ER]at hy ⊢
  by_cases h0:S.aN n e=0
  ·have hyo:=hy h0;obtain⟨h1,h2⟩:=oG.1 h0;have hr:=cY.1 h1;have hj:S.ch n e=S.a_ (S.bF n e).toNat (S.bE n).toNat:=by rw[S.ch,Sb h0]
   simp only[sz,simprocAttr,h0];rw[Nn (n:=n) (SH d) (hm' _) hr];simp only[sz,simprocAttr];rw[Ot (y:=y) (n:=n) (e:=e) (SH d) hr ⟨_,rfl,Rp.tree hc (R5 _)⟩ hyo (hw.tree (R5 _)) h2];simp only[sz,simprocAttr];have hb1:=th hr e;have hb2:=Gi hr;obtain⟨a,ha⟩:=R8 hb1.1;obtain⟨c,hc'⟩:=R8 (show 0<=S.bE n by omega);rw[ha,hc']at hj ⊢;rw[K7 (SH d) (by omega) (by omega) (by omega)];simp only[sz,simprocAttr];rw[hj];exact⟨λ_=>True,_,_,rfl,nX.2 rfl,aI.2 rfl⟩
  ·have hj:S.ch n e=(0,0):=by rw[S.ch,Sa h0]
   have hbd:wO [.int .i64 0,.int .i64 0] [] []=.val (.agg [.int .i64 0,.int .i64 0]):=rfl;simp only[sz,simprocAttr,h0];rw[hj];exact⟨λ_=>True,_,_,rfl,nX.2 rfl,aI.2 rfl⟩
 obtain⟨r,hr,a,c,rfl,ha,hc⟩:=key;have hc:=aI.1 hc;injection hc with hc;rw[hr,nX.1 ha,hc]
end
end Hx
end
section
namespace Hx
open Go
noncomputable section
structure JnJ (gB:G) (pm p8:Nat) (L O:AV) (st:List Sp×Br) (g:G):Prop where
 nx:gB.nx<=g.nx
 fr:∀i,i<gB.nx->i≠pm->i≠p8->vid L≠some i->g.h.get i=gB.h.get i
 ls:∃L',g.h.get pm=VG 2 [[L',O]]/\Own g 0 L' 3 (st.1.map cs3)/\(vid L'=vid L\/∃i,vid L'=some i/\gB.nx<=i)
 la:g.h.get p8=VG 2 [[.int .i64 st.2.1,.int .u64 (st.2.2:Int)]]
def LJn(pm p8:Nat)(F T1:AV):List (Nat×AV):=[(0,.hptr pm 0 0 0),(5,F),(8,.hptr p8 0 0 0),(39,T1)]
theorem HJ:∀(bs:List Br) (st:List Sp×Br),(bs.foldl S.aZ st).1.length=st.1.length+bs.length
 |[],_=>rfl
 | b::bs,st=>by rw[T7,HJ bs,S.aZ];simp;omega
theorem FZ:∀(bs:List Br) (st:List Sp×Br),st.2.2<18446744073709551616->(∀b∈bs,b.2<18446744073709551616)->(bs.foldl S.aZ st).2.2<18446744073709551616
 |[],_,h,_=>h
 | b::bs,st,h,hb=>by rw[T7];refine FZ bs _ ?_ λx hx=>hb x (by simp[hx]);exact Ut (n:=64) h (hb b (by simp))
set_option maxRecDepth 20000 in
theorem Oa{d pm p8:Nat}{F T1 L O:AV}{b0:Br}{bs:List Br}{l:List Sp}{gB:G}{Q:QT}{t:T}(hpm:pm<gB.nx)(hp8:p8<gB.nx)(hne:pm≠p8)(hL1:vid L≠some pm)(hL2:vid L≠some p8)
  (hbl:bs.length<=8) (hll:l.length<=20) (hb0:b0.2<18446744073709551616) (hbs:∀b∈bs,b.2<18446744073709551616)
  (hT:∀g,JnJ gB pm p8 L O ((l,b0):List Sp×Br) g\/(gB.nx<=g.nx/\∀i,i<gB.nx->i≠pm->i≠p8->vid L≠some i->g.h.get i=gB.h.get i)->ak g.h 2 T1=some (bs.map cbr))
  (h0:JnJ gB pm p8 L O (l,b0) gB) (ht:St t ((40,.int .i64 (bs.length:Int))::(41,.int .i64 0)::LJn pm p8 F T1))
  (fin:∀t g,St t [(0,.hptr pm 0 0 0),(5,F),(8,.hptr p8 0 0 0)]->JnJ gB pm p8 L O (bs.foldl S.aZ (l,b0)) g->Q (.exit 2) t [] g) :
  wpL (wp C0 d none dq) Q t [] gB:=by
 obtain⟨h40,h41,a0,a5,a8,a39,-⟩:=ht;simp only[dq];refine aK (m:=bs.length) (by omega) (λj t df g=>df=[]/\St t (LJn pm p8 F T1)/\JnJ gB pm p8 L O ((bs.take j).foldl S.aZ (l,b0)) g) ⟨rfl,by simp[St,LJn,a0,a5,a8,a39],h0⟩ h41 h40 (by decide)
  (by rintro j t df g v s (rfl|rfl|rfl)<;>simp[sx,St,LJn]) ?_ ?_
 ·clear h40 h41 a0 a5 a8 a39;rintro j t df g hj ⟨rfl,⟨a0,a5,a8,a39,-⟩,hJ⟩ h41 h40;obtain⟨x,hx,htk,hxm⟩:=an hj;have u0:=hT g (.inr ⟨hJ.nx,hJ.fr⟩);have u1:j<(bs.map cbr).length:=by simpa using hj
  have u2:(bs.map cbr)[j]?=some [.int .i64 x.1,.int .u64 (x.2:Int)]:=by rw[R_,hx];rfl
  have hln:=HJ (bs.take j) (l,b0);rw[SL]at hln;have hlt:=FZ (bs.take j) (l,b0) hb0 λb hb=>hbs b (SM hb);have hx64:=hbs x hxm;have hst:(bs.take (j+1)).foldl S.aZ (l,b0)=S.aZ ((bs.take j).foldl S.aZ (l,b0)) x:=by rw[htk,UP];rfl
  rw[hst];obtain⟨⟨lst,a⟩,hsa⟩:∃st,st=(bs.take j).foldl S.aZ (l,b0):=⟨_,rfl⟩;rw[<-hsa]at hJ hln hlt ⊢;dsimp only at hln hlt;have hla:=hJ.la;obtain⟨L',q1,oL,qL⟩:=hJ.ls;have hnx:=hJ.nx;have hL3:vid L'≠some pm:=λe=>by
   rcases qL with q|⟨i,q,q'⟩
   ·exact hL1 (by rw[<-q,e])
   ·rw[e]at q;injection q with q;omega
  have hL4:vid L'≠some p8:=λe=>by
   rcases qL with q|⟨i,q,q'⟩
   ·exact hL2 (by rw[<-q,e])
   ·rw[e]at q;injection q with q;omega
  refine bI (P:=λt' df g'=>df=[]/\St t' ((10,.hptr g.nx 0 0 0)::(40,.int .i64 (bs.length:Int))::(41,.int .i64 (j:Int))::LJn pm p8 F T1)/\g'.h.get g.nx=VG 2 [[.int .i64 x.1,.int .u64 (x.2:Int)]]/\g'.nx=g.nx+1/\∀i,i<g.nx->g'.h.get i=g.h.get i) ?_ ?_
  ·simp only[sz,simprocAttr,a39,h41,u0,u1,u2];refine⟨by simp[St,LJn,sx,a0,a5,a8,a39,h40,h41],λi hi=>?_⟩;simp[show ¬i=g.nx by omega]
  rintro t df g1 ⟨rfl,⟨h10,h40,h41,a0,a5,a8,a39,-⟩,k10,kn,kf⟩;have k8:g1.h.get p8=VG 2 [[.int .i64 a.1,.int .u64 (a.2:Int)]]:=by rw[kf p8 (by omega)];exact hla
  have km:g1.h.get pm=VG 2 [[L',O]]:=by rw[kf pm (by omega)];exact q1
  have oL1:Own g1 0 L' 3 (lst.map cs3):=oL.fr (by omega) λi hi=>kf i (oL.lt hi).2;refine bI (P:=λt' df g'=>df=[]/\St t' ((10,.hptr g.nx 0 0 0)::(40,.int .i64 (bs.length:Int))::(41,.int .i64 (j:Int))::LJn pm p8 F T1)/\g'.h.get g.nx=VG 2 [[.int .i64 x.1,.int .u64 (x.2:Int)]]/\g1.nx<=g'.nx/\(∀i,i<g1.nx->i≠pm->vid L'≠some i->g'.h.get i=g1.h.get i)/\∃L2,g'.h.get pm=VG 2 [[L2,O]]/\Own g' 0 L2 3 ((lst++[((-1:Int),a.1,x.1)]).map cs3)/\(vid L2=vid L'\/∃i,vid L2=some i/\g1.nx<=i)) ?_ ?_
  ·have nc:xK (.hptr pm 0 0 0)=.val (.hptr pm 0 0 0):=rfl;simp only[sz,simprocAttr,sf,nc,a0,a8,h10,km,k8,k10];refine aW (new:=[cs3 (-1,a.1,x.1)]) (oL1.fr (by first| (simp;done)| (simp;omega)) λi hi=>by have:=(oL1.lt hi).2;simp[RW];intro e;omega) (by simp[sx,sy,cs3]) (S2 _) (by simp[aY];omega) λv2 g2 hv2 n2 f2 c2 lg2=>?_;have ff:∀i,i<g1.nx->vid L'≠some i->g2.h.get i=g1.h.get i:=λi hi hv=>by rw[f2 i (by first| (simp;done)| (simp;omega)) hv];simp[RW];intro e;omega
   simp only[sy]at n2;have km2:g2.h.get pm=VG 2 [[L',O]]:=by rw[ff pm (by omega) hL3,km]
   have hc:=hv2.cell;simp only[sz,simprocAttr,sf,nc,a0,km2,hc.1,hc.2];refine⟨?_,by simp[St,LJn,sx,a0,a5,a8,a39,h10,h40,h41],?_,?_,λi hi h1 h2=>?_,v2,?_,?_,?_⟩
   ·simp only[Si,Sl,Sf,Sd,G.new_lg,G.put_lg,setLog_lg];refine aA [false,false,false,false,false,false,false,false,false,false,true,true,false,false,true] [(0,10),(1,10),(2,10),(3,10),(4,10),(0,11)] (by simp[All2,ac,ap]) (by decide) ?_;rintro p hp x y hx hy;simp only[Sq,Sk,Ui]at hp;rcases hp with rfl|rfl|rfl|rfl|rfl|rfl<;>(simp at hx hy;subst hx;subst hy;refine bH rfl rfl rfl rfl ?_ ?_ ?_<;>simp[ac,ap,ae]<;>omega)
   ·have e1:=ff g.nx (by omega) λe=>by have:=(oL.lt e).2;omega
    simp[RW,show ¬g.nx=pm from by omega];rw[e1,k10]
   ·simp at n2 ⊢;omega
   ·have e1:=ff i hi h2;simp[RW,h1,e1]
   ·simp[RW]
   ·have hv3:Own g2 0 v2 3 ((lst++[((-1:Int),a.1,x.1)]).map cs3):=by simpa using hv2
    refine hv3.fr (by first| (simp;done)| (simp;omega)) λi hi=>?_;have:¬i=pm:=λe=>by
     subst e;rcases c2 with c2|⟨k,c2,c3⟩
     ·exact hL3 (by rw[<-c2];exact hi)
     ·rw[hi]at c2;injection c2 with c2;simp at c3;omega
    simp[RW,this]
   ·rcases c2 with c2|⟨k,c2,c3⟩
    ·exact .inl c2
    ·exact .inr ⟨k,c2,by simp at c3;omega⟩
  rintro t df g2 ⟨rfl,⟨h10,h40,h41,a0,a5,a8,a39,-⟩,k10,n2,f2,L2,km2,oL2,c2⟩;have hL5:vid L2≠some p8:=λe=>by
   rcases c2 with q|⟨i,q,q'⟩
   ·exact hL4 (by rw[<-q,e])
   ·rw[e]at q;injection q with q;omega
  have k8:g2.h.get p8=VG 2 [[.int .i64 a.1,.int .u64 (a.2:Int)]]:=by rw[f2 p8 (by omega) (λe=>hne e.symm) hL4];exact k8
  have nc:xK (.hptr pm 0 0 0)=.val (.hptr pm 0 0 0):=rfl;have vl:=λg=>oL2.sat_len g;have w1:IntKind.wrap .i64 ((((lst++[((-1:Int),a.1,x.1)]).map cs3).length:Int) - 1)=(lst.length:Int):=by rw[Ss,SZ,T2,ax (by omega) (by omega)];omega
  have e3:=qq a.2 x.2 hlt hx64;simp only[sz,simprocAttr,sf,nc,a0,a8,h10,k8,km2,k10,vl,w1,e3];refine⟨?_,⟨?_,?_⟩,?_⟩
  ·simp only[Si,Sl,Sf,Sd,G.new_lg,G.put_lg,setLog_lg];exact aA [false,false,false,false,false,false,false,false,false,false,false,false,true] [] (by simp[All2,ac,ap]) (by decide) (by simp)
  ·simp[St,LJn,sx,a0,a5,a8,a39]
  ·rw[S.aZ];refine⟨by simp;omega,λi hi h1 h2 h3=>?_,⟨L2,?_,?_,?_⟩,?_⟩
   ·have e1:g2.h.get i=g1.h.get i:=f2 i (by omega) h1 λe=>by
     rcases qL with q|⟨k,q,q'⟩
     ·exact h3 (by rw[<-q,e])
     ·rw[e]at q;injection q with q;omega
    simp[RW,h2];rw[e1,kf i (by omega),hJ.fr i hi h1 h2 h3]
   ·simp[RW,hne,km2]
   ·refine oL2.fr (by first| (simp;done)| (simp;omega)) λi hi=>?_;have:¬i=p8:=λe=>hL5 (by rw[<-e,hi]);simp[RW,this]
   ·rcases c2 with q|⟨k,q,q'⟩
    ·rcases qL with r|⟨k,r,r'⟩
     ·exact .inl (q.trans r)
     ·exact .inr ⟨k,by rw[q,r],r'⟩
    ·exact .inr ⟨k,q,by omega⟩
   ·simp[RW]
  ·simp[sx,h40,h41]
 ·rintro t df g ⟨rfl,⟨a0,a5,a8,-⟩,hJ⟩;rw[S1]at hJ;exact fin t g (by simp[St,a0,a5,a8]) hJ
theorem Ef:∀(bs:List Br) (st:List Sp×Br),bs≠[]->(bs.foldl S.aZ st).2.1=((st.1.length+bs.length - 1:Nat):Int)
 |[],_,h=>absurd rfl h
 |[b],st,_=>by simp[S.aZ]
 | b::c::bs,st,_=>by rw[T7,Ef (c::bs) _ (by simp),S.aZ];simp;omega
theorem LL{w:Nat->Bool}{l:List Sp}{o:List Br}(h:(o.filter λb=>w b.2)=[]):S.jn w (l,o)=(l,o):=by unfold S.jn;dsimp only;rw[h]
theorem HH{w:Nat->Bool}{l:List Sp}{o:List Br}{b:Br}{bs:List Br}(h:(o.filter λb=>w b.2)=b::bs):S.jn w (l,o)=((bs.foldl S.aZ (l,b)).1,S.bu (o.filter λb=>!w b.2) (bs.foldl S.aZ (l,b)).2):=by unfold S.jn;dsimp only;rw[h]
theorem DV(w:Nat->Bool):∀o:List Br,(o.filter λb=>w b.2).length+(o.filter λb=>!w b.2).length=o.length
 |[]=>rfl
 | c::o=>by have:=DV w o;cases hc:w c.2<;>simp[List.filter_cons,hc]<;>omega
structure MkH (pm:Nat) (L O:AV) (st:List Sp×List Br) (g:G):Prop where
 m:g.h.get pm=VG 2 [[L,O]]
 pn:pm<g.nx
 oL:Own g 0 L 3 (st.1.map cs3)
 oO:Own g 0 O 2 (st.2.map cbr)
 d1:vid L≠some pm
 d2:vid O≠some pm
 d3:∀i,vid L=some i->vid O≠some i
set_option maxRecDepth 20000 in
theorem HI{d pm q m:Nat}{W L O:AV}{ob:AObj}{w:Nat->Bool}{l:List Sp}{o:List Br}{g:G}{K:AV->G->Prop}{D:ADf->Prop}(hW:Wn (d+1) W q ob w)(hq:g.h.get q=ob)(hqn:q<g.nx)
  (hM:MkH pm L O (l,o) g) (hI:MkI m (l,o)) (hm8:m<=8) (hos:∀x∈o,x.2<18446744073709551616)
  (kk:∀u g' L' O',MkH pm L' O' (S.jn w (l,o)) g'->g.nx<=g'.nx->(∀i,i<g.nx->i≠pm->vid L≠some i->vid O≠some i->g'.h.get i=g.h.get i)->(vid L'=vid L\/∀i,vid L'=some i->g.nx<=i)->(vid O'=vid O\/∀i,vid O'=some i->g.nx<=i)->K u g') :
  (am C0 (d+1) N.aE [.hptr pm 0 0 0,W] g).sat K g D:=by
 obtain⟨hm,hpn,oL,oO,d1,d2,d3⟩:=hM;dsimp only at oL oO;have hln:=hI.ln;have hl1:=hI.l1;dsimp only at hln hl1;rw[nQ];refine dc pN (by simp[eQ]) ?_;have nc:xK (.hptr pm 0 0 0)=.val (.hptr pm 0 0 0):=rfl;have vl:=λg=>oO.sat_len g;rw[Ss]at vl;simp only[sz,simprocAttr,eQ,nc,hm,vl];refine N_ hW hq hqn oO (by omega) hos hm hpn (by simp[St,sx]) λt g1 T F ht oT oF hd hf=>?_;obtain⟨h0,h4,h5,-⟩:=ht;have tl:=λg=>oT.sat_len g;rw[Ss]at tl;cases hfl:o.filter λb=>w b.2 with
 | nil =>
  rw[hfl]at tl;simp only[sz,simprocAttr,dt,h4,tl];refine kk _ _ L O ?_ hf.1 (λi hi _ _ _=>hf.2 i hi) (.inl rfl) (.inl rfl);rw[LL hfl];exact⟨by rw[hf.2 pm hpn,hm],by have:=hf.1;omega,oL.step hf,oO.step hf,d1,d2,d3⟩
 | cons b bs =>
  have hbm:∀c∈b::bs,c∈o/\w c.2=true:=λc hc=>by rw[<-hfl,Tk]at hc;exact hc
  have hlf:=DV w o;rw[hfl]at hlf oT tl;rw[SJ]at hlf tl;have u1:0<((b::bs).map cbr).length:=by simp
  have u2:((b::bs).map cbr)[0]?=some [.int .i64 b.1,.int .u64 (b.2:Int)]:=rfl;have c0:decide (((bs.length+1:Nat):Int)=0)=false:=S6 (by omega);have u3:ak g1.h 2 T=some ((b::bs).map cbr):=oT.rows;have hnx:=hf.1;simp only[dt];refine bI (P:=λt' df g'=>df=[]/\g'=g1/\St t' [(0,.hptr pm 0 0 0),(4,T),(5,F)]) ?_ ?_
  ·simp only[sz,simprocAttr,h4,tl,c0];simp[St,sx,h0,h4,h5]
  rintro t df g2 ⟨rfl,rfl,h0,h4,h5,-⟩;refine be (P:=λt' df g'=>df=[]/\St t' [(0,.hptr pm 0 0 0),(4,T),(5,F),(8,.hptr g2.nx 0 0 0)]/\g'.h.get g2.nx=VG 2 [[.int .i64 b.1,.int .u64 (b.2:Int)]]/\g'.nx=g2.nx+1/\∀i,i<g2.nx->g'.h.get i=g2.h.get i) ?_ ?_
  ·have u4:Cp 2 T (.int .i64 0) g2=.val (jV 2 T 0 0):=Cq (k:=.i64) (i:=0) (by rw[u3];rfl) (by rw[u3];simp);simp only[sz,simprocAttr,h4,u3,u1,u2,u4];refine⟨by simp[St,sx,h0,h4,h5],λi hi=>?_⟩;simp[show ¬i=g2.nx by omega]
  rintro t df gB ⟨rfl,⟨h0,h4,h5,h8,-⟩,k8,kn,kf⟩;have fB:Fr g2 gB:=⟨by omega,kf⟩;have fgB:=hf.trans fB;have oTB:=oT.step fB;obtain⟨y,y1,y2,y3⟩:=O0 oTB (n:=1) (by simp);have y1:yk 2 T (some (.int .i64 1)) none gB=.val y:=y1;have yl:∀g',dO .slice y g'=.val (.int .i64 (bs.length:Int)):=λg'=>by rw[y2];simp
  simp only[sz,simprocAttr,h4,y1,yl,UY,UN];have hL2:vid L≠some g2.nx:=λe=>by have:=(oL.lt e).2;omega
  refine Oa (pm:=pm) (p8:=g2.nx) (F:=F) (T1:=y) (L:=L) (O:=O) (b0:=b) (bs:=bs) (l:=l) (by omega) (by omega) (by omega) d1 hL2 (by omega) (by omega) (hos b (hbm b (by simp)).1) (λc hc=>hos c (hbm c (by simp[hc])).1) ?_ ⟨R5 _,λ_ _ _ _ _=>rfl,⟨L,?_,oL.step fgB,.inl rfl⟩,k8⟩ (by simp[St,LJn,sx,h0,h5,h8]) λt g3 ht hJ=>?_
  ·intro g' hg';have hfr:gB.nx<=g'.nx/\∀i,i<gB.nx->i≠pm->i≠g2.nx->vid L≠some i->g'.h.get i=gB.h.get i:=by
    rcases hg' with h|h
    ·exact⟨h.nx,h.fr⟩
    ·exact h
   rw[y3 g'.h λi hi=>?_]
   ·rfl
   ·have i1:=oT.lt hi;exact hfr.2 i (by omega) (by omega) (by omega) λe=>by have:=(oL.lt e).2;omega
  ·rw[fgB.2 pm hpn,hm]
  obtain⟨h0,h5,h8,-⟩:=ht;obtain⟨L',q1,oL',qL⟩:=hJ.ls;have hla:=hJ.la;have hnx3:=hJ.nx;have hfr:=hJ.fr;obtain⟨st,hst⟩:∃st,st=bs.foldl S.aZ (l,b):=⟨_,rfl⟩;have hjn:S.jn w (l,o)=(st.1,S.bu (o.filter λb=>!w b.2) st.2):=by rw[hst];exact HH hfl
  rw[<-hst]at oL' hla;have oF3:Own g3 g.nx F 2 ((o.filter λb=>!w b.2).map cbr):=oF.fr (by omega) λi hi=>by have i1:=oF.lt hi;rw[hfr i (by omega) (by omega) (by omega) λe=>by have:=(oL.lt e).2;omega,kf i (by omega)]
  have hF5:vid F≠some g2.nx:=λe=>by have:=(oF.lt e).2;omega
  have hFL:∀i,vid F=some i->vid L'≠some i:=λi hi e=>by
   have i1:=oF.lt hi;rcases qL with q|⟨k,q,q'⟩
   ·have:=(oL.lt (q ▸ e)).2;omega
   ·rw[e]at q;injection q with q;omega
  have hL3:vid L'≠some pm:=λe=>by
   rcases qL with q|⟨k,q,q'⟩
   ·exact d1 (q ▸ e)
   ·rw[e]at q;injection q with q;omega
  have hss:(o.filter λb=>!w b.2).Pairwise λa b=>a.1<b.1:=hI.so.filter _;have hsb:∀x∈(o.filter λb=>!w b.2),0<=x.1/\x.1<(l.length:Int):=λx hx=>by have:=(hI.op x.1).1 ⟨x,(Tk.1 hx).1,rfl⟩;exact⟨this.1,this.2.1⟩
  have hbb:=(hI.op b.1).1 ⟨b,(hbm b (by simp)).1,rfl⟩;dsimp only at hbb;have hx:(0<=st.2.1/\st.2.1<=1000)/\∀y∈(o.filter λb=>!w b.2),y.1≠st.2.1:=by
   cases hbs:bs with
   | nil =>
    rw[hst,hbs];refine⟨⟨hbb.1,by dsimp only[List.foldl_nil];omega⟩,λy hy e=>?_⟩;obtain⟨y1,y2⟩:=Tk.1 hy;have:=M7 hI.so y1 (hbm b (by simp)).1 e;rw[this,(hbm b (by simp)).2]at y2;cases y2
   | cons c cs =>
    have:=Ef bs (l,b) (by rw[hbs];simp);rw[<-hst,hbs]at this;rw[hbs]at hlf;simp only[SJ]at this hlf;rw[this];refine⟨⟨by omega,by omega⟩,λy hy e=>?_⟩;have:=hsb y hy;omega
  simp only[sz,simprocAttr,g7,h0,h5,h8,hla];refine aW (new:=[cbr st.2]) (oF3.step (Fr.new _ _)) (by simp[sx,sy,cbr]) (by simp;omega) (by simp[aY];omega) λv5 g5 hv5 n5 f5 c5 _=>?_;have hc:=hv5.cell;simp at n5;have e5:∀i,i<g3.nx->vid F≠some i->g5.h.get i=g3.h.get i:=λi hi hv=>by rw[f5 i (by simp;omega) hv,(Fr.new g3 _).2 i hi]
  have hFp:vid F≠some pm:=λe=>by have:=(oF.lt e).1;omega
  have m5:g5.h.get pm=VG 2 [[L',O]]:=by rw[e5 pm (by omega) hFp,q1]
  have hv5p:vid v5≠some pm:=λe=>by
   rcases c5 with c|⟨k,c,c'⟩
   ·exact hFp (c ▸ e)
   ·rw[e]at c;injection c with c;simp at c';omega
  have hv5L:∀i,vid L'=some i->vid v5≠some i:=λi hi e=>by
   have i1:=(oL'.lt hi).2;rcases c5 with c|⟨k,c,c'⟩
   ·exact hFL i (c ▸ e) hi
   ·rw[e]at c;injection c with c;simp at c';omega
  simp only[sz,simprocAttr,nc,h0,m5,hc.1,hc.2];have hv6:Own (g5.put pm (VG 2 [[L',v5]])) g.nx v5 2 (((o.filter λb=>!w b.2)++[st.2]).map cbr):=by
   have:Own g5 g.nx v5 2 (((o.filter λb=>!w b.2)++[st.2]).map cbr):=by simpa using hv5
   exact this.fr (by simp) λi hi=>by simp[RW,show ¬i=pm from λe=>hv5p (by rw[<-e,hi])]
  refine O6 (b:=g.nx) hss (λx hx=>⟨(hsb x hx).1,by have:=(hsb x hx).2;omega⟩) hx.1 hx.2 (by omega) hv6 λu g6 o6 s6=>?_;simp only[sz,simprocAttr];have s1:=s6.1;simp only[G.put_nx]at s1;have s2:∀i,i<g5.nx->vid v5≠some i->i≠pm->g6.h.get i=g5.h.get i:=λi hi hv hp=>by rw[s6.2.1 i (by simpa using hi) hv];simp[RW,hp]
  refine kk _ g6 L' v5 ?_ (by omega) (λi hi hp hL hO=>?_) ?_ (.inr λi hi=>(o6.lt hi).1)
  ·rw[hjn];refine⟨?_,by omega,?_,o6.low (S2 _),hL3,hv5p,hv5L⟩
   ·rw[s6.2.1 pm (by simp;omega) hv5p];simp[RW]
   ·refine oL'.fr (by omega) λi hi=>?_;have i1:=(oL'.lt hi).2;rw[s2 i (by omega) (hv5L i hi) (λe=>hL3 (by rw[<-e,hi])),e5 i i1 λe=>hFL i e hi]
  ·rw[s2 i (by omega) (λe=>by have:=(o6.lt e).1;omega) hp,e5 i (by omega) (λe=>by have:=(oF.lt e).1;omega),hfr i (by omega) hp (by omega) hL,kf i (by omega),hf.2 i hi]
  ·rcases qL with q|⟨k,q,q'⟩
   ·exact .inl q
   ·exact .inr λi hi=>by rw[hi]at q;injection q with q;omega
def S.cK(n:Net):List Nat:=if S.aM n then S.ak n else []
def S.cJ(n:Net):Int:=if S.aM n then 0 else 50
theorem OI{d:Nat}{g:G}{v:AV}{n:Net}(hd:0<d)(hm:Agg n NoP 0 g.h v):∃r,am C0 d N.br [v] g=.val r/\wI (One (S.cK n)) (One (S.cJ n)) NoP 0 .nil r:=by
 obtain⟨b,rows,rfl,e1,hm',-⟩:=gG d hm;rw[wS];refine bC zn (xs:=[.agg [.int .i64 n.grain,b]]) (by simp only[aJ,e1]) (by simp[o9]) (gJ (m:=1) (bm _) (bm _) (by decide) (by decide)) (by decide) hd ?_;simp only[sz,simprocAttr,o9];obtain⟨g0,hg0⟩:∃g0,g0=G.empty.new (VG 2 [[.int .i64 n.grain,b]]):=⟨_,rfl⟩;rw[<-hg0];have f0:g0.h.get 0=VG 2 [[.int .i64 n.grain,b]]:=by rw[hg0];simp[sx]
 have n0:g0.nx=1:=by rw[hg0];simp[sx]
 clear hg0;have ld:bK (VG 2 [[.int .i64 n.grain,b]]) 0 0 true 2 0=.val (.agg [.int .i64 n.grain,b]):=rfl;simp only[sz,simprocAttr,rh,f0,ld];refine kU (wm (SH d) (n:=n) (hm' _)) λz hz=>?_;obtain⟨o,-,a,c,rfl,⟨cs,rfl,hc⟩,hi⟩:=hz;have hi:=aI.1 hi;injection hi with hi;subst hi;obtain⟨a1,a2,a3,a4,rfl,hb,hcv,hsv,hoz⟩:=ww.1 hc;have st:∀g:G,cN (VG 5 [[.int .i64 0,.nils,.nils,.nils,.nils]]) g 1 0 0 5 0 (.agg [.int .i64 (S.cp n o).1.grain,a1,a2,a3,a4])=.upd .undef (g.put 1 (VG 5 [[.int .i64 (S.cp n o).1.grain,a1,a2,a3,a4]])):=λg=>by
  have h1:=hb.2;have h2:=hcv.2;have h3:=hsv.2;have h4:=hoz.2;unfold SlV at h1 h2 h3 h4
  split at h1<;>split at h2<;>split at h3<;>split at h4<;>first|rfl|exact h1.elim|exact h2.elim|exact h3.elim|exact h4.elim
 simp only[sz,simprocAttr,n0,st];have hp:(S.cp n o).2.2.1=S.cK n:=by unfold S.cp S.cK;split<;>rfl
 rw[hp]at hsv;exact⟨λ_=>True,_,_,rfl,mA.2 ⟨a3,rfl,hsv.wide (R5 0)⟩,aI.2 rfl⟩
def S.cD(l:List Int)(n:Nat)(i:Nat):Bool:=(List.range i).all λj=>decide (0<=l[j]?.getD 0)&&decide (l[j]?.getD 0<(n:Int))&&!(S.aw (l.take j)).testBit (l[j]?.getD 0).toNat
def S.bm(l:List Int)(n:Nat):Bool:=decide ((l.length:Int)=(n:Int))&&S.cD l n l.length
theorem JA{l:List Int}{n i:Nat}(hi:i<l.length)(h:¬(0<=l[i]?.getD 0/\l[i]?.getD 0<(n:Int)/\(S.aw (l.take i)).testBit (l[i]?.getD 0).toNat=false)):S.bm l n=false:=by rw[TM];intro h2;simp only[S.bm,S.cD,R7,Sg,Sy,Sm,SP]at h2;have:=h2.2 i hi;exact h ⟨this.1.1,this.1.2,this.2⟩
theorem FV{d k n:Nat}{g:G}{P:Nat->Prop}{v:AV}{l:List Int}(hd:0<d)(hn:n<=64)(hv:SlR P k g.h l v):am C0 d N.bc [v,.int .i64 (n:Int)] g=.val (.bool (S.bm l n)):=by
 obtain⟨v',e,r1⟩:=fU hv d;have vl:∀g,dO .slice v' g=.val (.int .i64 (l.length:Int)):=λg=>(r1 .nil).len g;have ri:=λh=>(r1 h).ints;rw[qr];refine nA rZ (xs:=[v',.int .i64 (n:Int)]) (by simp only[aJ,e,dS 0]) (by simp[dT]) hd ?_
 by_cases c0:(l.length:Int)=(n:Int)
 rotate_left
 ·have hs:S.bm l n=false:=by simp[S.bm,c0]
  simp only[sz,simprocAttr,dT,vl,c0,hs]
 simp only[sz,simprocAttr,dT,vl,c0,jE];refine aK (m:=n) (by omega) (λj t df g=>df=[]/\St t [(12,v'),(1,.int .i64 (n:Int)),(5,.int .u64 (S.aw (l.take j):Int))]/\S.cD l n j=true) ⟨rfl,by simp[St,sx,S.aw],rfl⟩ (by simp[sx]) (by simp[sx]) (by decide)
  (by rintro j t df g v s (rfl|rfl|rfl)<;>simp[sx,St]) ?_ ?_
 ·rintro j t df g hj ⟨rfl,⟨h12,h1,h5,-⟩,hok⟩ h14 h13;obtain⟨x,hx,htk,hm⟩:=an (l:=l) (j:=j) (by omega);have z1:j<(l.map ci).length:=by simp;omega
  have z2:(l.map ci)[j]?=some (ci x):=by rw[R_,hx];rfl
  have gx:l[j]?.getD 0=x:=by rw[hx];rfl
  have bad:=JA (l:=l) (n:=n) (i:=j) (by omega);rw[gx]at bad
  by_cases c1:x<0
  ·have:=bad (by omega);simp only[sz,simprocAttr,h12,h14,ri,z1,z2,ci,c1,this]
  by_cases c2:(n:Int)<=x
  ·have:=bad (by omega);simp only[sz,simprocAttr,h12,h14,h1,ri,z1,z2,ci,c1,c2,this]
  obtain⟨X,rfl⟩:=R8 (show 0<=x by omega);have e1:=tB .i64 (S.aw (l.take j)) X (mr _);have e2:bU .and (.int .u64 ((S.aw (l.take j) / 2 ^ X:Nat):Int)) (.int .u64 1)=.val (.int .u64 ((S.aw (l.take j) / 2 ^ X &&& 1:Nat):Int)):=qp (S.aw (l.take j) / 2 ^ X) 1 (Uy (T9 _ _) (mr _)) (by omega);have e3:=yr (S.aw (l.take j)) X;cases cb:(S.aw (l.take j)).testBit X with
  | true =>
   have:=bad (by rw[Sx,cb];simp);rw[cb]at e3;simp only[sz,simprocAttr,h12,h14,h1,h5,ri,z1,z2,ci,c1,c2,e1,e2,e3,this]
  | false =>
   rw[cb]at e3;have hok':S.cD l n (j+1)=true:=by rw[S.cD,Tw,List.all_append,show ((List.range j).all λj=>decide (0<=l[j]?.getD 0)&&decide (l[j]?.getD 0<(n:Int))&&!(S.aw (l.take j)).testBit (l[j]?.getD 0).toNat)=true from hok];simp[gx,cb];omega
   have e4:bU .shl (.int .u64 1) (.int .i64 (X:Int))=.val (.int .u64 (S.aG X:Int)):=i6 .i64 X;have e5:=qq (S.aw (l.take j)) (S.aG X) (mr _) (oJ X);have em:S.aw (l.take (j+1))=S.aw (l.take j) ||| S.aG X:=by rw[htk,Bz];rfl
   simp only[sz,simprocAttr,h12,h14,h1,h5,ri,z1,z2,ci,c1,c2,e1,e2,e3,e4,e5];simp[St,sx,h12,h1,h13,h14,em,hok']
 ·rintro t df g ⟨rfl,-,hok⟩;have:S.bm l n=true:=by
   have e:l.length=n:=by omega
   rw[S.bm,Tx c0,e,hok];rfl
  simp only[sz,simprocAttr,jF,this]
def S.aA(n:Net):List Nat:=(List.range n.nodes.length).map λv=>(S.ak n)[v]?.getD 0 ||| S.aG v
def S.bY(n:Net)(l:List Int):List Sp:=if S.aM n&&S.bm l n.nodes.length then (S.mk (S.aA n) l).1 else []
def S.co(n:Net)(l:List Int):Int:=if S.aM n then (if S.bm l n.nodes.length then 0 else 2) else 50
def PV(o:List Br):Prop:=∀x∈o,x.2<18446744073709551616
theorem On{w:Nat->Bool}{st:List Sp×List Br}(h:PV st.2):PV (S.jn w st).2:=by
 obtain⟨l,o⟩:=st;cases hf:o.filter λb=>w b.2 with
 |nil=>rw[LL hf];exact h
 | cons b bs =>
  rw[HH hf];have hbm:∀c∈b::bs,c∈o:=λc hc=>by rw[<-hf,Tk]at hc;exact hc.1
  intro x hx;unfold S.bu at hx;rcases SG.1 hx with hx|hx
  ·exact h x (Tk.1 (Tk.1 hx).1).1
  ·rcases Sq.1 hx with rfl|hx
   ·exact FZ bs (l,b) (h b (hbm b (by simp))) λc hc=>h c (hbm c (by simp[hc]))
   ·exact h x (Tk.1 (Tk.1 hx).1).1
theorem F_{fam:List Nat}{order:List Int}(h:∀x∈fam,x<18446744073709551616):∀j,PV (S.bD fam order j).2
 | 0=>λx hx=>by obtain⟨v,hv,rfl⟩:=SX.1 hx;have hv:=Sm.1 hv;dsimp only;rw[R4 hv];exact h _ (Ta _)
 |j+1=>On (F_ h j)
theorem Ht{n:Net}(hr:NR n):∀x∈S.aA n,x<18446744073709551616:=λx hx=>by
 obtain⟨v,hv,rfl⟩:=SX.1 hx;refine Ut (n:=64) ?_ (oJ v);cases h:(S.ak n)[v]? with
 |none=>simp
 | some y =>
  obtain⟨z,-,rfl⟩:=SX.1 (R9 h);exact mr _
def S.bB(fam:List Nat)(j:Nat):List Sp×List Br:=((List.range j).map λv:Nat=>(((v:Int),-1,-1):Sp),(List.range j).map λv:Nat=>(((v:Int),fam[v]?.getD 0):Br))
theorem Oo{d pm:Nat}{pv oa:AV}{n:Net}{Q:QT}{t:T}{g:G}(hn:n.nodes.length<=8)(hpv:SlR NoP 0 .nil (S.ak n) pv)(hM:MkH pm .nils .nils ([],[]) g)
  (ht:St t [(1,oa),(8,.hptr pm 0 0 0),(29,pv),(30,.int .i64 (n.nodes.length:Int)),(31,.int .i64 0)])
  (fin:∀t g L O,St t [(1,oa),(8,.hptr pm 0 0 0)]->MkH pm L O (S.bC (S.aA n)) g->Q (.exit 0) t [] g) :
  wpL (wp C0 (d+1) none ie) Q t [] g:=by
 obtain⟨h1,h8,h29,h30,h31,-⟩:=ht;have hpl:(S.ak n).length=n.nodes.length:=by simp[S.ak]
 have rp:=λh=>(hpv.tree (h':=h) (R5 0)).nats;simp only[ie];refine aK (m:=n.nodes.length) (by omega) (λj t df g=>df=[]/\St t [(1,oa),(8,.hptr pm 0 0 0),(29,pv)]/\∃L O,MkH pm L O (S.bB (S.aA n) j) g)
  ⟨rfl,by simp[St,h1,h8,h29],_,_,hM⟩ h31 h30 (by decide) (by rintro j t df g v s (rfl|rfl|rfl)<;>simp[sx,St]) ?_ ?_
 ·clear h1 h8 h29 h30 h31 hM;rintro j t df g hj ⟨rfl,⟨h1,h8,h29,-⟩,L,O,hM⟩ h31 h30;obtain⟨x,hx,-,-⟩:=an (l:=S.ak n) (j:=j) (by omega);have u1:j<((S.ak n).map cu).length:=by simp;omega
  have u2:((S.ak n).map cu)[j]?=some (cu x):=by rw[R_,hx];rfl
  obtain⟨hm,hpn,oL,oO,d1,d2,d3⟩:=hM;have nc:xK (.hptr pm 0 0 0)=.val (.hptr pm 0 0 0):=rfl;have hx64:x<18446744073709551616:=by obtain⟨z,-,rfl⟩:=SX.1 (R9 hx);exact mr _
  have hfj:(S.aA n)[j]?.getD 0=x ||| S.aG j:=by simp[S.aA,hj,hx]
  have hsl:(S.bB (S.aA n) (j+1)).1=(S.bB (S.aA n) j).1++[((j:Int),-1,-1)]:=by simp[S.bB,Tw]
  have hso:(S.bB (S.aA n) (j+1)).2=(S.bB (S.aA n) j).2++[((j:Int),x ||| S.aG j)]:=by simp[S.bB,Tw,hfj]
  have ll:(S.bB (S.aA n) j).1.length=j:=by simp[S.bB]
  have lo:(S.bB (S.aA n) j).2.length=j:=by simp[S.bB]
  refine bI (P:=λt' df g'=>df=[]/\g'=g/\St t' [(1,oa),(8,.hptr pm 0 0 0),(9,.int .i64 (j:Int)),(10,.int .u64 (x:Int)),(29,pv),(30,.int .i64 (n.nodes.length:Int)),(31,.int .i64 (j:Int))]) ?_ ?_
  ·simp only[sz,simprocAttr,h29,h31,rp,u1,u2,cu];simp[St,sx,h1,h8,h29,h30,h31]
  rintro t df g' ⟨rfl,rfl,h1,h8,h9,h10,h29,h30,h31,-⟩;refine bI (P:=λt' df g1=>df=[]/\St t' [(1,oa),(8,.hptr pm 0 0 0),(9,.int .i64 (j:Int)),(10,.int .u64 (x:Int)),(29,pv),(30,.int .i64 (n.nodes.length:Int)),(31,.int .i64 (j:Int))]/\∃L',MkH pm L' O ((S.bB (S.aA n) (j+1)).1,(S.bB (S.aA n) j).2) g1) ?_ ?_
  ·simp only[sz,simprocAttr,nc,h8,h9,hm];refine aW (new:=[cs3 ((j:Int),-1,-1)]) (oL.step (Fr.new _ _)) (by simp[sx,sy,cs3]) (S2 _) (by simp[aY];omega) λv2 g2 hv2 n2 f2 c2 _=>?_;have hc:=hv2.cell;simp at n2;have ff:∀i,i<g'.nx->vid L≠some i->g2.h.get i=g'.h.get i:=λi hi hv=>by rw[f2 i (by simp;omega) hv,(Fr.new g' _).2 i hi]
   have hp2:vid v2≠some pm:=λe=>by
    rcases c2 with c|⟨k,c,c'⟩
    ·exact d1 (c ▸ e)
    ·rw[e]at c;injection c with c;simp at c';omega
   have m2:g2.h.get pm=VG 2 [[L,O]]:=by rw[ff pm hpn d1,hm]
   simp only[sz,simprocAttr,nc,h8,m2,hc.1,hc.2];refine⟨by simp[St,sx,h1,h8,h9,h10,h29,h30,h31],v2,by simp[RW],by simp;omega,?_,?_,hp2,d2,λi hi hi2=>?_⟩
   ·rw[hsl];have:Own g2 0 v2 3 (((S.bB (S.aA n) j).1++[((j:Int),-1,-1)]).map cs3):=by simpa using hv2
    exact this.fr (by simp) λi hi=>by simp[RW,show ¬i=pm from λe=>hp2 (by rw[<-e,hi])]
   ·refine oO.fr (by simp;omega) λi hi=>?_;rw[G.put_h,af _ _ _ (λe=>d2 (by rw[<-e,hi])),ff i (oO.lt hi).2 λe=>d3 i e hi]
   ·rcases c2 with c|⟨k,c,c'⟩
    ·exact d3 i (c ▸ hi) hi2
    ·rw[hi]at c;injection c with c;have:=(oO.lt hi2).2;simp at c';omega
  rintro t df g1 ⟨rfl,⟨h1,h8,h9,h10,h29,h30,h31,-⟩,L',hm1,hpn1,oL1,oO1,e1,e2,e3⟩;dsimp only at oL1 oO1;have e4:bU .shl (.int .u64 1) (.int .i64 (j:Int))=.val (.int .u64 (S.aG j:Int)):=i6 .i64 j;have e5:=qq x (S.aG j) hx64 (oJ j);simp only[sz,simprocAttr,sf,nc,h8,h9,h10,hm1,e4,e5];refine aW (new:=[cbr ((j:Int),x ||| S.aG j)]) (oO1.fr (by first| (simp;done)| (simp;omega)) λi hi=>by have:=(oO1.lt hi).2;simp[RW];intro e;omega) (by simp[sx,sy,cbr]) (S2 _) (by simp[aY];omega) λv2 g2 hv2 n2 f2 c2 lg2=>?_;have hc:=hv2.cell;have ff:∀i,i<g1.nx->vid O≠some i->g2.h.get i=g1.h.get i:=λi hi hv=>by rw[f2 i (by first| (simp;done)| (simp;omega)) hv];simp[RW];intro e;omega
  simp at n2;have hp2:vid v2≠some pm:=λe=>by
   rcases c2 with c|⟨k,c,c'⟩
   ·exact e2 (c ▸ e)
   ·rw[e]at c;injection c with c;simp at c';omega
  have m2:g2.h.get pm=VG 2 [[L',O]]:=by rw[ff pm hpn1 e2,hm1]
  simp only[sz,simprocAttr,sf,nc,h8,m2,hc.1,hc.2];refine⟨?_,⟨by simp[St,sx,h1,h8,h29],L',v2,by simp[RW],by simp;omega,?_,?_,e1,hp2,λi hi hi2=>?_⟩,by simp[sx,h30,h31]⟩
  ·simp only[Si,Sl,Sf,Sd,G.new_lg,G.put_lg,setLog_lg];refine aA [false,false,false,false,false,false,false,false,false,false,false,true,true,false,false,true] [(0,11),(1,11),(2,11),(3,11),(4,11),(0,12)] (by simp[All2,ac,ap]) (by decide) ?_;rintro p hp x y hx hy;simp only[Sq,Sk,Ui]at hp;rcases hp with rfl|rfl|rfl|rfl|rfl|rfl<;>(simp at hx hy;subst hx;subst hy;refine bH rfl rfl rfl rfl ?_ ?_ ?_<;>simp[ac,ap,ae]<;>omega)
  ·refine oL1.fr (by simp;omega) λi hi=>?_;have i1:=(oL1.lt hi).2;have i2:¬i=pm:=λe=>e1 (by rw[<-e,hi]);have i3:=ff i i1 λe=>e3 i hi e;simp[RW,i2,i3]
  ·rw[hso];have:Own g2 0 v2 2 (((S.bB (S.aA n) j).2++[((j:Int),x ||| S.aG j)]).map cbr):=by simpa using hv2
   exact this.fr (by first| (simp;done)| (simp;omega)) λi hi=>by simp[RW,show ¬i=pm from λe=>hp2 (by rw[<-e,hi])]
  ·rcases c2 with c|⟨k,c,c'⟩
   ·exact e3 i hi (c ▸ hi2)
   ·rw[hi2]at c;injection c with c;have:=(oL1.lt hi).2;simp at c';omega
 ·rintro t df g ⟨rfl,⟨h1,h8,-⟩,L,O,hM⟩;have:S.bB (S.aA n) n.nodes.length=S.bC (S.aA n):=by simp[S.bB,S.bC,S.aA]
  rw[this]at hM;exact fin t g L O (by simp[St,h1,h8]) hM
theorem QE{l:List Int}{n:Nat}(h:S.bm l n=true){j:Nat}(hj:j<l.length):0<=l[j]?.getD 0/\l[j]?.getD 0<(n:Int):=by simp only[S.bm,S.cD,R7,Sg,Sy,Sm]at h;have:=h.2 j hj;exact⟨this.1.1,this.1.2⟩
theorem Oq{d pm k:Nat}{oa L O:AV}{n:Net}{l:List Int}{Q:QT}{t:T}{g:G}(hr:NR n)(hol:S.bm l n.nodes.length=true)(hoa:SlR NoP k .nil l oa)(hM:MkH pm L O (S.bC (S.aA n)) g)
  (ht:St t [(8,.hptr pm 0 0 0),(63,oa),(64,.int .i64 (l.length:Int)),(65,.int .i64 0)])
  (fin:∀t g L O,St t [(8,.hptr pm 0 0 0)]->MkH pm L O (S.bD (S.aA n) l l.length) g->Q (.exit 2) t [] g) :
  wpL (wp C0 (d+1) none ig) Q t [] g:=by
 obtain⟨h8,h63,h64,h65,-⟩:=ht;have rp:=λh=>(hoa.tree (h':=h) (R5 k)).ints;simp only[ig];refine aK (m:=l.length) hoa.1 (λj t df g=>df=[]/\St t [(8,.hptr pm 0 0 0),(63,oa)]/\∃L O,MkH pm L O (S.bD (S.aA n) l j) g)
  ⟨rfl,by simp[St,h8,h63],_,_,hM⟩ h65 h64 (by decide) (by rintro j t df g v s (rfl|rfl|rfl)<;>simp[sx,St]) ?_ ?_
 ·clear h8 h63 h64 h65 hM;rintro j t df g hj ⟨rfl,⟨h8,h63,-⟩,L,O,hM⟩ h65 h64;obtain⟨x,hx,-,-⟩:=an hj;have hb:=QE hol hj;rw[hx,Se]at hb;obtain⟨X,rfl⟩:=R8 hb.1;have u1:j<(l.map ci).length:=by simpa using hj
  have u2:(l.map ci)[j]?=some (ci (X:Int)):=by rw[R_,hx];rfl
  have hstep:S.bD (S.aA n) l (j+1)=S.jn (λs=>s.testBit X) (S.bD (S.aA n) l j):=by rw[S.bD,hx];rfl
  obtain⟨hm,hpn,oL,oO,d1,d2,d3⟩:=hM;simp only[sz,simprocAttr,h63,h65,rp,u1,u2,ci,h8];obtain⟨gA,hgA⟩:∃gA,gA=((g.new (VG 1 [[AV.int IntKind.i64 0]])).put g.nx (VG 1 [[AV.int IntKind.i64 (X:Int)]])):=⟨_,rfl⟩;rw[<-hgA];have kA:gA.h.get g.nx=VG 1 [[.int .i64 (X:Int)]]:=by rw[hgA];simp[RW]
  have kn:gA.nx=g.nx+1:=by rw[hgA];simp
  have fA:Fr g gA:=⟨by omega,λi hi=>by rw[hgA];simp[RW,show ¬i=g.nx by omega]⟩;clear hgA;have hlen:(S.aA n).length=n.nodes.length:=by simp[S.aA]
  refine HI (m:=n.nodes.length) (L:=L) (O:=O) (l:=(S.bD (S.aA n) l j).1) (o:=(S.bD (S.aA n) l j).2) (Q0 (d+1) g.nx X) kA (by omega) ⟨by rw[fA.2 pm hpn,hm],by omega,oL.step fA,oO.step fA,d1,d2,d3⟩ (by have:=HY (S.aA n) l j;rw[hlen]at this;exact this) hr.l2 (F_ (Ht hr) j) λu g' L' O' hM' _ _ _ _=>?_;simp only[sz,simprocAttr];rw[hstep];exact⟨⟨by simp[St,sx,h8,h63],L',O',hM'⟩,by simp[sx,h64,h65]⟩
 ·rintro t df g ⟨rfl,⟨h8,-⟩,L,O,hM⟩;exact fin t g L O (by simp[St,h8]) hM
theorem Or{d k:Nat}{g:G}{P:Nat->Prop}{v w:AV}{n:Net}{l:List Int}(hd:0<d)(hm:Agg n NoP 0 g.h v)(hl:SlR P k g.h l w):∃r,am C0 d N.a_ [v,w] g=.val r/\wI (One (S.bY n l)) (One (S.co n l)) NoP 0 .nil r:=by
 obtain⟨b,rows,rfl,e1,hm',hN,-⟩:=gG d hm;obtain⟨w',e2,hw'⟩:=fU hl d;rw[tS];refine bC vB (xs:=[.agg [.int .i64 n.grain,b],w']) (by simp only[aJ,e1,e2]) (by simp[kH]) (gJ (m:=1) (bm _) (bm _) (by decide) (by decide)) (by decide) hd ?_;simp only[sz,simprocAttr,kH];obtain⟨g0,hg0⟩:∃g0,g0=G.empty.new (VG 2 [[.int .i64 n.grain,b]]):=⟨_,rfl⟩;rw[<-hg0];have f0:g0.h.get 0=VG 2 [[.int .i64 n.grain,b]]:=by rw[hg0];simp[sx]
 have n0:g0.nx=1:=by rw[hg0];simp[sx]
 clear hg0;have ld:bK (VG 2 [[.int .i64 n.grain,b]]) 0 0 true 2 0=.val (.agg [.int .i64 n.grain,b]):=rfl;have nl:=λg=>hN.len g;have kNil:∀(e:Int) (h:H),∃P,wI (One ([]:List Sp)) (One e) P 0 h (.tup [.nils,.int .i64 e]):=λe h=>⟨NoP,_,_,rfl,mA.2 ⟨.nils,rfl,by simp,rfl⟩,aI.2 rfl⟩;obtain⟨z,ez,pv,c,rfl,hpv,hc⟩:=OI (d:=d+1) (g:=g0) (SH d) (n:=n) (hm' _);obtain⟨_,e3,hpv⟩:=mA.1 hpv;injection e3 with e3;subst e3;have hc:=aI.1 hc;injection hc with hc;subst hc;simp only[mW];cases c0:S.aM n with
 | false =>
  have r1:S.bY n l=[]:=by simp[S.bY,c0]
  have r2:S.co n l=50:=by simp[S.co,c0]
  have r3:S.cJ n=50:=by simp[S.cJ,c0]
  rw[r3]at ez;rw[r1,r2];simp only[sz,simprocAttr,f0,ld,ez];exact kNil _ _
 | true =>
  have hr:=cY.1 c0;have hn8:=hr.l2;have r3:S.cJ n=0:=by simp[S.cJ,c0]
  have r4:S.cK n=S.ak n:=by simp[S.cK,c0]
  rw[r3]at ez;rw[r4]at hpv;have io:=FV (d:=d+1) (n:=n.nodes.length) (SH d) (by omega) (hw' g0.h) (g:=g0);cases c1:S.bm l n.nodes.length with
  | false =>
   have r1:S.bY n l=[]:=by simp[S.bY,c1]
   have r2:S.co n l=2:=by simp[S.co,c0,c1]
   rw[c1]at io;rw[r1,r2];simp only[sz,simprocAttr,f0,ld,ez,nl,io];exact kNil _ _
  | true =>
   have r1:S.bY n l=(S.mk (S.aA n) l).1:=by simp[S.bY,c0,c1]
   have r2:S.co n l=0:=by simp[S.co,c0,c1]
   rw[c1]at io;rw[r1,r2];have pl:∀g,dO .slice pv g=.val (.int .i64 (n.nodes.length:Int)):=λg=>by rw[hpv.len];simp[S.ak]
   have b2:wO [.nils,.nils] [] []=.val (.agg [.nils,.nils]):=rfl;have wl:∀g,dO .slice w' g=.val (.int .i64 (l.length:Int)):=λg=>(hw' .nil).len g;simp only[sz,simprocAttr,f0,ld,ez,nl,io,pl,b2];refine Oo (pm:=g0.nx) (oa:=w') hn8 hpv ⟨by simp[RW],by simp,.inl ⟨rfl,rfl⟩,.inl ⟨rfl,rfl⟩,by simp[vid],by simp[vid],by simp[vid]⟩ (by simp[St,sx]) λt g1 L O ht hM=>?_;obtain⟨h1,h8,-⟩:=ht;simp only[sz,simprocAttr,l_,h1,wl];refine Oq (pm:=g0.nx) hr c1 (hw' .nil) hM (by simp[St,sx,h1,h8]) λt g2 L O ht hM=>?_;obtain⟨h8,-⟩:=ht;simp only[sz,simprocAttr,l9,h8];have hlen:(S.aA n).length=n.nodes.length:=by simp[S.aA]
   refine HI (d:=d) (m:=n.nodes.length) (q:=0) (ob:=g2.h.get 0) (L:=L) (O:=O) (l:=(S.bD (S.aA n) l l.length).1) (o:=(S.bD (S.aA n) l l.length).2) (QZ (d+1) 0 _) rfl (by have:=hM.pn;omega) hM (by have:=HY (S.aA n) l l.length;rw[hlen]at this;exact this) hn8 (F_ (Ht hr) l.length) λu g' L' O' hM' _ _ _ _=>?_;obtain⟨hm,hpn,oL,oO,d1,d2,d3⟩:=hM';have nc:xK (.hptr g0.nx 0 0 0)=.val (.hptr g0.nx 0 0 0):=rfl;have hfl:(S.mk (S.aA n) l).1.length<9223372036854775808:=by have:=(PA (fam:=S.aA n) (order:=l) (by rw[hlen];exact hr.l1)).2.1;rw[hlen]at this;omega
   simp only[sz,simprocAttr,nc,h8,hm];exact⟨λ_=>True,_,_,rfl,(show Own g' 0 L' 3 ((S.mk (S.aA n) l).1.map cs3) from oL).sps hfl,aI.2 rfl⟩
def RI(n:Nat):VS:=λP k h v=>∃l:List Int,S.bm l n=true/\One l P k h v
theorem LE{l:List Int}{n:Nat}(hn:n<=64)(hl:l.length=n)(hb:∀x∈l,0<=x/\x<(n:Int))(hd:l.Nodup):S.bm l n=true:=by simp only[S.bm,S.cD,R7,Sg,Sy,Sm,SP];refine⟨by omega,λj hj=>?_⟩;rw[R4 hj,Se];have hx:=hb _ (Ta hj);refine⟨hx,?_⟩;rw[TM];intro h;rw[vX λx hx=>by have:=hb x (SM hx);omega,Vn hx.1]at h;obtain⟨i,hi,he⟩:=Tl.1 h;rw[SL]at hi;rw[List.getElem_take]at he;exact (TG.1 hd i j (by omega) hj (by omega)) he
def Q6(n:Nat):VS:=λP k h v=>∃l:List Int,(n<=64->S.bm l n=true)/\One l P k h v
theorem M4(n:Nat):Snb (Q6 n) 0:=lj λl=>bm l
theorem GQ{d n:Nat}{g:G}{vs:List UInt8}(hd:0<d)(hv:vs.length=8)(hn:n<=1000002):∃r,am C0 d N.aQ [.int .i64 (n:Int),.int .i64 (-1),.agg (vs.map u8v)] g=.val r/\Q6 n NoP 0 .nil r:=by
 rw[vp];refine bC ya (xs:=[.int .i64 (n:Int),.int .i64 (-1),.agg (vs.map u8v)]) (by simp only[aJ,dS 0,Au]) (by simp[nf]) (M4 n) (by decide) hd ?_;obtain⟨cu8,hcu⟩:∃c,c=vs.map u8v:=⟨_,rfl⟩;have hcl:cu8.length=8:=by rw[hcu,Ss,hv]
 simp only[sz,simprocAttr,nf,pX,<-hcu];refine fc n (by omega) (λj t df g=>df=[]/\St t [(0,.int .i64 (n:Int)),(1,.int .i64 (-1)),(5,.hptr 0 0 0 0)]/\g.h.get 0=VG 8 [cu8]/\1<=g.nx/\∃u L,tat t 7=u/\L.length=j/\(∀x∈L,0<=x/\x<(j:Int))/\L.Nodup/\Own g 1 u 1 (L.map ci))
  ⟨rfl,by simp[sx,St],by rw[hcl];simp[sx],by simp[sx],_,[],rfl,rfl,by simp,List.nodup_nil,.inl ⟨by simp[sx],rfl⟩⟩ (by simp[sx]) (by decide) (by rintro j t df g v s (rfl|rfl|rfl)<;>simp[sx,St]) ?_ ?_ ?_
 ·rintro j t df g hj ⟨rfl,⟨h0,h1,h5,-⟩,hg,hnx,u,L,h7,r⟩ h8;simp only[sz,simprocAttr,h0,h8];exact⟨by simp[St,sx,h0,h1,h5],hg,hnx,u,L,by simp[sx,h7],r⟩
 ·rintro j t df g hj ⟨rfl,⟨h0,h1,h5,-⟩,hg,hnx,u,L,h7,hLl,hLb,hLd,hu⟩ h8;have hpl:(L.map ci).length=j:=by rw[Ss,hLl]
  obtain⟨y,hy⟩:∃y,vs[j % 8]?=some y:=⟨_,R4 (by omega)⟩;have hcy:cu8[j % 8]?=some (.int .u8 (y.toNat:Int)):=by rw[hcu,R_,hy];rfl
  have hj8:j % 8<8:=TD _ (by omega);have hy8:y.toNat<256:=y.toNat_lt;have w8:IntKind.wrap .i64 (y.toNat:Int)=(y.toNat:Int):=ax (by omega) (by omega);have w9:IntKind.wrap .i64 ((j:Int)+1)=(j:Int)+1:=ax (by omega) (by omega);obtain⟨a,ha⟩:∃a,a=y.toNat % (j+1):=⟨_,rfl⟩;have hal:a<=j:=by have:=TD y.toNat (show 0<j+1 by omega);omega
  have ha2:(y.toNat:Int) % ((j:Int)+1)=(a:Int):=by rw[ha];simp
  have vl:dO .slice u g=.val (.int .i64 (j:Int)):=by
   rcases hu with⟨e1,e2⟩|⟨id,ep,lo,q1,q2,e1,q3⟩
   ·rw[e1];rw[e2]at hpl;simp at hpl;subst hpl;rfl
   ·rw[e1,hpl];rfl
  have c1:decide ((j:Int) = -1)=false:=S6 (by omega);have r8:bU .rem (.int .i64 (j:Int)) (.int .i64 8)=.val (.int .i64 ((j % 8:Nat):Int)):=by rw[eP .i64 (show (0:Int)<=(j:Int) by omega) (show (0:Int)<8 by omega)];congr 2
  have r9:bU .rem (.int .i64 (y.toNat:Int)) (.int .i64 ((j:Int)+1))=.val (.int .i64 (a:Int)):=by rw[eP .i64 (show (0:Int)<=(y.toNat:Int) by omega) (show (0:Int)<(j:Int)+1 by omega),ha2]
  obtain⟨y1,s1,w1⟩:=Aq hu (n:=a) (by omega);simp only[sz,simprocAttr,h0,h1,h5,h7,h8,c1,r8,hg,zL 8 1 _ _ _ _ _ hj8,VE,hcy,w8,vl,w9,r9,UY,UN,s1];refine aW (rows:=[]) (b:=1) (.inl ⟨rfl,rfl⟩) w1 hnx (by simp[aY];omega) λv1 g1 hv1 n1 f1 vid1 _=>?_;simp only[sz,simprocAttr,h8];refine aW (new:=[ci (j:Int)]) (hv1.step (Fr.new _ _)) (by simp[sx,sy,ci]) (by simp) (by simp[aY];omega) λv2 g2 hv2 n2 f2 vid2 _=>?_;have hu1:Own g1 1 u 1 (L.map ci):=hu.fr n1 λi hi=>f1 i (hu.lt hi).2 (by simp[vid]);have hnv:∀i,i<g.nx->vid v1≠some i:=λi hi e=>by
   rcases vid1 with h|⟨i',h,hi'⟩
   ·rw[h]at e;cases e
   ·rw[h]at e;injection e with e;omega
  have hu2:Own g2 1 u 1 (L.map ci):=hu1.fr (by simp at n2;omega) λi hi=>by have hlt:=(hu.lt hi).2;rw[f2 i (by simp;omega) (hnv i hlt),G.new_h,af _ _ _ (by omega)]
  obtain⟨y2,s2,w2⟩:=Ar hu2 (n:=a) (by omega);simp only[sz,simprocAttr,h7,UY,UN,s2];refine aW hv2 w2 (by simp at n2;omega) (by simp[aY];omega) λv3 g3 hv3 n3 f3 _ _=>?_;simp only[sz,simprocAttr];refine⟨⟨by simp[St,sx,h0,h1,h5],?_,by simp at n2;omega,_,L.take a++(j:Int)::L.drop a,rfl,by simp;omega,?_,?_,?_⟩,by simp[sx,h8]⟩
  ·rw[f3 0 (by simp at n2;omega) (λe=>by have:=(hv2.lt e).1;omega),f2 0 (by simp) (hnv 0 (by omega)),G.new_h,af _ _ _ (by omega),f1 0 (by omega) (by simp[vid]),hg]
  ·intro x hx;rw[List.perm_middle.mem_iff,SW]at hx;rcases Sq.1 hx with rfl|hx
   ·omega
   ·have:=hLb x hx;omega
  ·rw[List.perm_middle.nodup_iff,SW,U7];exact⟨λh=>by have:=hLb _ h;omega,hLd⟩
  ·simpa [List.map_take,List.map_drop] using hv3
 ·rintro t df g ⟨rfl,-,hg,hnx,u,L,h7,hLl,hLb,hLd,hu⟩;simp only[sz,simprocAttr,nZ,h7];exact⟨_,L,λhn=>LE hn hLl hLb hLd,hu.ints (by omega)⟩
theorem J4{d n:Nat}{g:G}{vs:List UInt8}(hd:0<d)(hv:vs.length=8)(hn:n<=64):∃r,am C0 d N.aQ [.int .i64 (n:Int),.int .i64 (-1),.agg (vs.map u8v)] g=.val r/\RI n NoP 0 .nil r:=by obtain⟨r,e,l,h,hl⟩:=GQ (g:=g) hd hv (show n<=1000002 by omega);exact⟨r,e,l,h hn,hl⟩
theorem C2(g:G):am C0 1 N.bO [] g=.val (.bool true):=by kernel_rfl
theorem L0{cs:List AV}(h:cs.length=8):bK (VG 8 [cs]) 0 0 true 8 0=.val (.agg cs):=by
 match cs,h with
 |[a,b,c,d,e,f,g,i],_=>rfl
theorem Qm{cs:List AV}(h:cs.length=9):bK (VG 9 [cs]) 0 0 true 9 0=.val (.agg cs):=by
 match cs,h with
 |[a,b,c,d,e,f,g,i,j],_=>rfl
theorem yy{α:Type} [Rp α]{l:List α}{v:AV}(h:One l NoP 0 .nil v):SlR NoP 0 .nil l v:=by obtain⟨w,e,hw⟩:=h;injection e with e;rw[e];exact hw
theorem G0{α:Type} [Rp α]{x:α}{P:Nat->Prop}{cs:List AV}(h:Rp.rp NoP 0 .nil x cs)(h':H):Agg x P 0 h' (.agg cs):=⟨_,rfl,Rp.tree h (R5 _)⟩
theorem Mp(a b c e f:AV)(t:T):co 0 [a,b,c,e,f] t=fq (fq (fq (fq (fq t 0 a) 1 b) 2 c) 3 e) 4 f:=rfl
theorem Qv(a b:Int):yc true (.flat [.int .i64,.int .i64]) (.agg [.int .i64 a,.int .i64 b]) (.agg [.int .i64 a,.int .i64 b])=.val (.bool false):=by
 have ha:D_ a a=true:=by rw[qH];simp
 have hb:D_ b b=true:=by rw[qH];simp
 simp only[yc,eqA,dU,dg,mP,ha,hb]
 rfl
theorem JH{n:Net}{e:List Int}{l:List Sp}{size:Int}(hr:S.aM n=true)(he:S.aJ n e=true)(hl:S.ck l n.nodes.length=true)(h0:0<=size)(h1:size<=1000):S.bz n e l size=(S.a_ (S.bF n e).toNat (S.bE n).toNat,(S.bG n e l size).2.2,0):=by
 have r1:S.aN n e=0:=oG.2 ⟨hr,he⟩;have r2:S.bf n l=0:=by rw[S.bf,Sb hr,Sb hl]
 rw[S.bz,Sb r1,Sb r2,Sb ⟨h0,h1⟩]
def LSm(m:Nat)(ev pq xs:AV)(j:Nat):List (Nat×AV):=[(4,.int .u16 (m:Int)),(11,.hptr 4 0 0 0),(12,ev),(13,pq),(73,xs),(74,.int .i64 (j:Int))]
set_option maxRecDepth 20000 in
theorem JT{n:Net}{e:List Int}{X:List Sp}{xv gb ev xs:AV}{m q j:Nat}{Q:QI}{R:PT}{Qf:QT}{t:T}{g:G}(hr:NR n)(hev:S.aJ n e=true)(hMg:∀h,Agg n NoP 0 h (.agg [.int .i64 n.grain,gb]))(hes:SlR NoP 0 .nil e ev)(hX:S.ck X n.nodes.length=true)(hXs:SlR NoP 0 .nil X xv)(hQ:Q=S.a_ (S.bF n e).toNat (S.bE n).toNat)
  (k4:g.h.get 4=VG 2 [[.int .i64 n.grain,gb]]) (kq:g.h.get q=VG 2 [[.int .i64 Q.1,.int .i64 Q.2]]) (hq:q<g.nx) (h4n:4<g.nx) (hm:m<65536)
  (hix:ixV false 2 1 xs (.int .i64 (j:Int))=.val xv)
  (ht:St t (LSm m ev (.hptr q 0 0 0) xs j)) (fin:∀t g',St t (LSm m ev (.hptr q 0 0 0) xs j)->Fr g g'->kR R 1 Qf .norm t [] g') :
  wp C0 1 none sV (kR R 1 Qf) t [] g:=by
 obtain⟨h4,h11,h12,h13,h73,h74,-⟩:=ht;have hrb:=cY.2 hr;have hL:=LZ hX;obtain⟨sz0,hsz⟩:∃z:Nat,z=m % 1001:=⟨_,rfl⟩;have r1:bU .rem (.int .u16 (m:Int)) (.int .u16 1001)=.val (.int .u16 (sz0:Int)):=by rw[eP .u16 (show (0:Int)<=(m:Int) by omega) (show (0:Int)<1001 by omega),hsz];congr 2
 have w1:IntKind.wrap .i64 (sz0:Int)=(sz0:Int):=ax (by omega) (by omega);have kp:=λ(g:G) (size:Int) (h3:0<=size) (h4:size<=1000)=>(KL (d:=1) (g:=g) (size:=size) (by decide) (hMg g.h) (hes.tree (h':=g.h) (R5 0)) hXs).trans (by rw[JH hrb hev hX h3 h4,<-hQ]);obtain⟨c0,hc0⟩:∃c,c=(S.bG n e X 0).2.2:=⟨_,rfl⟩;obtain⟨c1,hc1⟩:∃c,c=(S.bG n e X (sz0:Int)).2.2:=⟨_,rfl⟩;obtain⟨c2,hc2⟩:∃c,c=(S.bG n e X 1000).2.2:=⟨_,rfl⟩;obtain⟨b1,b2,-⟩:=Av (e:=e) hr hL (sz0:Int);obtain⟨d1,d2,-⟩:=Av (e:=e) hr hL 1000;rw[<-hc0,<-hc1]at b2;rw[<-hc1]at b1;rw[<-hc2]at d1;rw[<-hc0,<-hc2]at d2;have kp0:=λg=>kp g 0 (by decide) (by decide);have kp1:=λg=>kp g (sz0:Int) (by omega) (by omega);have kp2:=λg=>kp g 1000 (by decide) (by decide);rw[<-hc0]at kp0;rw[<-hc1]at kp1;rw[<-hc2]at kp2;have lX:∀g:G,dO .slice xv g=.val (.int .i64 (X.length:Int)):=λg=>hXs.len g;unfold sV;refine be (P:=λt' df g'=>df=[]/\g'=g/\St t' ((18,xv)::LSm m ev (.hptr q 0 0 0) xs j)) ?_ ?_
 ·simp only[sz,simprocAttr,h73,h74,hix];simp[St,LSm,sx,h4,h11,h12,h13,h73,h74]
 clear h4 h11 h12 h13 h73 h74;rintro t df g1 ⟨rfl,rfl,h18,h4,h11,h12,h13,h73,h74,-⟩;refine be (P:=λt' df g'=>df=[]/\St t' ((18,xv)::(19,.hptr g1.nx 0 0 0)::(20,.int .i64 c0)::(21,.int .i64 0)::LSm m ev (.hptr q 0 0 0) xs j)/\Fr g1 g'/\g'.nx=g1.nx+1/\g'.h.get g1.nx=VG 2 [[.int .i64 Q.1,.int .i64 Q.2]]) ?_ ?_
 ·simp only[sz,simprocAttr,h11,h12,h18,k4,kp0];exact⟨by simp[St,LSm,sx,h4,h11,h12,h13,h18,h73,h74],⟨by simp,λi hi=>by simp[RW,show ¬i=g1.nx by omega]⟩⟩
 clear h4 h11 h12 h13 h18 h73 h74;rintro t df g2 ⟨rfl,⟨h18,h19,h20,h21,h4,h11,h12,h13,h73,h74,-⟩,F2,n2,e19⟩;have k42:g2.h.get 4=VG 2 [[.int .i64 n.grain,gb]]:=by rw[F2.2 4 h4n,k4]
 refine be (P:=λt' df g'=>df=[]/\St t' ((18,xv)::(19,.hptr g1.nx 0 0 0)::(20,.int .i64 c0)::(21,.int .i64 0)::(22,.hptr g2.nx 0 0 0)::(23,.int .i64 c1)::(24,.int .i64 0)::LSm m ev (.hptr q 0 0 0) xs j)/\Fr g2 g'/\g'.nx=g2.nx+1/\g'.h.get g2.nx=VG 2 [[.int .i64 Q.1,.int .i64 Q.2]]) ?_ ?_
 ·simp only[sz,simprocAttr,h4,h11,h12,h18,k42,r1,w1,kp1];exact⟨by simp[St,LSm,sx,h4,h11,h12,h13,h18,h19,h20,h21,h73,h74],⟨by simp,λi hi=>by simp[RW,show ¬i=g2.nx by omega]⟩⟩
 clear h4 h11 h12 h13 h18 h19 h20 h21 h73 h74;rintro t df g3 ⟨rfl,⟨h18,h19,h20,h21,h22,h23,h24,h4,h11,h12,h13,h73,h74,-⟩,F3,n3,e22⟩;have k43:g3.h.get 4=VG 2 [[.int .i64 n.grain,gb]]:=by rw[F3.2 4 (by omega),k42]
 refine be (P:=λt' df g'=>df=[]/\St t' ((18,xv)::(19,.hptr g1.nx 0 0 0)::(20,.int .i64 c0)::(21,.int .i64 0)::(22,.hptr g2.nx 0 0 0)::(23,.int .i64 c1)::(24,.int .i64 0)::(25,.hptr g3.nx 0 0 0)::(26,.int .i64 c2)::(27,.int .i64 0)::LSm m ev (.hptr q 0 0 0) xs j)/\Fr g3 g'/\g'.nx=g3.nx+1/\g'.h.get g3.nx=VG 2 [[.int .i64 Q.1,.int .i64 Q.2]]) ?_ ?_
 ·simp only[sz,simprocAttr,h11,h12,h18,k43,kp2];exact⟨by simp[St,LSm,sx,h4,h11,h12,h13,h18,h19,h20,h21,h22,h23,h24,h73,h74],⟨by simp,λi hi=>by simp[RW,show ¬i=g3.nx by omega]⟩⟩
 clear h4 h11 h12 h13 h18 h19 h20 h21 h22 h23 h24 h73 h74;rintro t df g4 ⟨rfl,⟨h18,h19,h20,h21,h22,h23,h24,h25,h26,h27,h4,h11,h12,h13,h73,h74,-⟩,F4,n4,e25⟩;have x19:g4.h.get g1.nx=VG 2 [[.int .i64 Q.1,.int .i64 Q.2]]:=by rw[F4.2 _ (by omega),F3.2 _ (by omega),e19]
 have x22:g4.h.get g2.nx=VG 2 [[.int .i64 Q.1,.int .i64 Q.2]]:=by rw[F4.2 _ (by omega),e22]
 have xq:g4.h.get q=VG 2 [[.int .i64 Q.1,.int .i64 Q.2]]:=by rw[F4.2 _ (by omega),F3.2 _ (by omega),F2.2 _ hq,kq]
 have q1:¬c0<c1:=by omega
 have q2:¬c0<c2:=by omega
 have q3:¬c1<(X.length:Int):=by omega
 have q4:¬c2<(X.length:Int):=by omega
 simp only[sz,simprocAttr,h13,h18,h19,h20,h21,h22,h23,h24,h25,h26,h27,x19,x22,e25,xq,Qv,lX,q1,q2,q3,q4];refine fin _ g4 (by simp[St,LSm,sx,h4,h11,h12,h13,h73,h74]) ((F2.trans F3).trans F4)
set_option maxRecDepth 20000 in
theorem ut{x:wH}{xs:List AV}{ks ls os:List UInt8}{m:Nat}(hx:Rp.rp NoP 0 .nil x xs)(hk:ks.length=9)(hl:ls.length=8)(ho:os.length=8)(hm:m<65536) :
  ∃g',(I C0).call 1 N.bK [.agg xs,.agg (ks.map u8v),.agg (ls.map u8v),.agg (os.map u8v),.int .u16 (m:Int)] G.empty=.ok (.bool true) g':=by
 obtain⟨a1',a2',e1,-⟩:=BG.1 hx;have hxl:xs.length=3:=by rw[e1];rfl
 clear e1 a1' a2';have key:=qt (C:=C0) (d:=1) (f:=N.bK) («as»:=[.agg xs,.agg (ks.map u8v),.agg (ls.map u8v),.agg (os.map u8v),.int .u16 (m:Int)]) (g:=G.empty) (K:=λv g'=>v=.bool true) qA (by simp[fG]) ?_
 ·cases hc':(I C0).call 1 N.bK [.agg xs,.agg (ks.map u8v),.agg (ls.map u8v),.agg (os.map u8v),.int .u16 (m:Int)] G.empty with
  |fail=>rw[hc']at key;exact key.elim
  |ok v g'=>rw[hc']at key;exact⟨g',by rw[show v=.bool true from key]⟩
 have hkl:(ks.map u8v).length=9:=by rw[Ss,hk]
 have hll:(ls.map u8v).length=8:=by rw[Ss,hl]
 have hol:(os.map u8v).length=8:=by rw[Ss,ho]
 simp only[sz,simprocAttr,fG,Mp];obtain⟨g0,hg0⟩:∃g0,g0=(((G.empty.new (VG xs.length [xs])).new (.cells (ks.map u8v).length [ks.map u8v] 0 false false)).new (.cells (ls.map u8v).length [ls.map u8v] 0 false false)).new (.cells (os.map u8v).length [os.map u8v] 0 false false):=⟨_,rfl⟩;rw[<-hg0];have f0:g0.h.get 0=VG 3 [xs]:=by rw[hg0,hxl];simp[sx,RW]
 have f1:g0.h.get 1=VG 9 [ks.map u8v]:=by rw[hg0,hkl];simp[sx,RW]
 have f2:g0.h.get 2=VG 8 [ls.map u8v]:=by rw[hg0,hll];simp[sx,RW]
 have f3:g0.h.get 3=VG 8 [os.map u8v]:=by rw[hg0,hol];simp[sx,RW]
 have f4:g0.nx=4:=by rw[hg0];simp[sx]
 clear hg0;have ld0:bK (VG 3 [xs]) 0 0 true 3 0=.val (.agg xs):=by
  match xs,hxl with
  |[a,b,c],_=>rfl
 have ld1:=Qm hkl;have ld2:=L0 hll;have ld3:=L0 hol;simp only[je];refine bI (P:=λt' df g'=>df=[]/\g'=g0/\St t' [(4,.int .u16 (m:Int)),(5,.hptr 0 0 0 0),(6,.hptr 1 0 0 0),(7,.hptr 2 0 0 0),(8,.hptr 3 0 0 0)]) ?_ ?_
 ·simp only[sz,simprocAttr,C2];simp[St,sx]
 rintro t df g1 ⟨rfl,rfl,h4,h5,h6,h7,h8,-⟩;obtain⟨rn,en,n,hdr,cn,rfl,hcn⟩:=NT (g:=g1) (d:=1) (by decide) (G0 (P:=NoP) hx g1.h);obtain⟨gb,rfl,hNg⟩:=nJ.1 hcn;have hG:SlR NoP 0 .nil n.nodes gb:=hNg;have lb:=λg=>hG.len g;have hr:=hdr.nr;have n8:=hr.l2;have n1:=hr.l1;have hMg:∀h,Agg n NoP 0 h (.agg [.int .i64 n.grain,gb]):=λh=>G0 hcn h;have hnr:=cY.2 hr;have hnc:∀x∈n.nodes,0<x.card:=λx hx=>by have:=hr.card x hx;omega
 refine be (P:=λt' df g'=>df=[]/\St t' [(4,.int .u16 (m:Int)),(6,.hptr 1 0 0 0),(7,.hptr 2 0 0 0),(8,.hptr 3 0 0 0),(11,.hptr 4 0 0 0)]/\g'.nx=5/\g'.h.get 1=VG 9 [ks.map u8v]/\g'.h.get 2=VG 8 [ls.map u8v]/\g'.h.get 3=VG 8 [os.map u8v]/\g'.h.get 4=VG 2 [[.int .i64 n.grain,gb]]) ?_ ?_
 ·simp only[sz,simprocAttr,h5,f0,ld0,en];simp[St,sx,h4,h6,h7,h8,f0,f1,f2,f3,f4]
 clear f0 f1 f2 f3 f4 h4 h5 h6 h7 h8 en;rintro t df g2 ⟨rfl,⟨h4,h6,h7,h8,h11,-⟩,kn,k1,k2,k3,k4⟩;refine be (P:=λt' df g'=>df=[]/\g'=g2/\∃(e:List Int) (ev:AV),S.aJ n e=true/\SlR NoP 0 .nil e ev/\St t' [(4,.int .u16 (m:Int)),(7,.hptr 2 0 0 0),(8,.hptr 3 0 0 0),(11,.hptr 4 0 0 0),(12,ev)]) ?_ ?_
 ·simp only[sz,simprocAttr,h6,h11,k1,k4,ld1];refine kU (LY (by decide) hk (hMg _) n8 hnc) λr hr1=>?_;obtain⟨e,he,hr1⟩:=hr1;simp only[sz,simprocAttr];exact⟨e,r,he,yy hr1,by simp[St,sx,h4,h7,h8,h11]⟩
 clear h4 h6 h7 h8 h11;rintro t df g3 ⟨rfl,rfl,e,ev,hev,hes,h4,h7,h8,h11,h12,-⟩;obtain⟨Q,hQ⟩:∃Q,Q=S.a_ (S.bF n e).toNat (S.bE n).toNat:=⟨_,rfl⟩;have href:S.aN n e=0:=oG.2 ⟨hnr,hev⟩;have hjp:S.ch n e=Q:=by rw[S.ch,Sb href,hQ]
 have kj:∀g,am C0 1 N.ay [.agg [.int .i64 n.grain,gb],ev] g=.val (.tup [.agg [.int .i64 Q.1,.int .i64 Q.2],.int .i64 0]):=λg=>by rw[LJ (by decide) (hMg _) (hes.tree (h':=g.h) (R5 0)) (by omega),hjp,href]
 refine be (P:=λt' df g'=>df=[]/\St t' [(4,.int .u16 (m:Int)),(7,.hptr 2 0 0 0),(8,.hptr 3 0 0 0),(11,.hptr 4 0 0 0),(12,ev),(13,.hptr 5 0 0 0),(14,.int .i64 0)]/\g'.nx=6/\g'.h.get 2=VG 8 [ls.map u8v]/\g'.h.get 3=VG 8 [os.map u8v]/\g'.h.get 4=VG 2 [[.int .i64 n.grain,gb]]/\g'.h.get 5=VG 2 [[.int .i64 Q.1,.int .i64 Q.2]]) ?_ ?_
 ·simp only[sz,simprocAttr,h11,h12,k4,kj];simp[St,sx,h4,h7,h8,h11,h12,kn,k2,k3,k4,RW]
 clear h4 h7 h8 h11 h12 k1 k2 k3 k4 kn;rintro t df g4 ⟨rfl,⟨h4,h7,h8,h11,h12,h13,h14,-⟩,kn,k2,k3,k4,k5⟩;refine bI (P:=λt' df g'=>df=[]/\g'.h=g4.h/\g4.nx<=g'.nx/\∃(L:List Int) (mv:AV),S.bm L n.nodes.length=true/\SlR NoP 0 .nil (S.bY n L) mv/\St t' [(4,.int .u16 (m:Int)),(7,.hptr 2 0 0 0),(11,.hptr 4 0 0 0),(12,ev),(13,.hptr 5 0 0 0),(14,.int .i64 0),(15,mv),(16,.int .i64 0)]) ?_ ?_
 ·simp only[sz,simprocAttr,h8,h11,k3,k4,ld3,lb];refine kU (J4 (by decide) ho (by omega)) λr hr1=>?_;obtain⟨L,hL,hr1⟩:=hr1;simp only[sz,simprocAttr];refine kU (Or (by decide) (hMg _) (yy hr1 |>.tree (R5 0))) λr2 hr2=>?_;obtain⟨mv,ev2,rfl,hmv,hev2⟩:=hr2;have hev2:=aI.1 hev2;injection hev2 with hev2;subst hev2;have he0:S.co n L=0:=by simp[S.co,hnr,hL]
  rw[he0];simp only[sz,simprocAttr];exact⟨R5 _,L,mv,hL,yy hmv,by simp[St,sx,h4,h7,h11,h12,h13,h14]⟩
 clear h4 h7 h8 h11 h12 h13 h14;rintro t df g5 ⟨rfl,hh5,hn5,L,mv,hL,hmv,h4,h7,h11,h12,h13,h14,h15,h16,-⟩;have hml:S.bY n L=(S.mk (S.aA n) L).1:=by simp[S.bY,hnr,hL]
 have hfl:(S.aA n).length=n.nodes.length:=by simp[S.aA]
 obtain⟨m1,m2,-⟩:=PA (fam:=S.aA n) (order:=L) (by rw[hfl];exact n1);rw[hml]at hmv;rw[hfl]at m1 m2;obtain⟨M,hMM⟩:∃M,M=(S.mk (S.aA n) L).1:=⟨_,rfl⟩;rw[<-hMM]at hmv m1 m2;have lm:=λg=>hmv.len g;rw[<-hh5]at k2 k4 k5;refine bI (P:=λt' df g'=>df=[]/\g'=g5/\St t' [(4,.int .u16 (m:Int)),(7,.hptr 2 0 0 0),(11,.hptr 4 0 0 0),(12,ev),(13,.hptr 5 0 0 0),(15,mv)]) ?_ ?_
 ·have w2:IntKind.wrap .i64 (2*(n.nodes.length:Int))=2*(n.nodes.length:Int):=ax (by omega) (by omega);have w3:IntKind.wrap .i64 (2*(n.nodes.length:Int) - 1)=(M.length:Int):=by rw[ax (by omega) (by omega)];omega
  simp only[sz,simprocAttr,h11,h14,h15,h16,k4,lb,lm,w2,w3];simp[St,sx,h4,h7,h11,h12,h13,h15]
 clear h4 h7 h11 h12 h13 h14 h15 h16;rintro t df g6 ⟨rfl,rfl,h4,h7,h11,h12,h13,h15,-⟩;simp only[sz,simprocAttr,h7,h11,h15,k2,k4,ld2,lb];refine kU (FY (by decide) hl n1 n8) λr hr1=>?_;obtain⟨J,⟨hJ,-⟩,hr1⟩:=hr1;have hJs:=yy hr1;obtain⟨mc,mt⟩:=hmv.cell;obtain⟨rc,rt⟩:=hJs.cell;have hbd:eH [.nils,.nils] [((0,1),mv),((1,1),r)]=some [mv,r]:=by
  simp only[eH,mc,rc,mt,rt]
  rfl
 simp only[sz,simprocAttr,iE,iF,hbd];refine xU (m:=2) rfl (by decide) (λj t df g=>df=[]/\St t [(4,.int .u16 (m:Int)),(11,.hptr 4 0 0 0),(12,ev),(13,.hptr 5 0 0 0),(73,.agg [mv,r])]/\6<=g.nx/\g.h.get 4=VG 2 [[.int .i64 n.grain,gb]]/\g.h.get 5=VG 2 [[.int .i64 Q.1,.int .i64 Q.2]])
  ⟨rfl,by simp[St,sx,h4,h11,h12,h13],by omega,k4,k5⟩ (by simp[sx]) (by decide) (by rintro j t df g v s (rfl|rfl|rfl)<;>simp[sx,St]) ?_ ?_
 ·clear h4 h7 h11 h12 h13 h15 k2 k4 k5 kn hn5 hh5;rintro j t df g hj ⟨rfl,⟨h4,h11,h12,h13,h73,-⟩,hnx,k4,k5⟩ h74;have step:∀(Qf:QT) (X:List Sp) (xv:AV),S.ck X n.nodes.length=true->SlR NoP 0 .nil X xv->ixV false 2 1 (.agg [mv,r]) (.int .i64 (j:Int))=.val xv->wp C0 1 none sV (kR (λt df g=>(df=[]/\St t [(4,.int .u16 (m:Int)),(11,.hptr 4 0 0 0),(12,ev),(13,.hptr 5 0 0 0),(73,.agg [mv,r])]/\6<=g.nx/\g.h.get 4=VG 2 [[.int .i64 n.grain,gb]]/\g.h.get 5=VG 2 [[.int .i64 Q.1,.int .i64 Q.2]])/\tat t 74=.int .i64 (j:Int)) 1 Qf) t [] g:=λQf X xv h1 h2 h3 =>
   JT (n:=n) (e:=e) (X:=X) (q:=5) (Q:=Q) hr hev hMg hes h1 h2 hQ k4 k5 (by omega) (by omega) hm h3 (by simp[St,LSm,h4,h11,h12,h13,h73,h74]) λt g' ht hF=>by obtain⟨h4,h11,h12,h13,h73,h74,-⟩:=ht;exact⟨⟨rfl,by simp[St,h4,h11,h12,h13,h73],by have:=hF.1;omega,by rw[hF.2 4 (by omega),k4],by rw[hF.2 5 (by omega),k5]⟩,h74⟩
  have hj2:j=0\/j=1:=by omega
  rcases hj2 with rfl|rfl
  ·exact step _ M mv m1 hmv rfl
  ·exact step _ J r hJ hJs rfl
 ·rintro t df g ⟨rfl,-⟩;simp only[sz,simprocAttr]
end
end Hx
end
