/- A part of the proof: what the functions of the chapter compute. -/
import Derived.OpenShut
import Derived.DataReads
import Derived.Test.YteaikmdilmfbeaaGreatHx17
set_option linter.all false
set_option maxRecDepth 20000
set_option maxHeartbeats 8000000
namespace Hx
open Go
noncomputable section
variable {g:G}{l e R:List Int}{d kk j:Nat}{n:Net}{i:Int}{v:AV}{t:T}{Q:QT}
theorem Jy{a b:Nat}(hd:0<d)(ha:a<18446744073709551616)(hb:b<18446744073709551616) :
  ah C0 d 120 [XN (a:Int),XN (b:Int)] g=.val (XN (Nat.gcd a b:Int)):=by
 rw[xB];refine ff As (xs:=[XN (a:Int),XN (b:Int)]) (by simp only[aF,bD 0]) (by simp[oy]) hd ?_;simp only[sz,simprocAttr,oy];refine eW (λk t df g=>df=[]/\∃x y:Nat,x<18446744073709551616/\y<18446744073709551616/\k=y/\Nat.gcd x y=Nat.gcd a b/\St t [(0,XN (x:Int)),(1,XN (y:Int))]) b
  ⟨rfl,a,b,ha,hb,rfl,rfl,by simp[sx,St]⟩ ?_
 rintro y t df g ⟨rfl,x,y',hx,c,rfl,hg,h0,h1,-⟩;simp only[sz,simprocAttr,pE,h1];refine dz (λhq=>?_) (λhq=>?_)
 ·have h:0<y:=by simp at hq;omega
  have hm:=US x h;simp only[sz,simprocAttr,h0,h1,lZ .u64 (show (0:Int)<=(x:Int) by omega) (show (0:Int)<(y:Int) by omega)];exact⟨x % y,hm,y,x % y,c,by omega,rfl,by rw[<-hg,W6 y,<-Nat.gcd_rec,W6],by simp[St,sx]⟩
 ·have h:y=0:=by simp at hq;omega
  subst h;rw[Nat.gcd_zero_right]at hg;simp only[sz,simprocAttr,pF,h0,hg]
theorem Fg{a:Int}(hd:0<d)(ha:0<=a/\a<9223372036854775808):ah C0 d 121 [XL a] g=.val (XN a):=by
 rw[zW];refine ff Dy (xs:=[XL a]) (by simp only[aF,bD 0]) (by simp[sP]) hd ?_;simp only[sz,simprocAttr,sP];refine dz (λhq=>?_) (λhq=>?_)
 ·simp at hq;omega
 ·simp only[sz,simprocAttr,ut ha.1 (show a<18446744073709551616 by omega)]
theorem Qu{x y:Nat}(hd:0<d)(hx:x<=4611686018427387903)(hy:y<=4611686018427387903) :
  ah C0 d 122 [.bool false,.agg [XN 0,XN (x:Int)],.agg [XN 0,XN (y:Int)]] g=.val (.agg [XL (x:Int),XL (y:Int)]):=by
 have key:∃r,ah C0 d 122 [.bool false,.agg [XN 0,XN (x:Int)],.agg [XN 0,XN (y:Int)]] g=.val r/\Agg (((x:Int),(y:Int)):QI) NoP 0 .nil r:=by
  rw[BJ];refine aL E6 (xs:=[.bool false,.agg [XN 0,XN (x:Int)],.agg [XN 0,XN (y:Int)]]) rfl (by simp[vq]) (cq _) (by decide) hd ?_;have b:∀id,Me 2 1 (XM id) (XL 0)=.val (XM id):=λid=>Mf 2 1 id 0 0 0 .i64 (j:=0) (by decide);have a:∀id,Me 2 1 (XM id) (XL 1)=.val (.hptr id 0 0 1):=λid=>Mf 2 1 id 0 0 0 .i64 (j:=1) (by decide);have h:decide ((4611686018427387903:Int)<(x:Int))=false:=by simp;omega
  have k:decide ((4611686018427387903:Int)<(y:Int))=false:=by simp;omega
  simp only[sz,simprocAttr,vq,wF,b,a,h,k];simp only[sz,simprocAttr,uG,a,ap (show -9223372036854775808<=(x:Int) by omega) (show (x:Int)<9223372036854775808 by omega),ap (show -9223372036854775808<=(y:Int) by omega) (show (y:Int)<9223372036854775808 by omega)];exact⟨NoP,gC.2 rfl⟩
 obtain⟨r,h1,h2⟩:=key;rw[h1,gC.1 h2]
theorem JT(d:Nat)(a b:AV)(g:G):∃v,(I C0).call d 149 [a,b] g=.ok v g:=by
 have key:=qj (C:=C0) (d:=d) (f:=149) («as»:=[a,b]) (g:=g) (K:=λv g'=>g'=g) sH (by simp[gt]) ?_
 ·cases hc:(I C0).call d 149 [a,b] g with
  |fail=>rw[hc]at key;exact key.elim
  |ok v g'=>rw[hc]at key;exact⟨v,by rw[show g'=g from key]⟩
 have e:wD true (.iface true) .nili .nili=.val (.bool false):=rfl;simp only[gt,sx,F_];simp only[sz,simprocAttr,e]
theorem L3{fn:Nat}{a a':List AV}{x:QI}(hd:0<d)(hs:Hx.snap g.h d aC (.clo fn [] a)=some (.clo fn [] a'))(hc:∀(g:G) (K:AV->G->Prop) (D:ADf->Prop),(∀g',Fr g g'->K (.agg [XL x.1,XL x.2]) g')->(jG C0 (I C0) (d+1) (.clo fn [] a') [] g).sat K g D) :
  ah C0 d 118 [.clo fn [] a] g=.val (.tup [.agg [XL x.1,XL x.2],XL 0]):=by
 have key:∃r,ah C0 d 118 [.clo fn [] a] g=.val r/\pj (Agg x) (One (0:Int)) NoP 0 .nil r:=by
  rw[sA];refine aL vg (xs:=[.clo fn [] a']) (by simp only[aF,hs]) (by simp[jf]) (bO (m:=2) (cq _) (aJ _) (by decide) (by decide)) (by decide) hd ?_;simp only[sz,simprocAttr,jf,lT];rw[Ht (f:=149) (first:=[]) (cap:=[XM 0,XM 1]) (by simp[sx])];simp only[sz,simprocAttr,O5,OB];refine hc _ _ _ λg2 fr2=>?_;have k0:g2.h.get 0=W8 2 [[XL 0,XL 0]]:=by rw[fr2.2 0 (by simp[sx])];simp[sx,RQ]
  have c:g2.h.get 1=W8 1 [[XL 0]]:=by rw[fr2.2 1 (by simp[sx])];simp[sx]
  simp only[sz,simprocAttr,k0,c];obtain⟨v,k⟩:=JT (d+1) (XM 0) (XM 1) ((g2.put 0 (W8 2 [[XL x.1,XL x.2]])).put 1 (W8 1 [[XL 0]]));refine JE k ?_;simp only[sx,sy,↓reduceIte,Nat.reduceEqDiff,Nat.reduceAdd,Nat.reduceLeDiff];exact⟨NoP,_,_,rfl,gC.2 rfl,ax.2 rfl⟩
 obtain⟨r,h1,a,b,rfl,h2,h3⟩:=key;have h3:=ax.1 h3;injection h3 with h3;rw[h1,gC.1 h2,h3]
theorem Mt{n m z:Nat}{K:AV->G->Prop}{D:ADf->Prop}(hd:0<d)(hn:n<=4611686018427387903)(hm0:0<m)(hm:m<=4611686018427387903)
  (kk:∀g',Fr g g'->K (.agg [XL (S.RY n m).1,XL (S.RY n m).2]) g') :
  (jG C0 (I C0) d (.clo 119 [] [.tptr z 1 [[XL (n:Int)]] 0 0,.tptr z 1 [[XL (m:Int)]] 0 0]) [] g).sat K g D:=by
 have hg0:0<Nat.gcd n m:=Nat.gcd_pos_of_pos_right n hm0;have a:n / Nat.gcd n m<=n:=Va _ _;have q2:m / Nat.gcd n m<=m:=Va _ _;have e1:∀g,ah C0 d 121 [XL (n:Int)] g=.val (XN (n:Int)):=λg=>Fg hd ⟨by omega,by omega⟩;have e2:∀g,ah C0 d 121 [XL (m:Int)] g=.val (XN (m:Int)):=λg=>Fg hd ⟨by omega,by omega⟩;have e3:∀g,ah C0 d 120 [XN (n:Int),XN (m:Int)] g=.val (XN (Nat.gcd n m:Int)):=λg=>Jy hd (by omega) (by omega);have l1:decide ((n:Int)<0)=false:=by simp
 have l2:decide ((m:Int)<0)=false:=by simp
 have wq:∀x:Nat,x<=4611686018427387903->∀y:Nat,0<y->ct .quo (XN (x:Int)) (XN (y:Int))=.val (XN ((x / y:Nat):Int)):=λx hx y hy=>by have h:x / y<=x:=Va _ _;rw[H5 .u64 (V6 x) (by omega),<-Int.natCast_ediv];generalize x / y=z at h;rw[ut (by omega) (by omega)]
 have k:∀g,ah C0 d 122 [.bool false,.agg [XN 0,XN ((n / Nat.gcd n m:Nat):Int)],.agg [XN 0,XN ((m / Nat.gcd n m:Nat):Int)]] g=.val (.agg [XL ((n / Nat.gcd n m:Nat):Int),XL ((m / Nat.gcd n m:Nat):Int)]):=λg=>Qu hd (by omega) (by omega);rw[GK];refine wz Ar (by simp[ox]) ?_;simp only[sz,simprocAttr,ox,rk,sf,aT,e1,e2,e3,l1,l2,Rf,wq n hn _ hg0,wq m hm _ hg0,k];refine⟨?_,kk _ ⟨by simp;omega,λi hi=>?_⟩⟩
 ·simp only[Uf,Ug,Ud,T4];exact aN (Xn (Xn (true::[]))) [] (by simp[All2,am,aE,AF,B9]) (by decide) (by simp)
 ·simp[RQ,show ¬i=g.nx by omega]
theorem LE{n m:Nat}(hd:0<d)(hn:n<=4611686018427387903)(hm0:0<m)(hm:m<=4611686018427387903) :
  ah C0 d 86 [XL (n:Int),XL (m:Int)] g=.val (.tup [.agg [XL (S.RY n m).1,XL (S.RY n m).2],XL 0]):=by
 have key:∃r,ah C0 d 86 [XL (n:Int),XL (m:Int)] g=.val r/\pj (Agg (S.RY n m)) (One (0:Int)) NoP 0 .nil r:=by
  rw[zV];refine aL Dx (xs:=[XL (n:Int),XL (m:Int)]) rfl (by simp[sO]) (bO (m:=2) (cq _) (aJ _) (by decide) (by decide)) (by decide) hd ?_;have l1:decide ((m:Int)=0)=false:=by simp;omega
  simp only[sz,simprocAttr,sO,uF,l1];rw[L3 (x:=S.RY n m) (a':=[.tptr (Nat.max (d+1) 0) 1 [[XL (n:Int)]] 0 0,.tptr (Nat.max (d+1) 0) 1 [[XL (m:Int)]] 0 0]) (TW d) ?_ (λg K D kk=>Mt (TW _) hn hm0 hm kk)]
  ·simp only[sz,simprocAttr];exact⟨NoP,_,_,rfl,gC.2 rfl,ax.2 rfl⟩
  ·rw[Ks (a':=.tptr (Nat.max (d+1) 0) 1 [[XL (n:Int)]] 0 0) (b':=.tptr (Nat.max (d+1) 0) 1 [[XL (m:Int)]] 0 0) (Gd (n:=(n:Int)) (d+1) 20 (by simp[sx,RQ])) (Gd (n:=(m:Int)) (d+1) 20 (by simp[sx,RQ]))]
 obtain⟨r,h1,a,b,rfl,h2,h3⟩:=key;have h3:=ax.1 h3;injection h3 with h3;rw[h1,gC.1 h2,h3]
theorem Mh{ka:Nat}{Pa:Nat->Prop}{w0:AV}(hd:0<d)(hm:Agg n NoP 0 g.h v)(he:SlR Pa ka g.h e w0)(hka:ka<=d:=by omega) :
  ah C0 d 41 [v,w0] g=.val (.tup [XL (S.SS n e),.agg [XL (S.SK n e).1,XL (S.SK n e).2],XL (S.Sv n e)]):=by
 have key:∃r,ah C0 d 41 [v,w0] g=.val r/\NU (One (S.SS n e)) (Agg (S.SK n e)) (One (S.Sv n e)) NoP 0 .nil r:=by
  obtain⟨b,rows,rfl,e1,M,hN,r1,r2,r3,r4⟩:=fP d hm;obtain⟨w,ew,hw⟩:=bm he d;rw[Nat.max_eq_right hka]at hw;have hw:=hw .nil;have Y:zQ [XL 0,XL 0] [] []=.val (.agg [XL 0,XL 0]):=rfl;rw[yO];refine aL BV (xs:=[.agg [XL n.grain,b],w]) (by simp only[aF,e1,ew]) (by simp[qw]) (Bt (m:=2) (aJ _) (cq _) (aJ _) (by decide) (by decide) (by decide)) (by decide) hd ?_;simp only[sz,simprocAttr,qw];obtain⟨g0,hg0⟩:∃g0,g0=((G.empty.new (W8 2 [[XL n.grain,b]])).new (W8 1 [[XL 0]])).new (W8 2 [[XL 0,XL 0]]):=⟨_,rfl⟩;rw[<-hg0];have f0:g0.h.get 0=W8 2 [[XL n.grain,b]]:=by rw[hg0];simp[sx,RQ]
  have f1:g0.h.get 1=W8 1 [[XL 0]]:=by rw[hg0];simp[sx,RQ]
  have f2:g0.h.get 2=W8 2 [[XL 0,XL 0]]:=by rw[hg0];simp[sx]
  have o:g0.nx=3:=by rw[hg0];simp[sx]
  clear hg0;unfold sR;simp only[sz,simprocAttr,f0,hw.cell.1,hw.cell.2];refine bi (KV (n:=n) (ls:=[e]) (TW d) (M _) (Rk hw (by simp[RQ]))) λv hv=>?_;obtain⟨y,cs,rfl,l,hc,a1,a2,X,a4,rfl⟩:=zI hv;rw[yB]at l ⊢
  by_cases h0:S.RZ n e=0
  ·have O:=l h0;obtain⟨h1,h2⟩:=iO.1 h0;have hr:=cA.1 h1;obtain⟨el,ege⟩:=AC h2;obtain⟨W1,W2,W3⟩:=hr.wl;simp only[sz,simprocAttr,o,h0];refine bi (Q:=λr=>∃cs z t1 t2,r=.clo 113 [] [.tptr t1 4 [cs] 0 0,.tptr t2 1 [[z]] 0 0]/\Rp.rp NoP d .nil y cs/\SlR NoP d .nil e z) ?_ ?_
   ·obtain⟨cs',z',t1,t2,ez,h1,h2⟩:=yz (d:=d+1) (y:=y) (e:=e) (v:=.agg [a1,a2,X,a4]) (w:=w) (TW d) ⟨_,rfl,Rp.tree hc (TG _)⟩ (hw.tree (TG _));exact⟨_,ez,cs',z',t1,t2,rfl,h1,h2⟩
   rintro _ ⟨cs',z',t1,t2,rfl,H,P⟩;simp only[sx];refine Qw (λt g=>g.nx=7/\g.h.get 1=W8 1 [[XL 0]]/\g.h.get 2=W8 2 [[XL 0,XL 0]]/\g.h.get 5=W8 1 [[XL 0]]/\g.h.get 6=W8 1 [[XL 0]]/\St t [(4,XM 1),(5,XM 2),(9,XM 5),(10,XM 6),(25,.clo 113 [] [.tptr t1 4 [cs'] 0 0,.tptr t2 1 [[z']] 0 0])]) ?_ ?_
   ·refine⟨by simp[o],by simp[RQ,o,f1],by simp[RQ,o,f2],by simp[RQ,o],by simp[RQ,o],by simp[St,sx]⟩
   rintro t g1 ⟨n1,k1,k2,k5,k6,h4,h5,h9,h10,K,-⟩;refine C5 (t1:=t1) (t2:=t2) (n:=n) (y:=y) (e:=e) (cs:=cs') (w:=z') (TW d) hr O H P (by omega) K (by decide)
    (λj h=>BeJ g1 (S.R1 n e 0 j).1 (S.RW n (S.pe n e) j) (S.R1 n e 0 j).2 h) (λ_=>False) (λj h h' hh hg=>⟨λi h1 h2 h3 h4=>by rw[hh i h1,hg.fr i h1 h2 h3 h4],by rw[hh 1 (by omega),hg.h1],by rw[hh 5 (by omega),hg.h5],by rw[hh 6 (by omega),hg.h6]⟩) (λ_ _ _ h=>h) ⟨λ_ _ _ _ _=>rfl,k1,k5,k6⟩ ?_ ?_ ?_ (λ_ h=>h.elim)
   ·intro j h Z A hg;have hp:S.pe n e j=false:=by rw[S.pe,<-Iv ege,A]
    have hs:S.RW n (S.pe n e) (j+1)=S.RW n (S.pe n e) j:=by rw[S.RW,hp];simp
    have hb:S.R1 n e 0 (j+1)=S.R1 n e 0 j:=by rw[S.R1,TN (by rw[hp];simp)]
    rw[hs,hb];exact hg
   ·intro j u g2 Z A hg U hu;have hp:S.pe n e j=true:=by rw[S.pe,<-Iv ege,A]
    have hb:=qV hr (p:=S.pe n e) (j:=j+1) (by omega);have hs:S.RW n (S.pe n e) (j+1)=S.RW n (S.pe n e) j+S.wt n j:=by rw[S.RW,hp];simp[S.wt]
    have w1:IntKind.wrap .i64 (S.RW n (S.pe n e) j+S.wt n j)=S.RW n (S.pe n e) (j+1):=by rw[<-hs,ap (by omega) (by omega)]
    simp only[sz,simprocAttr,rm];refine⟨LF _ _ _,?_⟩;intro g3 n3 B;have V:g1.nx+2<=g2.nx:=U;have J:g3.h.get g2.nx=W8 3 [[XL (j:Int),XL (S.wt n j),u]]:=by rw[B _ (by omega),TO rfl];rfl
    have jo:∀i,i<7->g3.h.get i=g2.h.get i:=λi hi=>by rw[B i (by omega),TN (by omega),TN (by omega)]
    have W:g3.h.get 1=W8 1 [[XL (S.R1 n e 0 j).1]]:=by rw[jo 1 (by omega),hg.h1]
    have j5:g3.h.get 5=W8 1 [[XL (S.RW n (S.pe n e) j)]]:=by rw[jo 5 (by omega),hg.h5]
    have R:g3.h.get 6=W8 1 [[XL (S.R1 n e 0 j).2]]:=by rw[jo 6 (by omega),hg.h6]
    simp only[sz,simprocAttr,rn,h9,h10,J,j5,R,w1,show ¬g2.nx=5 by omega,show ¬6=5 by omega];refine dz (λhb=>?_) (λhb=>?_)
    ·have hb:(S.R1 n e 0 j).2<S.wt n j:=by have:=of_decide_eq_true hb;omega
     have q:S.R1 n e 0 (j+1)=((j:Int),S.wt n j):=by rw[S.R1,TO ⟨hp,hb⟩]
     simp only[sz,simprocAttr,sf,h4,h10,J,W,R,show ¬g2.nx=5 by omega,show ¬g2.nx=1 by omega,show ¬6=5 by omega,show ¬1=5 by omega,show ¬6=1 by omega];rw[q];refine⟨?_,by simp<;>omega,λi h1 h2=>?_,.inl ⟨rfl,λi h1 h2 h3 h4=>?_,?_,?_,?_⟩⟩
     ·simp only[Uf,Ug,Ud,T4];refine aN (Xo (true::(true::[]))) [(2,4),(3,4)] (by simp[All2,am,aE]) (by decide) ?_;rintro p f x y hx l;simp only[Us,TY,Wt]at f;rcases f with rfl|rfl<;>(simp at hx l;subst hx;subst l;refine dh rfl rfl rfl rfl ?_ ?_ ?_<;>simp[am,aE,an]<;>omega)
     ·simp[RQ,show ¬i=5 by omega,show ¬i=6 by omega,show ¬i=1 by omega]
     ·simp[RQ,h2,h3,h4];rw[jo i (by omega),hg.fr i h1 h2 h3 h4]
     ·simp[RQ]
     ·simp[RQ]
     ·simp[RQ]
    ·have hb:¬(S.R1 n e 0 j).2<S.wt n j:=by have:=of_decide_eq_false hb;omega
     have q:S.R1 n e 0 (j+1)=S.R1 n e 0 j:=by rw[S.R1,TN λh=>hb h.2]
     simp only[sx,sy];rw[q];refine⟨by simp,λi h1 h2=>by simp[RQ,show ¬i=5 by omega],.inl ⟨rfl,λi h1 h2 h3 h4=>?_,?_,?_,?_⟩⟩
     ·simp[RQ,h3];rw[jo i (by omega),hg.fr i h1 h2 h3 h4]
     ·simp[RQ,W]
     ·simp[RQ]
     ·simp[RQ,R]
   ·intro g' hg U I;have s:S.RW n (S.pe n e) (S.RR n)=S.R6 n e:=(FD n e).symm;have D:=hg.h5;have T:=hg.h6;have C:=hg.h1;rw[s]at D;have q2:g'.h.get 2=W8 2 [[XL 0,XL 0]]:=by rw[hg.fr 2 (by omega) (by omega) (by omega) (by omega),k2]
    by_cases hm0:S.R6 n e=0
    ·have k:S.Sv n e=7:=by rw[S.Sv,TO h0,TO hm0]
     have hW:S.SS n e=0:=by rw[S.SS,k];rfl
     have E:S.SK n e=(0,0):=by rw[S.SK,k];rfl
     rw[hm0]at D;simp only[sz,simprocAttr,lC,h4,h5,h9,D,C,q2,show ¬2=1 by omega];refine eM (by simp[RQ,show ¬g1.nx=2 by omega,show ¬g1.nx=1 by omega,I]) ?_;simp only[sx,sy,↓reduceIte,Nat.reduceEqDiff,h4,h5,show ¬1=g1.nx by omega,show ¬2=g1.nx by omega,show ¬1=2 by omega,Nat.reduceAdd,Nat.reduceLeDiff];rw[hW,E,k];exact⟨λ_=>True,_,_,_,rfl,ax.2 rfl,gC.2 rfl,ax.2 rfl⟩
    ·have k:S.Sv n e=0:=by rw[S.Sv,TO h0,TN hm0]
     have hW:S.SS n e=(S.R1 n e 0 (S.RR n)).1:=by rw[S.SS,k];rfl
     have E:S.SK n e=S.RY (S.R1 n e 0 (S.RR n)).2.toNat (S.R6 n e).toNat:=by rw[S.SK,k];rfl
     have hb:=Cp hr e 0 (S.RR n);have L:=nU hr e;obtain⟨a,ha⟩:=TP hb.1;obtain⟨c,F⟩:=TP L.1;rw[ha]at T;rw[F]at D hm0;have N:=LE (d:=d+1) (g:=g') (n:=a) (m:=c) (TW d) (by omega) (by omega) (by omega);simp only[sz,simprocAttr,lC,sf,h4,h5,h9,h10,D,T,C,hm0,N,q2,show ¬2=1 by omega,show ¬1=2 by omega];refine⟨?_,?_⟩
     ·simp only[Uf,Ug,Ud,T4];refine aN [false,false,false,true,true,false] [(1,3),(2,3),(2,4)] (by simp[All2,am,aE]) (by decide) ?_;rintro p f x y hx l;simp only[Us,TY,Wt]at f;rcases f with rfl|rfl|rfl<;>(simp at hx l;subst hx;subst l;refine dh rfl rfl rfl rfl ?_ ?_ ?_<;>simp[am,aE,an])
     refine eM (by simp[RQ,show ¬g1.nx=2 by omega,show ¬g1.nx=1 by omega,I]) ?_;simp only[sx,sy,↓reduceIte,Nat.reduceEqDiff,h4,h5,show ¬1=g1.nx by omega,show ¬2=g1.nx by omega,show ¬1=2 by omega,Nat.reduceAdd,Nat.reduceLeDiff];rw[hW,E,k,ha,F];exact⟨λ_=>True,_,_,_,rfl,ax.2 rfl,gC.2 rfl,ax.2 rfl⟩
  ·have k:S.Sv n e=S.RZ n e:=by rw[S.Sv,TN h0]
   have hW:S.SS n e=0:=by rw[S.SS,k,TN h0]
   have E:S.SK n e=(0,0):=by rw[S.SK,k,TN h0]
   simp only[sz,simprocAttr,o,h0,f1,f2];rw[hW,E,k];exact⟨λ_=>True,_,_,_,rfl,ax.2 rfl,gC.2 rfl,ax.2 rfl⟩
 obtain⟨r,hr,a,b,c,rfl,ha,hb,hc⟩:=key;have ha:=ax.1 ha;injection ha with ha;have hc:=ax.1 hc;injection hc with hc;rw[hr,gC.1 hb,ha,hc]
theorem Qx(a b:AV):kU (W8 2 [[a,b]]) 0 0 true 2 0=.val (.agg [a,b]):=rfl
theorem HI(g:G):ah C0 1 12 [] g=.val (.bool true):=by kernel_rfl
theorem Dp(W:List Int):∀j i,i<=j->W[i]?.getD 0<=W[S.R9 W j]?.getD 0/\(i<S.R9 W j->W[i]?.getD 0<W[S.R9 W j]?.getD 0)
 | 0,i,hi=>by
  have:i=0:=by omega
  subst this;exact⟨WJ _,λh=>by rw[S.R9]at h;omega⟩
 | j+1,i,hi=>by
  have k:=Gs W j;rw[S.R9]
  by_cases c:W[S.R9 W j]?.getD 0<W[j+1]?.getD 0
  ·rw[TO c]
   by_cases e:i=j+1
   ·subst e;exact⟨WJ _,λh=>by omega⟩
   ·have:=(Dp W j i (by omega)).1;exact⟨by omega,λ_=>by omega⟩
  ·rw[TN c]
   by_cases e:i=j+1
   ·subst e;exact⟨by omega,λh=>by omega⟩
   ·exact Dp W j i (by omega)
theorem RK(a b c:AV):kU (W8 3 [[a,b,c]]) 0 0 false 1 1=.val b:=rfl
theorem G7{w:Nat}(h:w<S.RR n):S.wW (S.RS n e) (w:Int)=if S.pe n e w then S.wt n w else 0:=by rw[S.wW,Ux,zm h];rfl
theorem qN(n:Net)(e:List Int):(S.RS n e).length=S.RR n:=kw n e _
theorem K2{n:Net}{e:List Int}{w0:Int}:∀j,j<=S.RR n->(S.R1 n e w0 j).2=(S.Sq (S.RS n e) (λ_=>false) j).1/\((S.Sq (S.RS n e) (λ_=>false) j).1≠0->(S.R1 n e w0 j).1=(S.Sq (S.RS n e) (λ_=>false) j).2)
 |0,_=>⟨rfl,λh=>absurd rfl h⟩
 | j+1,hj=>by
  obtain⟨a1,a2⟩:=K2 (n:=n) (e:=e) (w0:=w0) j (by omega);have hw:=G7 (n:=n) (e:=e) (show j<S.RR n by omega);have k:=MW (S.RS n e) (λ_=>false) j;rw[S.R1,S.Sq,hw,a1];cases c:S.pe n e j with
  | false =>
   rw[TN (by simp),TN (by rintro⟨-,h⟩;simp at h;omega)];exact⟨a1,a2⟩
  | true =>
   rw[TO rfl]
   by_cases c2:(S.Sq (S.RS n e) (λ_=>false) j).1<S.wt n j
   ·rw[TO ⟨rfl,c2⟩,TO ⟨rfl,c2⟩];exact⟨rfl,λ_=>rfl⟩
   ·rw[TN (λh=>c2 h.2),TN (λh=>c2 h.2)];exact⟨a1,a2⟩
theorem Jq(h:IsSrt (S.RS n e) R){r:Int}(hr:R[0]?=some r):S.R1 n e 0 (S.RR n)=(r,S.wW (S.RS n e) r):=by have hp:=OU h hr (us:=λ_=>false) (λw _=>by simp);rw[qN]at hp;obtain⟨a1,a2⟩:=K2 (n:=n) (e:=e) (w0:=0) (S.RR n) (TG _);obtain⟨i,rfl,hi,k⟩:=kA.1 ((h.mem r).1 (TL hr));rw[hp]at a1 a2;exact Prod.ext (a2 (by dsimp only;omega)) a1
def S.R7(n:Net):List Int:=(List.range n.nodes.length).map λi:Nat=>(i:Int)
theorem uc(n:Net):(S.R7 n).length=n.nodes.length:=by simp[S.R7]
theorem vI(h:l.length=n.nodes.length):S.RO l (S.R7 n)=l:=by refine WM (by simp[S.RO,uc,h]) λi h1 h2=>?_;simp[S.RO,S.R7];rw[TH h2];rfl
theorem Hh:S.Sa (S.R7 n) (n.nodes.length:Int)=true:=by
 unfold S.Sa;rw[Ue];intro i hi;have hi:=T8.1 hi;rw[uc]at hi;have h1:(S.R7 n)[i]?.getD 0=(i:Int):=by simp[S.R7,hi]
 have h2:(S.R7 n)[i - 1]?.getD 0=((i - 1:Nat):Int):=by simp[S.R7,show i - 1<n.nodes.length by omega]
 rw[S.SG,h1,h2];simp only[TM,UB,T9,beq_iff_eq];omega
theorem I8(hr:NR n)(e:List Int):S.Sb n e (S.R7 n) (S.RR n)=S.RS n e:=by
 have k:CsOk (S.RN n):=⟨hr.cs,by rw[aB];exact hr.l2⟩;have h:S.RO (S.RN n) (S.R7 n)=S.RN n:=vI (aB n);have d:S.nc (S.RN n)=S.RR n:=rfl;refine Wd λi=>?_
 by_cases hi:i<S.RR n
 ·rw[kC (by rw[h];exact hi),zm hi];congr 1;have a:∀w,w<S.RR n->S.pk n e (S.R7 n) (i:Int) w=(S.pe n e w&&decide (w=i)):=λw hw=>by rw[S.pk,h,vI (by rw[cS,aB]),AL k w hw];congr 1;exact decide_eq_decide.2 (by omega)
  rw[By a];have key:∀j,j<=S.RR n->S.RW n (λw=>S.pe n e w&&decide (w=i)) j=if i<j then (if S.pe n e i then S.wt n i else 0) else 0:=by
   intro j
   induction j with
   |zero=>intro _;rfl
   | succ j ih =>
    intro f;rw[S.RW,ih (by omega)];show (if i<j then (if S.pe n e i then S.wt n i else 0) else 0)+(if (S.pe n e j&&decide (j=i))=true then S.wt n j else 0)=_
    by_cases c:j=i
    ·subst c;cases S.pe n e j<;>simp
    ·have b:decide (j=i)=false:=VN c;rw[b]
     by_cases c2:i<j
     ·simp[c2,show i<j+1 by omega]
     ·simp[c2,show ¬i<j+1 by omega]
  rw[key _ (TG _),TO hi]
 ·rw[Ut (by rw[gU,h];exact Nat.le_of_not_lt hi),Ut (by rw[qN];omega)]
theorem KY(hr:NR n)(h:IsSrt (S.RS n e) R){i:Nat}(h0:R[0]?=some (i:Int)):S.Te n e (S.R7 n)=S.RT (S.RN n) (i:Int)/\S.SZ n e (S.R7 n)=S.wW (S.RS n e) (i:Int):=by
 have a:S.RO (S.RN n) (S.R7 n)=S.RN n:=vI (aB n);obtain⟨i',e1,hi,j⟩:=kA.1 ((h.mem _).1 (TL h0));have:i'=i:=by omega
 subst this;have o:=hr.wl.1;rw[qN]at hi;have hI:S.Tk n e (S.R7 n)=i':=by
  have hm:=Dp (S.RS n e) (S.RR n - 1);have f:=Gs (S.RS n e) (S.RR n - 1);unfold S.Tk;rw[I8 hr,a,show S.nc (S.RN n)=S.RR n from rfl];obtain⟨I,b⟩:∃I,I=S.R9 (S.RS n e) (S.RR n - 1):=⟨_,rfl⟩;rw[<-b]at hm f ⊢;obtain⟨p,l⟩:=hm i' (by omega);have wI:S.wW (S.RS n e) (I:Int)=(S.RS n e)[I]?.getD 0:=by rw[S.wW,Ux]
  have wi:S.wW (S.RS n e) (i':Int)=(S.RS n e)[i']?.getD 0:=by rw[S.wW,Ux]
  rw[<-wI,<-wi]at p l
  by_cases c:I=i'
  ·exact c
  ·have d:(I:Int)∈R:=(h.mem _).2 (kA.2 ⟨I,rfl,by rw[qN];omega,by omega⟩);obtain⟨k,hk⟩:=Ua d;have m:k≠0:=λe=>by rw[e,h0]at hk;injection hk with hk;omega
   rcases h.at (show 0<k by omega) h0 hk with q|⟨r,q2⟩
   ·omega
   ·have:=l (by omega);omega
 refine⟨by rw[S.Te,hI,a],?_⟩;rw[S.SZ,hI,I8 hr,S.wW,Ux]
theorem FU{n:Net}(hr:NR n)(e:List Int):∀j,j<=S.RR n->((S.ST (S.RS n e) j).map (S.wW (S.RS n e))).sum=S.RW n (S.pe n e) j
 |0,_=>rfl
 | j+1,hj=>by
  have hw:=G7 (n:=n) (e:=e) (show j<S.RR n by omega);have hb:=xl hr j;have hs:S.RW n (S.pe n e) (j+1)=S.RW n (S.pe n e) j+if S.pe n e j then S.wt n j else 0:=rfl;rw[C2,U_,WV,FU hr e j (by omega),hs,<-hw]
  split
  ·simp
  ·rename_i c;have:0<=S.wW (S.RS n e) (j:Int):=by rw[hw];split<;>omega
   simp;omega
theorem MS{m:List Int}(h:l.Perm m):l.sum=m.sum:=by
 induction h with
 |nil=>rfl
 |cons x _ ih=>rw[VJ,VJ,ih]
 |swap x y l=>simp only[VJ];omega
 |trans _ _ h1 h2=>rw[h1,h2]
theorem Pm(hr:NR n)(h:IsSrt (S.RS n e) R):(R.map (S.wW (S.RS n e))).sum=S.R6 n e:=by
 have h1:R.Nodup:=h.ord.imp λ{a b} h e=>by subst e;exact zB h
 have hp:R.Perm (S.R4 (S.RS n e)):=(List.perm_ext_iff_of_nodup h1 (C3 _)).2 h.mem;have:=FU hr e (S.RR n) (TG _);rw[MS (hp.map _)];unfold S.R4;rw[qN,this]
 rfl
structure CdOk (l:List Int):Prop where
 c:∀x∈l,1<=x/\x<=4
 l8:l.length<=8
 p:S.RP l<=1024
theorem Ia(h:NR n):CdOk (S.RN n):=⟨h.cs,by rw[aB];exact h.l2,h.worlds⟩
theorem Eh(h:CdOk l)(j:Nat):1<=S.RP (l.take j)/\S.RP (l.take j)<=S.RP l:=by
 have h1:1<=S.RP (l.take j):=co λc hc=>by have:=h.c c (Uc hc);omega
 have h2:1<=S.RP (l.drop j):=co λc hc=>by have:=h.c c (Uz hc);omega
 have h3:S.RP l=S.RP (l.take j)*S.RP (l.drop j):=by
  conv=>lhs;rw[<-UE j l]
  rw[kY]
 refine⟨h1,?_⟩;rw[h3];have:=Int.mul_le_mul_of_nonneg_left h2 (show 0<=S.RP (l.take j) by omega);omega
theorem Lg{k:Nat}{P:Nat->Prop}(hd:0<d)(hl:SlR P k g.h l v)(hc:CdOk l):ah C0 d 125 [v] g=.val (.tup [XL (S.RP l),.bool true]):=by
 have key:∃r,ah C0 d 125 [v] g=.val r/\pj (One (S.RP l)) (One true) NoP 0 .nil r:=by
  obtain⟨w,ew,hw⟩:=bm hl d;have rw':=λh=>(hw h).ints;have lw:=λg:G=>(hw g.h).len g;have n:=hc.l8;have z:¬(8:Int)<0:=by decide
  rw[xC];refine aL At (xs:=[w]) (by simp only[aF,ew]) (by simp[oB]) (bO (m:=1) (aJ _) (aJ _) (by decide) (by decide)) (by decide) hd ?_;have lt12:¬(12:Int)<(l.length:Int):=by omega
  simp only[sz,simprocAttr,oB,lw,lt12];refine aI (m:=l.length) hl.1 (λj t df g=>df=[]/\St t [(2,XL (S.RP (l.take j))),(3,.bool true),(9,w)]) ⟨rfl,by simp[St,sx,S.RP]⟩ (by simp[sx]) (by simp[sx]) (by decide) (by rintro j t df g v s (rfl|rfl|rfl)<;>simp[St,sx]) ?_ ?_
  ·rintro j t df g i ⟨rfl,h2,h3,h9,-⟩ e h10;obtain⟨x,hx,f,hm⟩:=ae i;have q:=hc.c x hm;have u:j<(l.map ci).length:=by simpa using i
   have y:(l.map ci)[j]?=some (ci x):=by rw[TK,hx];rfl
   have hp:=Eh hc (j+1);have o:=hc.p;have e1:S.RP (l.take (j+1))=S.RP (l.take j)*x:=by rw[f,uf]
   have w1:IntKind.wrap .i64 (S.RP (l.take j)*x)=S.RP (l.take (j+1)):=by rw[<-e1,ap (by omega) (by omega)]
   have n1:¬x<1:=by omega
   have n2:¬8<x:=by omega
   have n3:¬4096<S.RP (l.take (j+1)):=by omega
   simp only[sz,simprocAttr,h2,h3,h9,e,h10,rw',u,y,ci,n1,n2,n3,w1];simp[St,sx,h2,h3,h9,w1]
  ·rintro t df g ⟨rfl,h2,h3,h9,-⟩;rw[Ur]at h2;simp only[sz,simprocAttr,pG,h2,h3];exact⟨λ_=>True,_,_,rfl,ax.2 rfl,eB.2 rfl⟩
 obtain⟨r,hr,a,b,rfl,ha,hb⟩:=key;have ha:=ax.1 ha;injection ha with ha;have hb:=eB.1 hb;injection hb with hb;rw[hr,ha,hb]
theorem Kf(hl:∀c∈l,0<c)(h:Int):S.Td l h=h / S.RP l:=by
 induction l with
 |nil=>show h=h / 1;rw[Int.ediv_one]
 | cons c l ih =>
  have hc:=hl c (UK ..);show S.Td l h / c=_;rw[ih λx hx=>hl x (UC _ hx),cm,Wa,Int.ediv_ediv_of_nonneg];have:1<=S.RP l:=co λx hx=>by have:=hl x (UC _ hx);omega
  omega
theorem Eg(h:CdOk l)(j:Nat):S.RP (l.drop j)<=S.RP l:=by
 have h1:1<=S.RP (l.take j):=co λc hc=>by have:=h.c c (Uc hc);omega
 have h2:1<=S.RP (l.drop j):=co λc hc=>by have:=h.c c (Uz hc);omega
 have h3:S.RP l=S.RP (l.take j)*S.RP (l.drop j):=by
  conv=>lhs;rw[<-UE j l]
  rw[kY]
 rw[h3];have:=VA h1 (show 0<=S.RP (l.drop j) by omega);omega
def S.SB(l:List Int)(i:Int)(k:Nat):Int:=i % S.RP (l.drop k)
theorem Nd(h0:0<=i)(h:i<S.RP l):S.SB l i 0=i:=by rw[S.SB,VI];exact WH h0 h
theorem CF{k:Nat}{c:Int}(h:l[k]?=some c):S.RP (l.drop k)=c*S.RP (l.drop (k+1)):=by obtain⟨hk,e⟩:=TJ.1 h;rw[UM hk,cm,e]
theorem Nc(hl:∀c∈l,0<c)(h0:0<=i){k:Nat}{c:Int}(h:l[k]?=some c):S.SB l i k / S.RP (l.drop (k+1))=S.So l i k/\S.SB l i k % S.RP (l.drop (k+1))=S.SB l i (k+1):=by
 have b:1<=S.RP (l.drop (k+1)):=co λc hc=>by have:=hl c (Uz hc);omega
 have hc:=hl c (TL h);have hd:S.So l i k=i / S.RP (l.drop (k+1)) % c:=by rw[S.So,Kf λc hc=>hl c (Uz hc),h];rfl
 rw[hd,S.SB,S.SB,CF h];obtain⟨a,rfl⟩:=TP h0;obtain⟨p,hp⟩:=TP (show 0<=S.RP (l.drop (k+1)) by omega);obtain⟨q,hq⟩:=TP (show 0<=c by omega);rw[hp,hq];constructor
 ·have:=Nat.mod_mul_right_div_self a p q;have e:a % (q*p) / p=a / p % q:=by rw[UQ q p];exact this
  exact_mod_cast e
 ·have:a % (q*p) % p=a % p:=by rw[UQ];exact Nat.mod_mul_right_mod a p q
  exact_mod_cast this
def IvV(l:List Int)(s i:Int):VS:=λP k h v=>∃p q r,v=.clo 151 [] [p,q,r]/\yL i 1 P k h p/\yL s 1 P k h q/\yL l 1 P k h r
theorem QZ(l:List Int)(s i:Int):Snb (IvV l s i) 2:=by
 refine⟨λ{P k h v n} d r hn=>?_,λ{k h v n} r hn=>?_⟩
 ·obtain⟨p,q,r,rfl,a,c,f⟩:=r;obtain⟨n,rfl⟩:∃q,n=q+2:=⟨n - 2,by omega⟩;obtain⟨p',e1,b⟩:=nm (n:=n) d a (T6 (show Rp.dp Int<=20 by decide) (by omega));obtain⟨q',e2,e⟩:=nm (n:=n) d c (T6 (show Rp.dp Int<=20 by decide) (by omega));obtain⟨r',e3,j⟩:=nm (n:=n) d f (T6 (show Rp.dp (List Int)<=20 by decide) (by omega));refine⟨.clo 151 [] [p',q',r'],?_,p',q',r',rfl,b,e,j⟩;simp only[Hx.snap,aF]at e1 e2 e3 ⊢;rw[e1,e2,e3]
 ·obtain⟨p,q,r,rfl,a,c,f⟩:=r;obtain⟨n,rfl⟩:∃q,n=q+2:=⟨n - 2,by omega⟩;obtain⟨m,e1,l1⟩:=qP (n:=n) a;obtain⟨o,e2,l2⟩:=qP (n:=n) c;obtain⟨t,e3,u⟩:=qP (n:=n) f;refine⟨Nat.max m (Nat.max o (Nat.max t 0)),?_,by show max m (max o (max t 0))<=k;omega⟩;show eV (dZ (n+1)) [p,q,r]=_;simp only[eV,e1,e2,e3]
def ivC(t1 t2 t3:Nat)(w:AV)(s i:Int):AV:=.clo 151 [] [.tptr t1 1 [[XL i]] 0 0,.tptr t2 1 [[XL s]] 0 0,.tptr t3 1 [[w]] 0 0]
theorem Md{s:Int}(hd:0<d)(hl:SlR NoP kk g.h l v)(hk:kk<d):∃w t1 t2 t3,ah C0 d 127 [v,XL s,XL i] g=.val (ivC t1 t2 t3 w s i)/\SlR NoP kk .nil l w:=by
 have key:∃r,ah C0 d 127 [v,XL s,XL i] g=.val r/\IvV l s i NoP kk .nil r:=by rw[wk];refine aL y4 (xs:=[v,XL s,XL i]) (by simp only[aF,jC d hl,bD 0]) (by simp[mL]) (QZ l s i) (by decide) hk ?_;simp only[sz,simprocAttr,mL,pH,zO hl];refine⟨λ_=>True,_,_,_,rfl,.inl ⟨2,_,rfl,trivial,by simp[sx,RQ],ax.2 rfl⟩,.inl ⟨1,_,rfl,trivial,by simp[sx,RQ],ax.2 rfl⟩,.inl ⟨0,[v],rfl,trivial,by simp[sx,RQ],?_⟩⟩;exact⟨v,rfl,hl.wide (TG _)⟩
 obtain⟨r,hr,p,q,r',rfl,a,b,c⟩:=key;rcases a with⟨id,cs,rfl,k,-⟩|⟨t1,cs,rfl,ht,a⟩
 ·exact k.elim
 rcases b with⟨id,cs,rfl,k,-⟩|⟨t2,cs2,rfl,e,b⟩
 ·exact k.elim
 rcases c with⟨id,cs,rfl,k,-⟩|⟨t3,cs3,rfl,f,c⟩
 ·exact k.elim
 obtain⟨z,rfl,hz⟩:=eC.1 c;have a:=ax.1 a;have b:=ax.1 b;subst a b;exact⟨z,t1,t2,t3,hr,hz⟩
theorem JX{id t1 t2 t3:Nat}{w:AV}{g0:G}{K:AV->G->Prop}(hl:SlR NoP kk .nil l w)(hc:CdOk l)(hi0:0<=i)(hi:i<S.RP l)(J:Nat->H->Prop)
  (step:∀(j:Nat) (g:G) (K':AV->G->Prop) (D:ADf->Prop),j<l.length->g0.nx<=g.nx->J j g.h ->
   (∀g',J (j+1) g'.h->g.nx<=g'.nx->K' (.bool true) g')->(bP (I C0) d id [XL (j:Int),XL (S.So l i j)] g).sat K' g D)
  (h0:J 0 g0.h) (fin:∀g',J l.length g'.h->g0.nx<=g'.nx->K (.tup []) g') :
  wp C0 d none cM.code (fnQ C0 d cM.res K) (bN 0 [.yld id,.tptr t1 1 [[XL i]] 0 0,.tptr t2 1 [[XL (S.RP l)]] 0 0,.tptr t3 1 [[w]] 0 0] .nil) [] g0:=by
 have rw':=λh=>(hl.tree (h':=h) (TG _):SlR NoP kk h l w).ints;have k:∀c∈l,0<c:=λc h=>by have:=hc.c c h;omega
 have hp:=hc.p;simp only[sz,simprocAttr,cM,aT,hl.len];simp only[lU];refine aI (m:=l.length) hl.1 (λj t df g=>df=[]/\St t [(0,.yld id),(5,XL (S.SB l i j)),(6,XL (S.RP (l.drop j))),(11,w)]/\J j g.h/\g0.nx<=g.nx) ⟨rfl,by simp[St,sx,Nd hi0 hi],h0,TG _⟩ (by simp[sx]) (by simp[sx]) (by decide) (by rintro j t df g v s (rfl|rfl|rfl)<;>simp[St,sx]) ?_ ?_
 ·rintro j t df g q ⟨rfl,⟨h0,h5,h6,a,-⟩,o,f⟩ b n;obtain⟨c,hx,-,hm⟩:=ae q;have x:=hc.c c hm;have B:j<(l.map ci).length:=by simpa using q
  have C:(l.map ci)[j]?=some (ci c):=by rw[TK,hx];rfl
  have hd:=CF hx;have e:=Nc k hi0 hx;have E:1<=S.RP (l.drop (j+1)):=co λc hc=>by have:=k c (Uz hc);omega
  have r:1<=S.RP (l.drop j):=co λc hc=>by have:=k c (Uz hc);omega
  have u:=Eg hc j;have y:0<=S.SB l i j:=WT _ (by omega);have z:S.SB l i j<S.RP (l.drop j):=WB _ (by omega);have A:ct .quo (XL (S.RP (l.drop j))) (XL c)=.val (XL (S.RP (l.drop (j+1)))):=by rw[po (by omega) (by omega) (by omega),hd,Int.mul_ediv_cancel_left _ (by omega)]
  have q2:ct .quo (XL (S.SB l i j)) (XL (S.RP (l.drop (j+1))))=.val (XL (S.So l i j)):=by rw[po (by omega) (by omega) (by omega),e.1]
  have q3:ct .rem (XL (S.SB l i j)) (XL (S.RP (l.drop (j+1))))=.val (XL (S.SB l i (j+1))):=by rw[zL (by omega) (by omega) (by omega),e.2]
  simp only[sz,simprocAttr,h0,h5,h6,a,b,rw',B,C,ci,A,q2];show (bP (I C0) d id [XL (j:Int),XL (S.So l i j)] g).sat _ _ _;refine step j g _ _ q f o (λg' hJ' hn'=>?_);simp only[sz,simprocAttr,h5,b,q3];simp[St,sx,h0,a,n,hJ',T6 f hn']
 ·rintro t df g ⟨rfl,-,o,f⟩;simp only[sx,↓reduceIte];exact fin g o f
theorem Fa:C0.ext 151=none:=by kernel_rfl
theorem Kj{nt y p q t1 t2 t3:Nat}{w:AV}{ca cb:SC}(hl:SlR NoP kk .nil l w)(hc:CdOk l)(hi0:0<=i)(hi:i<S.RP l)(hv:tat t y=ivC t1 t2 t3 w (S.RP l) i)(hp:p<nt)(hq:q<nt)
  (J:Nat->H->Prop) (hJ:∀j h h',(∀i,i<g.nx->h'.get i=h.get i)->J j h->J j h') (h0:J 0 g.h)
  (step:∀(j:Nat) (g1:G),j<l.length->J j g1.h->g.nx+2<=g1.nx ->
   wp C0 d (some (g.nx+1)) ca (λe t1 df g1'=>e=.norm/\df=[]/\g1'=g1/\∀g2:G,g2.nx=g1.nx->(∀i,i≠g.nx+1->g2.h.get i=g1.h.get i) ->
    wp C0 d (some (g.nx+1)) cb (λe _ df g3=>df=[]/\RowQ g.nx g2 g3 e (J (j+1) g3.h) False) t1 [] g2)
    (d6 (d6 t p (XL (j:Int))) q (XL (S.So l i j))) [] g1)
  (fin:∀g',J l.length g'.h->g.nx+2<=g'.nx->g'.h.get g.nx=.dfr true->Q .norm t [.mark g.nx] g') :
  wp C0 d none (.rng nt (.t y) [p,q] ca cb) Q t [] g:=by
 refine nC (fn:=151) (first:=[]) (cap:=[.tptr t1 1 [[XL i]] 0 0,.tptr t2 1 [[XL (S.RP l)]] 0 0,.tptr t3 1 [[w]] 0 0]) (s:=cM) hv Fa wB (by simp[cM]) ?_;intro assign body ha hb;have e1:((g.new (.dfr true)).new (.loop nt t [p,q] assign body g.nx .ready none)).nx=g.nx+2:=by simp
 refine JX (g0:=(g.new (.dfr true)).new (.loop nt t [p,q] assign body g.nx .ready none)) (id:=g.nx+1) hl hc hi0 hi
  (λj h=>J j h/\h.get g.nx=.dfr true/\h.get (g.nx+1)=.loop nt t [p,q] assign body g.nx .ready none) ?_ ?_ ?_
 ·rintro j g1 K' D m k ⟨a1,a2,a⟩ kk;rw[e1]at k;refine C6 a ha hb (t':=d6 (d6 t p (XL (j:Int))) q (XL (S.So l i j))) ?_ ?_
  ·simp only[cp,aa,UH,TO hp,TO hq];rfl
  ·refine bE _ (step j g1 m a1 (by omega)) ?_;rintro e t1 df g1' ⟨rfl,rfl,rfl,h⟩;refine⟨rfl,rfl,rfl,?_⟩;have hl:g.nx+1<g1'.nx:=by omega
   refine bE _ (h (g1'.put (g.nx+1) (.loop nt t [p,q] assign body g.nx .busy none)) (by simp) (λi hi=>by simp[RQ,hi])) ?_;rintro e t2 df g3 ⟨rfl,⟨b2,b,b1⟩⟩;have c:g3.h.get (g.nx+1)=.loop nt t [p,q] assign body g.nx .busy none:=by rw[b _ (by omega) (by simpa using hl)];simp[RQ]
   have f:g3.h.get g.nx=.dfr true:=by rw[b _ (by omega) (by simp;omega)];simp[RQ,a2]
   refine⟨rfl,c,?_⟩;rcases b1 with⟨rfl,b1⟩|⟨rfl,b1⟩
   ·refine .inl ⟨rfl,kk _ ⟨hJ _ g3.h _ (λi hi=>by simp[RQ,show ¬i=g.nx+1 by omega]) b1,?_,?_⟩ (by simpa using b2)⟩
    ·simp[RQ,f]
    ·simp[RQ]
   ·exact b1.elim
 ·refine⟨hJ 0 g.h _ (λi hi=>?_) h0,?_,?_⟩
  ·simp[RQ,show ¬i=g.nx+1 by omega,show ¬i=g.nx by omega]
  ·simp[RQ]
  ·simp[RQ]
 ·rintro g' ⟨a1,a2,a⟩ k;rw[e1]at k;refine⟨_,_,_,_,_,_,.inl ⟨a,fin _ (hJ _ g'.h _ (λi hi=>by simp[RQ,show ¬i=g.nx+1 by omega]) a1) (by simpa using k) ?_⟩⟩;simp[RQ,a2]
def S.Su(l:List Int)(i:Int)(j:Nat):List Int:=(S.RT l i).take j++List.replicate (l.length - j) 0
theorem NI(l:List Int)(i:Int)(hj:j<=l.length):(S.Su l i j).length=l.length:=by simp[S.Su,cS];omega
theorem KH(l:List Int)(i:Int):S.Su l i 0=List.replicate l.length 0:=by simp[S.Su]
theorem NH(l:List Int)(i:Int):S.Su l i l.length=S.RT l i:=by simp[S.Su,<-cS l i]
theorem KI(hj:j<l.length):(S.RT l i)[j]?=some (S.So l i j):=by simp[S.RT,TK,VD hj]
theorem KG(hj:j<l.length):(S.Su l i j).set j (S.So l i j)=S.Su l i (j+1):=by
 have e1:(S.RT l i).take (j+1)=(S.RT l i).take j++[S.So l i j]:=by rw[We,KI hj];rfl
 have h1:((S.RT l i).take j).length=j:=by simp[cS];omega
 obtain⟨m,hm⟩:∃m,l.length - j=m+1:=⟨l.length - j - 1,by omega⟩;have h:l.length - (j+1)=m:=by omega
 rw[S.Su,S.Su,e1,hm,h,UY,UU _ _ (by omega),h1,UD,Vm,UJ]
 rfl
structure ColJ (g0:G) (iw:Nat) (W:AV) (l:List Int) (i:Int) (j:Nat) (h:H):Prop where
 fr:∀k,k<g0.nx->k≠iw->h.get k=g0.h.get k
 ow:Own (GH h (iw+1)) 0 W 1 ((S.Su l i j).map ci)
theorem ColJ.up{g0:G}{iw:Nat}{W:AV}{h h':H}(hf:ColJ g0 iw W l i j h)(hv:vid W=some iw)(hi:iw<g0.nx)(hh:∀k,k<g0.nx->h'.get k=h.get k):ColJ g0 iw W l i j h' :=
 ⟨λk h1 h2=>by rw[hh k h1,hf.fr k h1 h2],hf.ow.fr (by simp) λk h=>by rw[hv]at h;injection h with h;subst h;exact hh _ hi⟩
theorem GE{t1 t2 t3:Nat}{w:AV}(hd:0<d)(hl:SlR NoP kk .nil l w)(hc:CdOk l)(hi0:0<=i)(hi:i<S.RP l) :
  ∃r,ah C0 d 126 [XL (l.length:Int),ivC t1 t2 t3 w (S.RP l) i] g=.val r/\IT 0 (S.RT l i) r:=by
 have D:=hc.l8;rw[rU];refine aL uy (xs:=[XL (l.length:Int),ivC t1 t2 t3 w (S.RP l) i]) (by simp only[aF,bD 0];rfl) (by simp[hZ]) (aJ _) (by decide) hd ?_;simp only[sz,simprocAttr,hZ,A_];refine mb (b:=0) (n:=l.length) (by unfold aQ;omega) (by unfold aQ;omega) (by simp) λW g1 hW n1 f1 vW=>?_;have n1:g1.nx=1:=n1;have o:Own g1 0 W 1 ((List.replicate l.length (0:Int)).map ci):=by simpa [ci] using hW
 simp only[sz,simprocAttr,hW.cell.1,hW.cell.2];rw[n1];obtain⟨g2,a⟩:∃g2,g2=(g1.new (W8 1 [[AV.nils]])).put 1 (W8 1 [[W]]):=⟨_,rfl⟩;rw[<-a];have n2:g2.nx=2:=by rw[a];simp[n1]
 have B:g2.h.get 1=W8 1 [[W]]:=by rw[a];simp[RQ]
 have q:Own g2 0 W 1 ((List.replicate l.length (0:Int)).map ci):=o.fr (by omega) λi hi=>by have e:=dv vW hi;have e0:g1.nx=1:=n1;rw[a];simp[RQ,n1,show ¬i=1 by omega]
 clear a hW o;refine Kj (t1:=t1) (t2:=t2) (t3:=t3) (w:=w) hl hc hi0 hi (by simp[sx]) (by decide) (by decide) (λj h=>ColJ g2 0 W l i j h) (λj h h' hh hf=>hf.up vW (by omega) hh) ⟨λ_ _ _=>rfl,by rw[KH];exact q.gh vW⟩ ?_ ?_
 ·intro j g3 C p E;simp only[sz,simprocAttr,jI];intro f A t;have c:ColJ g2 0 W l i j f.h:=p.up vW (by omega) λk hk=>t k (by omega);have u:f.h.get 1=W8 1 [[W]]:=by rw[c.fr 1 (by omega) (by omega),B]
  have m:Own f 0 W 1 ((S.Su l i j).map ci):=c.ow.fr (g':=f) (by show 1<=f.nx;omega) λi _=>rfl;have rW:=m.rows;have F:=NI l i (j:=j) (by omega);have I:j<((S.Su l i j).map ci).length:=by simp;omega
  obtain⟨y,H⟩:∃y,(S.Su l i j)[j]?=some y:=⟨_,TH (by omega)⟩;have J:((S.Su l i j).map ci)[j]?=some (ci y):=by rw[TK,H];rfl
  simp only[sz,simprocAttr,jJ,u,rW,I];refine bC (v:=W) (sz:=1) (n:=1) (i:=j) (off:=0) (x:=XL (S.So l i j)) (row':=ci (S.So l i j)) m J rfl rfl rfl λg5 hO5 n5 f5=>?_;rw[<-Vf,KG C]at hO5;simp only[sz,simprocAttr];refine⟨by omega,λk h1 h2=>f5 k λe=>?_,.inl ⟨rfl,λk h1 h2=>?_,hO5.gh vW⟩⟩
  ·have:=dv vW e;omega
  ·rw[f5 k λe=>h2 (dv vW e).symm,c.fr k h1 h2]
 ·intro g3 p E s;have u:g3.h.get 1=W8 1 [[W]]:=by rw[p.fr 1 (by omega) (by omega),B]
  have z:=p.ow;rw[NH]at z;simp only[sz,simprocAttr,jK,u];refine eM s ?_;simp only[sx,sy,↓reduceIte,Nat.reduceEqDiff];exact⟨λ_=>True,(z.fr (g':=g3.put g2.nx (.dfr false)) (by show 1<=g3.nx;omega) λi hi=>by have e:=dv vW hi;simp[RQ,show ¬i=g2.nx by omega]).ints (by rw[cS];omega)⟩
theorem BE(hd:0<d)(hl:SlR NoP kk g.h l v)(hk:kk<=d)(hc:CdOk l)(hi0:0<=i)(hi:i<S.RP l) :
  ∃r,ah C0 d 88 [v,XL i] g=.val r/\∃w,r=.tup [w,XL 0]/\IT 0 (S.RT l i) w:=by
 have key:∃r,ah C0 d 88 [v,XL i] g=.val r/\pj (One (S.RT l i)) (One (0:Int)) NoP 0 .nil r:=by
  obtain⟨w,ew,hw⟩:=bm hl d;rw[Nat.max_eq_right hk]at hw;have kc:=λg=>Lg (d:=d+1) (g:=g) (TW d) (hw g.h) hc;have lw:=λg:G=>(hw g.h).len g;have n1:¬i<0:=by omega
  have n2:¬S.RP l<=i:=by omega
  rw[wj];refine aL yZ (xs:=[w,XL i]) (by simp only[aF,ew,bD 0]) (by simp[mK]) (bO (m:=2) (aJ _) (aJ _) (by decide) (by decide)) (by decide) hd ?_;simp only[sz,simprocAttr,mK,kc,n1,n2,lw];refine bi (Q:=λr=>∃u t1 t2 t3,r=ivC t1 t2 t3 u (S.RP l) i/\SlR NoP d .nil l u) ?_ ?_
  ·obtain⟨u,t1,t2,t3,e,hu⟩:=Md (d:=d+1) (g:=G.empty) (s:=S.RP l) (i:=i) (TW d) (hw _) (by omega);exact⟨_,e,u,t1,t2,t3,rfl,hu⟩
  rintro _ ⟨u,t1,t2,t3,rfl,hu⟩;simp only[sz,simprocAttr];refine bi (GE (d:=d+1) (TW d) hu hc hi0 hi) λz hz=>?_;simp only[sz,simprocAttr];exact⟨NoP,z,_,rfl,⟨z,rfl,hz.sl _⟩,ax.2 rfl⟩
 obtain⟨r,hr,a,b,rfl,ha,hb⟩:=key;have hb:=ax.1 hb;injection hb with hb;subst hb;exact⟨_,hr,a,rfl,ha⟩
theorem A1{w:Nat}(hd:0<d)(hm:Agg n NoP 0 g.h v)(hr:NR n)(hw:w<S.RR n) :
  ∃r,ah C0 d 43 [v,XL (w:Int)] g=.val r/\∃z,r=.tup [z,XL 0]/\IT 0 (S.RT (S.RN n) (w:Int)) z:=by
 have key:∃r,ah C0 d 43 [v,XL (w:Int)] g=.val r/\pj (One (S.RT (S.RN n) (w:Int))) (One (0:Int)) NoP 0 .nil r:=by
  obtain⟨b,rows,rfl,e1,c,hN,l,p,q,s⟩:=fP d hm;rw[yQ];refine aL BY (xs:=[.agg [XL n.grain,b],XL (w:Int)]) (by simp only[aF,e1,bD 0]) (by simp[qz]) (bO (m:=2) (aJ _) (aJ _) (by decide) (by decide)) (by decide) hd ?_;simp only[sz,simprocAttr,qz,sY];obtain⟨z,ez,hz⟩:=zp (d:=d+1) (g:=G.empty.new (W8 2 [[XL n.grain,b]])) (TW d) (n:=n) (v:=.agg [XL n.grain,b]) (c _);rcases nX hz with⟨e,-⟩|⟨e,b',cv,sv,oz,o,rfl,hb,k,j,f⟩
  ·rw[cA.2 hr]at e;cases e
  ·simp only[sz,simprocAttr,ez];refine bi (BE (d:=d+1) (i:=(w:Int)) (TW d) (k.tree (TG 0)) (by omega) (Ia hr) (by omega) (by have:=hr.wl;omega)) ?_;rintro _ ⟨u,rfl,hu⟩;simp only[sz,simprocAttr];exact⟨NoP,u,_,rfl,⟨u,rfl,hu.sl _⟩,ax.2 rfl⟩
 obtain⟨r,hr,a,b,rfl,ha,hb⟩:=key;have hb:=ax.1 hb;injection hb with hb;subst hb;exact⟨_,hr,a,rfl,ha⟩
theorem JU{cs vs:List Int}{ps:List Int}{p c v:Int}(ht:ps.take (j+1)=ps.take j++[p])(hc:cs[p.toNat]?=some c)(hv:vs[p.toNat]?=some v) :
  S.RQ (S.RO cs (ps.take (j+1))) (S.RO vs (ps.take (j+1)))=S.RQ (S.RO cs (ps.take j)) (S.RO vs (ps.take j))*c+v:=by
 rw[ht,cQ,cQ,ua _ _ (by simp[S.RO])];simp[S.RO,hc,hv,S.RQ,S.RP]
theorem tJ(hr:NR n){vals:List Int}(hv:InC (S.RN n) vals){x:Node}(hx:x∈n.nodes)(j:Nat) :
  0<=S.RQ (S.RO (S.RN n) (x.parents.take j)) (S.RO vals (x.parents.take j))/\S.RQ (S.RO (S.RN n) (x.parents.take j)) (S.RO vals (x.parents.take j))<=65536:=by
 have h:∀p∈x.parents.take j,0<=p/\p<(S.RN n).length:=λp hp=>hr.pin hx p (Uc hp);have h1:=bI (aZ hr.cs h) (dx hv h);have h2:=bG (l:=S.RO (S.RN n) (x.parents.take j)) (aZ hr.cs h);have hl:=hr.l2;have c:=dy (hr.places x hx) (by omega);have h3:=eP (a:=(S.RO (S.RN n) (x.parents.take j)).length) (b:=8) (by simp[S.RO];omega);have k:(4:Int) ^ 8=65536:=by decide
 omega
def LWn(q:Nat)(rv b:AV)(p:Int)(v len:Nat):List (Nat×AV):=[(6,XM 1),(8,rv),(9,XL p),(35,b),(36,XL (len:Int)),(37,XL (v:Int)),(10,XL (v:Int)),(11,XM q)]
theorem Rv{q v len:Nat}{x:Node}{vals:List Int}{b cv sv oz rv pa:AV}{p:Int}(hr:NR n)(hx:x∈n.nodes)(hv:InC (S.RN n) vals)(rp:∀h,ak h 1 pa=some (x.parents.map ci))(rc:∀h,ak h 1 cv=some ((S.RN n).map ci))(ri:∀h,ak h 1 rv=some (vals.map ci))
  (ht:St t (LWn q rv b p v len)) (h12:tat t 12=XL 0) (h43:tat t 43=pa) (h44:tat t 44=XL (x.parents.length:Int)) (h45:tat t 45=XL 0) (k1:g.h.get 1=W8 5 [[XL n.grain,b,cv,sv,oz]])
  (fin:∀t,St t (LWn q rv b p v len)->tat t 12=XL (S.RQ (S.RO (S.RN n) x.parents) (S.RO vals x.parents))->Q (.exit 2) t [] g):wpL (wp C0 d none lE) Q t [] g:=by
 have hl2:=hr.l2;have B:=dy (hr.places x hx) (by omega);have hcl:=aB n;have C:=hv.len;simp only[lE];refine aI (m:=x.parents.length) (by omega) (λj t df g'=>df=[]/\g'=g/\St t (LWn q rv b p v len)/\tat t 12=XL (S.RQ (S.RO (S.RN n) (x.parents.take j)) (S.RO vals (x.parents.take j)))/\tat t 43=pa)
  ⟨rfl,rfl,ht,h12,h43⟩ h45 h44 (by decide) ?_ ?_ ?_
 ·rintro j t df g' v s hs ⟨a1,a2,⟨b1,b2,P,R,U,V,W,X,-⟩,a4,O⟩;refine⟨a1,a2,?_,?_,?_⟩<;>rcases hs with rfl|rfl|rfl<;>simp[St,LWn,sx, *]
 ·rintro j t df g' u ⟨rfl,rfl,⟨h6,h8,h9,a,e,f,h10,k,-⟩,h12,h43⟩ h45 h44;obtain⟨y,D,o,r⟩:=ae u;obtain⟨N,y1⟩:=hr.pin hx y r;obtain⟨yn,rfl⟩:=TP N;obtain⟨c,hc⟩:∃c,(S.RN n)[yn]?=some c:=⟨_,TH (by omega)⟩;obtain⟨z,hz,E,F⟩:=hv.get hc;have w:=hr.cs c (TL hc);have H:j<(x.parents.map ci).length:=by simpa using u
  have I:(x.parents.map ci)[j]?=some (ci (yn:Int)):=by rw[TK,D];rfl
  have u3:yn<((S.RN n).map ci).length:=by simp;omega
  have J:((S.RN n).map ci)[yn]?=some (ci c):=by rw[TK,hc];rfl
  have K:yn<(vals.map ci).length:=by simp;omega
  have L:(vals.map ci)[yn]?=some (ci z):=by rw[TK,hz];rfl
  have e1:=JU (cs:=S.RN n) (vs:=vals) o (p:=(yn:Int)) (by rw[Ux];exact hc) (by rw[Ux];exact hz);have i:=tJ hr hv hx j;have l:=tJ hr hv hx (j+1);rw[e1]at l;have A:S.RQ (S.RO (S.RN n) (x.parents.take j)) (S.RO vals (x.parents.take j))*c<=65536/\0<=S.RQ (S.RO (S.RN n) (x.parents.take j)) (S.RO vals (x.parents.take j))*c:=⟨by omega,Vp i.1 (by omega)⟩;have w1:IntKind.wrap .i64 (S.RQ (S.RO (S.RN n) (x.parents.take j)) (S.RO vals (x.parents.take j))*c)=S.RQ (S.RO (S.RN n) (x.parents.take j)) (S.RO vals (x.parents.take j))*c:=ap (by omega) (by omega);have M:IntKind.wrap .i64 (S.RQ (S.RO (S.RN n) (x.parents.take j)) (S.RO vals (x.parents.take j))*c+z)=S.RQ (S.RO (S.RN n) (x.parents.take (j+1))) (S.RO vals (x.parents.take (j+1))):=by rw[e1,ap (by omega) (by omega)]
  simp only[sz,simprocAttr,h6,h8,h12,h43,h45,k1,rp,rc,ri,H,I,u3,J,K,L,ci,w1,M];simp[St,LWn,sx,h6,h8,h9,a,e,f,h10,k,h43,h44,h45]
 ·rintro t df g' ⟨rfl,rfl,ht,h12,-⟩;rw[Ur]at h12;exact fin t ht h12
theorem G_{w:Nat}(hd:0<d)(hm:Agg n NoP 0 g.h v)(hr:NR n)(hw:w<S.RR n):ah C0 d 42 [v,XL (w:Int)] g=.val (.tup [XL (S.wt n w),XL 0]):=by
 have key:∃r,ah C0 d 42 [v,XL (w:Int)] g=.val r/\pj (One (S.wt n w)) (One (0:Int)) NoP 0 .nil r:=by
  obtain⟨b,rows,rfl,e1,L,hN,H,r2,X,Y⟩:=fP d hm;have T:=eD (λc hc=>(hr.cs c hc).1) (w:Int);have U:=cS (S.RN n) (w:Int);rw[aB]at U;have hl2:=hr.l2;rw[yR];refine aL BZ (xs:=[.agg [XL n.grain,b],XL (w:Int)]) (by simp only[aF,e1,bD 0]) (by simp[qA]) (bO (m:=1) (aJ _) (aJ _) (by decide) (by decide)) (by decide) hd ?_;simp only[sz,simprocAttr,qA,sZ];obtain⟨z,ez,hz⟩:=zp (d:=d+1) (g:=G.empty.new (W8 2 [[XL n.grain,b]])) (TW d) (n:=n) (v:=.agg [XL n.grain,b]) (L _);rcases nX hz with⟨M,-⟩|⟨M,b',cv,sv,oz,o,rfl,hb,A,h3,h1⟩
  ·rw[cA.2 hr]at M;cases M
  have rc:=λh=>(A.tree (h':=h) (TG 0):SlR NoP 0 h _ cv).ints;obtain⟨rows,H,r2,X,Y⟩:=hb.all;have H:∀h',ak h' 3 b'=some rows:=H;simp only[sz,simprocAttr,ez];refine bi (BE (d:=d+1) (i:=(w:Int)) (TW d) (A.tree (TG 0)) (by omega) (Ia hr) (by omega) (by have:=hr.wl;omega)) ?_;rintro _ ⟨rv,rfl,Q⟩;simp only[sz,simprocAttr,hb.len];unfold S.wt;generalize S.RT (S.RN n) (w:Int)=vals at *;have ri:=λh=>Q.rows h;simp only[rA,rB,rC];refine aI (m:=n.nodes.length) (by omega) (λj t df g=>df=[]/\St t [(6,XM 1),(8,rv),(9,XL (S.RP ((List.range j).map (S.R2 n vals)))),(35,b')]/\g.h.get 1=W8 5 [[XL n.grain,b',cv,sv,oz]]/\2<=g.nx)
   ⟨rfl,by simp[St,sx,S.RP],by simp[sx,RQ],by simp[sx]⟩ (by simp[sx]) (by simp[sx]) (by decide) (by rintro j t df g v s (rfl|rfl|rfl)<;>simp[St,sx]) ?_ ?_
  ·rintro j t df g hj ⟨rfl,⟨h6,h8,h9,e,-⟩,F,N⟩ f u;obtain⟨x,hx,-,-⟩:=ae hj;have E:=TL hx;obtain⟨i,r,c,y,f1,f2,f3,f4,f5,f6,I,W,-,-⟩:=wE hr T hx;obtain⟨c,rfl⟩:=TP f5;rw[Ux]at I;obtain⟨row,q1,q2⟩:=X j x hx;obtain⟨pa,ra,rfl,D,O⟩:=cI.1 q2;have hlt:j<rows.length:=by omega
   have R:=Y (by omega);have rp:=λh=>(D.tree (h':=h) (TG 0):SlR NoP 0 h _ pa).ints;obtain⟨rr,s1,s2,s3,s4⟩:=zq (k:=0) (O.tree (h':=.nil) (TG 0));obtain⟨z,q3,C,hz⟩:=s3 i r f3;have h2:=dy (hr.places x E) (by omega);have K:=D.len;refine ge (P:=λt' df g'=>df=[]/\g'.nx=g.nx+1/\g'.h.get 1=W8 5 [[XL n.grain,b',cv,sv,oz]]/\g'.h.get g.nx=W8 3 [[XL x.card,pa,ra]]/\St t' (LWn g.nx rv b' (S.RP ((List.range j).map (S.R2 n vals))) j n.nodes.length)) ?_ ?_
   ·simp only[sz,simprocAttr,e,f,H,hlt,q1,R];simp[St,LWn,sx,RQ,h6,h8,h9,e,f,u,F,show ¬1=g.nx by omega]
   rintro t' df g1 ⟨rfl,n1,F,kq,ht⟩;clear h6 h8 h9 e f u;refine ge (P:=λt' df g'=>df=[]/\g'=g1/\St t' (LWn g.nx rv b' (S.RP ((List.range j).map (S.R2 n vals))) j n.nodes.length)/\tat t' 12=XL 0) ?_ ?_
   ·obtain⟨b1,b2,Z,b4,b5,b6,b7,V,-⟩:=ht;simp only[sz,simprocAttr];simp[St,LWn,sx, *]
   clear ht;rintro t2 df g2 ⟨rfl,B,⟨b1,b2,Z,b4,b5,b6,b7,V,-⟩,l⟩;rw[B];clear B;simp only[sz,simprocAttr,V,kq,K];refine Rv (q:=g.nx) (v:=j) (len:=n.nodes.length) (b:=b') (sv:=sv) (oz:=oz) (p:=S.RP ((List.range j).map (S.R2 n vals))) hr E T rp rc ri (by simp[St,LWn,sx, *]) (by simp[sx,l]) (by simp[sx]) (by simp[sx]) (by simp[sx]) F ?_;rintro t3 ⟨h6,h8,h9,e,u,f,h10,J,-⟩ l;rw[f1]at l;have u1:j<(vals.map ci).length:=by rw[TT];omega
   have u2:(vals.map ci)[j]?=some (ci (c:Int)):=by rw[TK,f4];rfl
   have u3:c<(r.map ci).length:=by rw[TT];exact (TJ.1 I).1
   have u4:(r.map ci)[c]?=some (ci y):=by rw[TK,I];rfl
   have rz:=λh=>(hz.tree (h':=h) (TG 0):SlR NoP 0 h _ z).ints;have wb:=kG hr T (j:=j+1) (by omega);rw[q_,W]at wb;have w1:IntKind.wrap .i64 (S.RP ((List.range j).map (S.R2 n vals))*y)=S.RP ((List.range (j+1)).map (S.R2 n vals)):=by rw[q_,W,ap (by omega) (by omega)]
   simp only[sz,simprocAttr,h8,h9,h10,J,l,kq,s1,C,q3,ri,u1,u2,rz,u3,u4,ci,w1];simp[St,sx,h6,h8,e,u,f,F,n1];omega
  ·rintro t df g ⟨rfl,⟨h6,h8,h9,e,-⟩,F,N⟩;simp only[sz,simprocAttr,rD,h9];exact⟨NoP,_,_,rfl,ax.2 rfl,ax.2 rfl⟩
 obtain⟨r,hr,a,b,rfl,ha,hb⟩:=key;have ha:=ax.1 ha;injection ha with ha;have hb:=ax.1 hb;injection hb with hb;rw[hr,ha,hb]
theorem JY{rows:List (List AV)}(h:ak g.h 2 v=some rows)(hl:0<rows.length):xX 2 v (XL 0) g=.val (jF 2 v 0 0) :=
 AS (by rw[h];rfl) (by decide) (by rw[h];simpa using hl)
def LQo(z x1 y1:AV)(kn ms:Int):List (Nat×AV):=[(7,XM 2),(8,z),(9,XL kn),(10,x1),(11,y1),(14,XM 3),(16,XL ms)]
def LQi(i:Nat)(w wt bf sm:Int)(vv x1:AV)(len:Nat)(l:List (Nat×AV)):List (Nat×AV):=(18,XL bf)::(19,XL sm)::(20,XL (i:Int))::(21,XL w)::(22,XL wt)::(24,vv)::(126,x1)::(127,XL (len:Int))::(128,XL (i:Int))::l
theorem Rh{i len:Nat}{w wt bf sm kn ms:Int}{ev vals:List Int}{vv z x1 y1:AV}(hz:SlR NoP 0 .nil ev z)(hv:SlR NoP 0 .nil vals vv)(hl:ev.length=vals.length)(hm:S.S4 vals ev=true)
  (ht:St t ((172,z)::LQi i w wt bf sm vv x1 len (LQo z x1 y1 kn ms))) (h174:tat t 174=XL 0) (h173:tat t 173=XL (ev.length:Int))
  (fin:∀t,St t (LQi i w wt bf sm vv x1 len (LQo z x1 y1 kn ms))->Q (.exit 2) t [] g):wpL (wp C0 1 none dK) Q t [] g:=by
 have rz:=λh=>(hz.tree (h':=h) (TG _)).ints;have rv:=λh=>(hv.tree (h':=h) (TG _)).ints;simp only[dK];refine aI (m:=ev.length) hz.1 (λj t df g'=>df=[]/\g'=g/\St t ((172,z)::LQi i w wt bf sm vv x1 len (LQo z x1 y1 kn ms))) ⟨rfl,rfl,ht⟩ h174 h173 (by decide) ?_ ?_ ?_
 ·rintro j t df g v s (rfl|rfl|rfl) ⟨a1,a2,⟨b1,b2,P,R,U,V,W,X,Y,A,B,C,D,E,F,H,I,-⟩⟩<;>exact⟨a1,a2,by simp[St,LQo,LQi,sx,b1,b2,P,R,U,V,W,X,Y,A,B,C,D,E,F,H,I]⟩
 ·clear ht h174 h173;rintro j t df g' J ⟨rfl,rfl,⟨k,o,p,q,r,u,d,a,b,c,h7,h8,h9,h10,e,f,n,-⟩⟩ h174 h173;obtain⟨x,hx,-,-⟩:=ae J;obtain⟨y,M,-,-⟩:=ae (l:=vals) (j:=j) (by omega);have N:j<(ev.map ci).length:=by simpa using J
  have O:(ev.map ci)[j]?=some (ci x):=by rw[TK,hx];rfl
  have K:j<(vals.map ci).length:=by rw[TT];omega
  have L:(vals.map ci)[j]?=some (ci y):=by rw[TK,M];rfl
  have key:=Ue.1 hm j (T8.2 J);simp only[S.Tb,hx,M,TS,UB,T9]at key
  by_cases c1:(0:Int)<=x
  ·have Z:y=x:=by omega
   subst Z;simp only[sz,simprocAttr,k,h174,rz,N,O,ci,c1,d,rv,K,L];simp[St,LQo,LQi,sx,k,o,p,q,r,u,d,a,b,c,h7,h8,h9,h10,e,f,n,h174,h173]
  ·simp only[sz,simprocAttr,k,h174,rz,N,O,ci,c1];simp[St,LQo,LQi,sx,k,o,p,q,r,u,d,a,b,c,h7,h8,h9,h10,e,f,n,h174,h173]
 ·rintro t df g' ⟨rfl,rfl,⟨-,ht⟩⟩;exact fin t ht
def S.S0(mw L:List Int)(j:Nat):Int:=if j=0 then -1 else S.wW mw (L[j - 1]?.getD 0)
def S.SD(mw L:List Int)(j:Nat):Int:=((L.map (S.wW mw)).take j).sum
theorem Ri{ev L:List Int}{b z x1 y1:AV}{kn:Int}{ms:Nat}(hm:∀h,Agg n NoP 0 h (.agg [XL n.grain,b]))(hr:NR n)(hel:ev.length=n.nodes.length)(hR:IsSrt (S.RS n ev) R)(hL:L=R.take kk)(hL50:L.length<=50)(hms:S.R6 n ev=(ms:Int))(hm0:0<ms)(hm1:ms<=171992678400000000)
  (hz:SlR NoP 0 .nil ev z) (hx:SlR NoP 0 .nil L x1) (hy:SlR NoP 0 .nil (S.Sg n ev L) y1) (g2:g.h.get 2=W8 2 [[XL n.grain,b]])
  (ht:St t ((18,XL (-1))::(19,XL 0)::(126,x1)::LQo z x1 y1 kn (ms:Int))) (h128:tat t 128=XL 0) (h127:tat t 127=XL (L.length:Int))
  (fin:∀t,St t ((19,XL ((L.map (S.wW (S.RS n ev))).sum))::LQo z x1 y1 kn (ms:Int))->Q (.exit 0) t [] g):wpL (wp C0 1 none dL) Q t [] g:=by
 have rx:=λh=>(hx.tree (h':=h) (TG _)).ints;have ry:=λh=>(hy.tree (h':=h) (TG _)).qs;have lz:=hz.len;have E:∀x∈L,x∈S.R4 (S.RS n ev):=λx hx=>(hR.mem x).1 (Uc (by rw[<-hL];exact hx));have O:∀(k:Nat) (x:Int),L[k]?=some x->R[k]?=some x:=λk x h=>by rw[hL]at h;have h1:=(TJ.1 h).1;rw[T_]at h1;rwa [T7 (by omega)]at h
 have h3:∀x∈L,0<=S.wW (S.RS n ev) x/\S.wW (S.RS n ev) x<=167961600000000:=λx hx=>by obtain⟨i,wn,rfl,hi,hd,hc,A⟩:=Bh hr (E x hx);rw[A];omega
 have ha:∀j,j<=L.length->0<=S.SD (S.RS n ev) L j/\S.SD (S.RS n ev) L j<=167961600000000*(j:Int):=by
  intro j
  induction j with
  |zero=>intro _;exact⟨WJ _,by simp[S.SD]⟩
  | succ j ih =>
   intro W;obtain⟨i1,i2⟩:=ih (by omega);obtain⟨x,hx,-,H⟩:=ae (l:=L) (j:=j) (by omega);have hb:=h3 x H;have h1:(L.map (S.wW (S.RS n ev)))[j]?=some (S.wW (S.RS n ev) x):=by rw[TK,hx];rfl
   have h2:=uQ h1;unfold S.SD at *;rw[h2];omega
 simp only[dL,iz];refine aI (m:=L.length) (by omega) (λj t df g'=>df=[]/\g'=g/\St t ((18,XL (S.S0 (S.RS n ev) L j))::(19,XL (S.SD (S.RS n ev) L j))::(126,x1)::LQo z x1 y1 kn (ms:Int))) ⟨rfl,rfl,by simpa [S.S0,S.SD] using ht⟩ h128 h127 (by decide) ?_ ?_ ?_
 ·rintro j t df g v s (rfl|rfl|rfl) ⟨a1,a2,⟨b1,b2,b3,b4,b5,b6,b7,b8,b9,X,-⟩⟩<;>exact⟨a1,a2,by simp[St,LQo,sx,b1,b2,b3,b4,b5,b6,b7,b8,b9,X]⟩
 ·clear ht h128 h127;rintro j t df g' W ⟨rfl,rfl,⟨o,f,a,h7,h8,h9,h10,q,B,u,-⟩⟩ h128 h127;obtain⟨x,D,-,H⟩:=ae W;obtain⟨i,wn,rfl,hi,hd,hc,A⟩:=Bh hr (E x H);obtain⟨i',ei,-,U⟩:=kA.1 (E _ H);have:i'=i:=by omega
  subst this;rw[qN]at hi;have C:=G7 (n:=n) (e:=ev) hi;rw[A]at C U;have P:S.pe n ev i'=true:=by
   cases c:S.pe n ev i' with
   |true=>rfl
   |false=>rw[c]at C;simp at C;omega
  rw[P,TO rfl]at C;have N:=cS (S.RN n) (i':Int);rw[aB]at N;have z1:j<(L.map ci).length:=by simpa using W
  have z2:(L.map ci)[j]?=some (ci (i':Int)):=by rw[TK,D];rfl
  have he:S.wq n ev (i':Int)=S.RY wn ms:=by rw[S.wq,A,hms];rfl
  have V:j<((S.Sg n ev L).map wcq).length:=by simpa [S.Sg] using W
  have hf:((S.Sg n ev L).map wcq)[j]?=some (wcq (S.RY wn ms)):=by rw[TK,S.Sg,TK,D,<-he];rfl
  have h5:vN y1=true:=Ej (ry .nil) V;have kW:=λg:G=>G_ (d:=1) (g:=g) (w:=i') (by decide) (hm g.h) hr hi;rw[<-C]at kW;have kO:=λg:G=>QO (d:=1) (g:=g) (x:=wn) (y:=ms) (by decide) (by omega) hm0 (by omega);simp only[sz,simprocAttr,a,h128,rx,z1,z2,ci,h7,g2,kW];refine bi (A1 (d:=1) (by decide) (hm _) hr hi) ?_;rintro r ⟨vv,rfl,F⟩;have F:SlR NoP 0 .nil (S.RT (S.RN n) (i':Int)) vv:=IT.sl (k:=0) F .nil;have lv:∀g:G,cH .slice vv g=.val (XL (n.nodes.length:Int)):=λg=>by have:=F.len g;rwa [N]at this
  have lz':∀g:G,cH .slice z g=.val (XL (n.nodes.length:Int)):=λg=>by have:=lz g;rwa [hel]at this
  have d1:¬(wn:Int)<1:=by omega
  simp only[sz,simprocAttr,h8,q,u,lv,lz',d1,ry,V,hf,h5,wcq,kO,Lr];refine Rh (i:=j) (len:=L.length) (w:=(i':Int)) (wt:=(wn:Int)) (bf:=S.S0 (S.RS n ev) L j) (sm:=S.SD (S.RS n ev) L j) (kn:=kn) (ms:=(ms:Int)) (ev:=ev) (vals:=S.RT (S.RN n) (i':Int)) (vv:=vv) (z:=z) (x1:=x1) (y1:=y1) hz F (by rw[N];exact hel) P (by simp[St,LQo,LQi,sx,o,f,a,h127,h128,h7,h8,h9,h10,q,B,u]) (by simp[sx]) (by simp[sx,hel]) ?_;clear o f a h7 h8 h9 h10 q B u h128 h127;rintro t ⟨o,f,Y,Z,J,hk,a,h127,h128,h7,h8,h9,h10,q,B,u,-⟩;have M:S.S0 (S.RS n ev) L (j+1)=(wn:Int):=by rw[S.S0,TN (Nat.succ_ne_zero j),VP,D];exact A
  have h6:S.SD (S.RS n ev) L (j+1)=S.SD (S.RS n ev) L j+(wn:Int):=by
   have h1:(L.map (S.wW (S.RS n ev)))[j]?=some (wn:Int):=by rw[TK,D,<-A];rfl
   exact uQ h1
  have hn:=ha j (by omega);have w1:IntKind.wrap .i64 (S.SD (S.RS n ev) L j+(wn:Int))=S.SD (S.RS n ev) L (j+1):=by rw[h6,ap (by omega) (by omega)]
  by_cases c0:j=0
  ·subst c0;have K:S.S0 (S.RS n ev) L 0 = -1:=rfl;rw[K]at o;simp only[sz,simprocAttr,cg,o,J,f,w1];simp[St,LQo,sx,M,a,h127,h128,h7,h8,h9,h10,q,B,u]
  ·obtain⟨p,hp,-,h4⟩:=ae (l:=L) (j:=j - 1) (by omega);obtain⟨pi,pw,rfl,hl,hh,hg,I⟩:=Bh hr (E p h4);have hlt:=hR.at (show j - 1<j by omega) (O _ _ hp) (O _ _ D);have K:S.S0 (S.RS n ev) L j=(pw:Int):=by rw[S.S0,TN c0,hp];exact I
   have d2:(0:Int)<=(pw:Int):=by omega
   unfold S.SN at hlt;rw[A,I]at hlt;rw[K]at o;have d3:¬(pw:Int)<(wn:Int):=by omega
   by_cases c4:wn=pw
   ·subst c4;have d5:¬(i':Int)<=(pi:Int):=by omega
    have w3:IntKind.wrap .i64 ((j:Int) - 1)=((j - 1:Nat):Int):=by rw[ap (by omega) (by omega)];omega
    have z3:j - 1<(L.map ci).length:=by rw[TT];omega
    have z4:(L.map ci)[j - 1]?=some (ci (pi:Int)):=by rw[TK,hp];rfl
    simp only[sz,simprocAttr,cg,o,J,f,Y,Z,h10,w1,d2,Int.lt_irrefl,w3,rx,z3,z4,ci,d5];simp[St,LQo,sx,M,a,h127,h128,h7,h8,h9,h10,q,B,u]
   ·have d4:¬(wn:Int)=(pw:Int):=by omega
    simp only[sz,simprocAttr,cg,o,J,f,w1,d2,d3,d4];simp[St,LQo,sx,M,a,h127,h128,h7,h8,h9,h10,q,B,u]
 ·rintro t df g' ⟨rfl,rfl,⟨-,f,-,ht⟩⟩;have:S.SD (S.RS n ev) L L.length=(L.map (S.wW (S.RS n ev))).sum:=by unfold S.SD;rw[TX (by simp)]
  rw[this]at f;exact fin t ⟨f,ht⟩
theorem MC(h:j<n.nodes.length):(S.R7 n).take (j+1)=(S.R7 n).take j++[(j:Int)]:=by rw[Uh (by rw[uc];exact h)];congr 2;simp[S.R7]
theorem Rj{ev L:List Int}{b z x1 y1:AV}{ms i:Nat}{wn:Nat}(hm:∀h,Agg n NoP 0 h (.agg [XL n.grain,b]))(hr:NR n)(hN:SlR NoP 0 .nil n.nodes b)(hev:S.Sc n ev=true)(hR:IsSrt (S.RS n ev) R)(hL:L=R.take kk)(hms:S.R6 n ev=(ms:Int))(hm0:0<ms)(hm1:ms<=171992678400000000)
  (hz:SlR NoP 0 .nil ev z) (hx:SlR NoP 0 .nil L x1) (h0:L[0]?=some (i:Int)) (hwn:S.wW (S.RS n ev) (i:Int)=(wn:Int)) (hi:i<S.RR n) (hwb:wn<=167961600000000)
  (g2:g.h.get 2=W8 2 [[XL n.grain,b]]) (g3:g.h.get 3=W8 2 [[XL (S.RY wn ms).1,XL (S.RY wn ms).2]]) (hn:4<=g.nx)
  (ht:St t ((19,XL ((L.map (S.wW (S.RS n ev))).sum))::LQo z x1 y1 (kk:Int) (ms:Int))) :
  wp C0 1 none dM (fnQ C0 1 [.tm 6] λv _=>v=.bool true) t [] g:=by
 obtain⟨f,h7,h8,h9,h10,o,c,l,-⟩:=ht;have lN:=(hN.tree (h':=.nil) (TG 0)).len;have h3:=hr.l2;have rx:=λh=>(hx.tree (h':=h) (TG _)).ints;have lx:=hx.len;have A:=(TJ.1 h0).1;have kx0:∀g,xX 1 x1 (XL 0) g=.val (jF 1 x1 0 0):=λg=>Fq (rx g.h) (by simpa using A) g rfl;have x2:(L.map ci)[0]?=some (ci (i:Int)):=by rw[TK,h0];rfl
 have x3:0<(L.map ci).length:=by simpa using A
 have J:R[0]?=some (i:Int):=by rw[hL]at h0;have h1:=(TJ.1 h0).1;rw[T_]at h1;rwa [T7 (by omega)]at h0
 simp only[dM,sz,simprocAttr,h7,g2,RK,lN,iy];refine aI (m:=n.nodes.length) (by omega) (λj t df g'=>df=[]/\g'.h.get 2=W8 2 [[XL n.grain,b]]/\g'.h.get 3=W8 2 [[XL (S.RY wn ms).1,XL (S.RY wn ms).2]]/\4<=g'.nx/\∃u,Own g' 4 u 1 (((S.R7 n).take j).map ci)/\St t ((28,u)::(19,XL ((L.map (S.wW (S.RS n ev))).sum))::LQo z x1 y1 (kk:Int) (ms:Int)))
  ⟨rfl,g2,g3,hn,.nils,.inl ⟨rfl,rfl⟩,by simp[St,LQo,sx,f,h7,h8,h9,h10,o,c,l]⟩ (by simp[sx]) (by simp[sx]) (by decide) ?_ ?_ ?_
 ·rintro j t df g v s (rfl|rfl|rfl) ⟨a1,a2,M,a4,u,N,⟨b1,b2,O,Q,U,V,W,X,Y,-⟩⟩<;>exact⟨a1,a2,M,a4,u,N,by simp[St,LQo,sx,b1,b2,O,Q,U,V,W,X,Y]⟩
 ·clear g2 g3 hn f h7 h8 h9 h10 o c l;rintro j t df g Z ⟨rfl,g2,g3,hn,u,hu,⟨w,f,h7,h8,h9,h10,o,c,l,-⟩⟩ p y;have h2:((S.R7 n).take j).length=j:=by rw[T_,uc];omega
  simp only[sz,simprocAttr,w,p];refine bk (new:=[ci (j:Int)]) (hu.step (Fr.new _ _)) (by simp[sx,sy,ci]) (by simp<;>omega) (by simp[aQ];omega) λv2 g5 hv2 n5 f5 _ _=>?_;simp only[sz,simprocAttr];refine⟨⟨?_,?_,?_,v2,?_,by simp[St,LQo,sx,f,h7,h8,h9,h10,o,c,l]⟩,by simp[sx,y,p]⟩
  ·rw[f5 2 (by simp;omega) (λe=>by have:=(hu.lt e).1;omega),G.new_h,au _ _ _ (by omega),g2]
  ·rw[f5 3 (by simp;omega) (λe=>by have:=(hu.lt e).1;omega),G.new_h,au _ _ _ (by omega),g3]
  ·simp at n5;omega
  ·rw[MC Z,U_];simpa [ci] using hv2
 ·clear g2 g3 hn f h7 h8 h9 h10 o c l;rintro t df g ⟨rfl,g2,g3,hn,u,hu,⟨w,f,h7,h8,h9,h10,o,c,l,-⟩⟩;rw[TX (by rw[uc];exact TG _)]at hu;have hsl:SlR (λ_=>True) 0 g.h (S.R7 n) u:=hu.sl (α:=Int) (by rw[uc];omega) (RN (λa=>ax.2 rfl) _) λ_ _=>trivial;have K:S.Sf n ev (S.R7 n)=0:=Bo.2 ⟨⟨hr,hev⟩,Hh⟩;have B:S.R6 n ev≠0:=by omega
  have E:S.SA n ev (S.R7 n)=0:=by rw[S.SA,TO K,TN B]
  obtain⟨bv,bw⟩:=KY hr hR J;have H:S.S3 n ev (S.R7 n)=S.RT (S.RN n) (i:Int):=by rw[S.S3,TO E,bv]
  have I:S.SW n ev (S.R7 n)=S.RY wn ms:=by rw[S.SW,TO E,bw,hwn,hms];rfl
  simp only[iA,sz,simprocAttr,h7,g2,h8,w];refine bi (Pw (n:=n) (e:=ev) (vars:=S.R7 n) (by decide) (hm _) (hz.tree (TG 0)) hsl (by decide)) λr hrr=>?_;obtain⟨xa,rfl,D⟩:=J0 hrr;rw[I,E];rw[H]at D;simp only[sz,simprocAttr,h7,g2,h10,kx0,rx,x2,x3,ci,show ¬2=g.nx by omega];refine bi (A1 (d:=1) (by decide) (hm _) hr hi) ?_;rintro r ⟨vv,rfl,x⟩;have x:SlR NoP 0 .nil (S.RT (S.RN n) (i:Int)) vv:=IT.sl (k:=0) x .nil;have kq:=λg:G=>Ls (d:=1) (g:=g) (P:=NoP) (P2:=NoP) (k:=0) (k2:=0) (by decide) (D.tree (h':=g.h) (TG 0)) (x.tree (h':=g.h) (TG 0))
  by_cases c1:L.length=kk
  ·have q:(L.length:Int)=(kk:Int):=by omega
   simp only[sz,simprocAttr,lx,h9,h10,q,c,g3,Qx,PB,kq,decide_true,show ¬3=g.nx by omega]
  ·have q:¬(L.length:Int)=(kk:Int):=by omega
   have F:L=R:=by rw[hL]at c1 ⊢;rw[T_]at c1;rw[TX (by omega)]
   have C:(L.map (S.wW (S.RS n ev))).sum=(ms:Int):=by rw[F,Pm hr hR,hms]
   rw[C]at f;simp only[sz,simprocAttr,lx,h9,h10,q,f,l,c,g3,Qx,PB,kq,decide_true,show ¬3=g.nx by omega]
theorem vX{x:xn}{u1 ew ow:AV}{vs:List UInt8}{s:UInt8}{E O:List Int}{kb:Nat}(hx:Agg x NoP 0 .nil u1)
  (hv:vs.length=9) (hE:SlR NoP 0 .nil E ew) (hEr:Raw ew) (hO:SlR NoP 0 .nil O ow) (hOr:Raw ow) (hkb:kb<256) :
  ∃g',(I C0).call 1 11 [u1,.agg (vs.map u8v++[u8v s,ew,ow]),.int .u8 (kb:Int)] G.empty=.ok (.bool true) g':=by
 obtain⟨xs,rfl,qx⟩:=hx;obtain⟨h2,h3,e1,-⟩:=C9.1 qx;have h1:xs.length=3:=by rw[e1];rfl
 clear e1 h2 h3;obtain⟨AA,J⟩:∃AA,AA=vs.map u8v++[u8v s,ew,ow]:=⟨_,rfl⟩;have h4:AA.length=12:=by rw[J];simp[hv]
 have ldA:kU (W8 12 [AA]) 0 0 true 9 0=.val (.agg (vs.map u8v)):=by
  rw[J]
  match vs,hv with
  |[v0,v1,v2,v3,v4,v5,v6,v7,v8],_=>rfl
 rw[<-J];have key:=qj (C:=C0) (d:=1) (f:=11) («as»:=[.agg xs,.agg AA,.int .u8 (kb:Int)]) (g:=G.empty) (K:=λv g'=>v=.bool true) rV (by simp[fD]) ?_
 ·cases hc:(I C0).call 1 11 [.agg xs,.agg AA,.int .u8 (kb:Int)] G.empty with
  |fail=>rw[hc]at key;exact key.elim
  |ok v g'=>rw[hc]at key;exact⟨g',by rw[show v=.bool true from key]⟩
 simp only[sz,simprocAttr,fD];obtain⟨g0,hg0⟩:∃g0,g0=(G.empty.new (W8 xs.length [xs])).new (W8 AA.length [AA]):=⟨_,rfl⟩;rw[<-hg0];have f0:g0.h.get 0=W8 3 [xs]:=by rw[hg0,h1];simp[sx,RQ]
 have f1:g0.h.get 1=W8 12 [AA]:=by rw[hg0,h4];simp[sx,RQ]
 have A:g0.nx=2:=by rw[hg0];simp[sx]
 clear hg0;have ld0:kU (W8 3 [xs]) 0 0 true 3 0=.val (.agg xs):=by
  match xs,h1 with
  |[a,b,c],_=>rfl
 simp only[sz,simprocAttr,jg,HI,f0,ld0];refine bi (Oj (by decide) (Dl (P:=NoP) qx _)) ?_;rintro r ⟨n,Q,cn,rfl,N⟩;obtain⟨b,rfl,hN⟩:=ie.1 N;have hm:∀h,Agg n NoP 0 h (.agg [XL n.grain,b]):=λh=>Dl N h;have hg:=Q.l;have hr:=Q.nr;have M:∀x∈n.nodes,0<x.card:=λx hx=>by rcases Q.c x hx with h|h<;>omega
 simp only[sz,simprocAttr,f1,ldA,RQ,A,show ¬1=2 by omega];refine bi (Mp (m:=n) (by decide) hv (Dl (P:=NoP) N _) (by omega) M) ?_;rintro z ⟨ev,T,hz⟩;have hz:SlR NoP 0 .nil ev z:=IT.sl (k:=0) hz .nil;have u:S.RZ n ev=0:=iO.2 ⟨cA.2 hr,T⟩;have h7:ev.length=n.nodes.length:=by have h:=T;unfold S.Sc at h;simp only[TM,T9]at h;exact h.1
 have X:(1:Int)+(kb:Int) % 50=((1+kb % 50:Nat):Int):=by omega
 obtain⟨kk,Y⟩:∃kk,kk=1+kb % 50:=⟨_,rfl⟩;rw[<-Y]at X;have hf:1<=kk/\kk<=50:=by omega
 have w1:IntKind.wrap .i64 ((kb:Int) % 50)=(kb:Int) % 50:=ap (by omega) (by omega);have w2:IntKind.wrap .i64 ((kk:Nat):Int)=(kk:Int):=ap (by omega) (by omega);simp only[sz,simprocAttr,RQ,A,lZ .u8 (show (0:Int)<=(kb:Int) by omega) (show (0:Int)<50 by decide),w1,X,w2];refine bi (HN (n:=n) (e:=ev) (kn:=(kk:Int)) (by decide) (hm _) (hz.tree (TG 0))) ?_;rintro r ⟨R,hR,hW⟩;obtain⟨x1,y1,rfl,j,w⟩:=KN hW;have kB:=λg:G=>Mh (d:=1) (g:=g) (by decide) (hm g.h) (hz.tree (h':=g.h) (TG 0));simp only[sz,simprocAttr,RQ,A,kB];have Z:=nU hr ev;obtain⟨ms,q⟩:=TP Z.1;rw[q]at Z
 by_cases c0:S.R6 n ev=0
 ·have o:S.Sm n ev (kk:Int)=7:=by rw[S.Sm,TO u,TO (by omega),TO c0]
  have W:S.Sv n ev=7:=by rw[S.Sv,TO u,TO c0]
  have hL:S.SJ n ev (kk:Int) R=[]:=by rw[S.SJ,TN (by rw[o];decide)]
  rw[hL]at j w;have lx:=j.len;have ly:∀g:G,cH .slice y1 g=.val (XL 0):=λg=>w.len g;simp only[sz,simprocAttr,o,W,lx,ly,Vq]
  rfl
 have H:0<ms:=by omega
 have o:S.Sm n ev (kk:Int)=0:=by rw[S.Sm,TO u,TO (by omega),TN c0]
 have W:S.Sv n ev=0:=by rw[S.Sv,TO u,TN c0]
 have hR:=hR o;obtain⟨L,y⟩:∃L,L=R.take kk:=⟨_,rfl⟩;have hL:S.SJ n ev (kk:Int) R=L:=by rw[S.SJ,TO o,y];rfl
 rw[hL]at j w;have h9:=MY hr (n:=n) (e:=ev) c0;obtain⟨r0,U⟩:∃r0,R[0]?=some r0:=by
  obtain⟨p,hp⟩:=List.exists_mem_of_ne_nil _ h9;have:=(hR.mem p).2 hp;cases R with
  |nil=>cases this
  |cons a R=>exact⟨a,rfl⟩
 have B:L[0]?=some r0:=by rw[y,T7 (by omega)];exact U
 obtain⟨i,wn,rfl,hi,hh,hb,V⟩:=Bh hr ((hR.mem r0).1 (TL U));rw[qN]at hi;have F:=Jq hR U;have h6:S.SS n ev=(i:Int):=by rw[S.SS,TO W,F]
 have h5:S.SK n ev=S.RY wn ms:=by rw[S.SK,TO W,F,V,q];rfl
 have h8:S.S2 n ev=(ms:Int):=by rw[S.S2,TO u,q]
 have kM:=λg:G=>Mi (d:=1) (g:=g) (P:=NoP) (k0:=0) (by decide) (hm g.h) (hz.tree (h':=g.h) (TG 0));rw[u,h8]at kM;have lx:=j.len;have lyl:(S.Sg n ev L).length=L.length:=by simp[S.Sg]
 have ly:∀g:G,cH .slice y1 g=.val (XL (L.length:Int)):=λg=>by have:=w.len g;rwa [lyl]at this
 have rx:=λh=>(j.tree (h':=h) (TG _)).ints;have ry:=λh=>(w.tree (h':=h) (TG _)).qs;have D:=(TJ.1 B).1;have he:L.length<=kk:=by rw[y,T_];omega
 have kx0:∀g,xX 1 x1 (XL 0) g=.val (jF 1 x1 0 0):=λg=>Fq (rx g.h) (by simpa using D) g rfl;have ky0:∀g,xX 2 y1 (XL 0) g=.val (jF 2 y1 0 0):=λg=>JY (ry g.h) (by simpa [S.Sg] using D);have x2:(L.map ci)[0]?=some (ci (i:Int)):=by rw[TK,B];rfl
 have x3:0<(L.map ci).length:=by simpa using D
 have hd:S.wq n ev (i:Int)=S.RY wn ms:=by rw[S.wq,V,q];rfl
 have y3:0<((S.Sg n ev L).map wcq).length:=by simpa [S.Sg] using D
 have y2:((S.Sg n ev L).map wcq)[0]?=some (wcq (S.RY wn ms)):=by rw[TK,S.Sg,TK,B,<-hd];rfl
 have ha:vN y1=true:=Ej (ry .nil) y3;have d1:¬(ms:Int)<1:=by omega
 have d2:¬(L.length:Int)<1:=by omega
 have d3:¬(kk:Int)<(L.length:Int):=by omega
 rw[o,W,h6,h5];simp only[sz,simprocAttr,kM,RQ,A,lx,ly,d1,d2,d3,kx0,ky0,rx,ry,x2,x3,y2,y3,ha,ci,wcq,Qx,Lr];refine Ri (n:=n) (ev:=ev) (R:=R) (L:=L) (b:=b) (z:=z) (x1:=x1) (y1:=y1) (kn:=(kk:Int)) (kk:=kk) (ms:=ms) hm hr h7 hR y (by omega) q H (by omega) hz j w (by simp[RQ,A]) (by simp[St,LQo,sx,A]) (by simp[sx]) (by simp[sx]) ?_;intro t ht;simp only[sz,simprocAttr];exact Rj (n:=n) (ev:=ev) (R:=R) (L:=L) (b:=b) (z:=z) (x1:=x1) (y1:=y1) (kk:=kk) (ms:=ms) (i:=i) (wn:=wn) hm hr hN T hR y q H (by omega) hz j B V hi hb (by simp[RQ,A]) (by simp[RQ,A]) (by simp[A]) ht
end
end Hx
section
namespace Hx
open Go Go.RowKit Go.ChangeShapes Go.WideShapes
def uW(P:Program):List Field->Nat->Option Nat
 |[],k=>some k
 |f::fs,k=>if f.offset=k then uW P fs (k+P.cellsOf f.type) else none
def vL(P:Program):Nat->TypeId->Bool
 |0,_=>false
 | n+1,t=>match P.underlying t with
  |some .bool=>true
  |some (.int _)=>true
  |some (.slice e)=>decide (0<P.cellsOf e)&&vL P n e
  |some (.struct fs)=>(uW P fs.toList 0 == some (P.cellsOf t))&&fs.toList.all (λf=>vL P n f.type)
  |some (.array m e)=>decide (m*P.cellsOf e=P.cellsOf t)&&vL P n e
  |_=>false
def Sh(P:Program):Nat->TypeId->List AV->Prop
 |0,_,_=>False
 | n+1,t,xs=>match P.underlying t with
  |some .bool=>∃b,xs=[.bool b]
  |some (.int k)=>∃z,xs=[.int k z]/\(Lit.int k z).wf=true
  |some (.slice e)=>xs=[.nils]\/∃rows,xs=[.tsl 0 (P.cellsOf e) rows]/\rows.length<9223372036854775808/\∀row∈rows,Sh P n e row
  |some (.struct fs)=>∃xss,xs=xss.flatten/\All2 (λ(f:Field) ys=>Sh P n f.type ys) fs.toList xss
  |some (.array m e)=>∃xss:List (List AV),xs=xss.flatten/\xss.length=m/\∀ys∈xss,Sh P n e ys
  |_=>False
def Ez(P:Program)(w:World)(n:Nat)(t:TypeId)(xs:List AV)(cs:List Value):Prop :=
 RVs0 w xs cs/\(∀y∈xs,y.one=true/\Closed y)/\Sh P n t xs
theorem RVs0.append{w:World}{xs ys:List AV}{cs ds:List Value}(h:RVs0 w xs cs)(h':RVs0 w ys ds):RVs0 w (xs++ys) (cs++ds):=by
 refine⟨by rw[Vl,Vl,h.1,h'.1],λi x v hx hv=>?_⟩;rcases Vn i xs.length with hi|hi
 ·rw[T5 hi]at hx;rw[T5 (by rw[<-h.1];exact hi)]at hv;exact h.2 i x v hx hv
 ·rw[T0 hi]at hx;rw[T0 (by rw[<-h.1];exact hi),<-h.1]at hv;exact h'.2 _ x v hx hv
theorem HR(b o n:Nat):(⟨b,o,none⟩:Addr).add n=adr b (o+n):=by
 unfold Addr.add
 split
 ·rename_i h;subst h;rfl
 ·rfl
variable {H:Type}{enc:TypeId×Value->H}{P:Program}{w:World}
theorem Cz:∀{fl:List Field} {k K:Nat},uW P fl k=some K->k<=K
 |[],k,K,h=>by injection h with h;omega
 | f::fl,k,K,h=>by
  unfold uW at h
  split at h
  ·have:=Cz h;omega
  ·cases h
theorem MV{n:Nat}{cs:List Value}:∀{fl:List Field} {k K:Nat},uW P fl k=some K ->
  (∀f∈fl,∃xs,Ez P w n f.type xs ((cs.drop f.offset).take (P.cellsOf f.type))) ->
  ∃xss,All2 (λ(f:Field) ys=>Sh P n f.type ys) fl xss/\RVs0 w xss.flatten ((cs.drop k).take (K - k))/\∀y∈xss.flatten,y.one=true/\Closed y
 | [],k,K,h,_=>by injection h with h;subst h;exact⟨[],trivial,by rw[UD,W5];exact⟨rfl,λi x v hx=>by simp at hx⟩,λy hy=>by simp at hy⟩
 | f::fl,k,K,h,hg=>by
  unfold uW at h
  split at h
  ·rename_i ho;subst ho;obtain⟨xs,h1,h2,h3⟩:=hg f (by simp);obtain⟨xss,a1,a2,a⟩:=MV h λf' hf'=>hg f' (by simp[hf']);have b:=Cz h;refine⟨xs::xss,⟨h3,a1⟩,?_,λy hy=>?_⟩
   ·have e:(cs.drop f.offset).take (K - f.offset)=(cs.drop f.offset).take (P.cellsOf f.type)++(cs.drop (f.offset+P.cellsOf f.type)).take (K - (f.offset+P.cellsOf f.type)):=by rw[show K - f.offset=P.cellsOf f.type+(K - (f.offset+P.cellsOf f.type)) by omega,List.take_add,U4]
    rw[e,VE];exact h1.append a2
   ·rw[VE,Uk]at hy;rcases hy with hy|hy
    ·exact h2 y hy
    ·exact a y hy
  ·cases h
theorem HT{n:Nat}{e:TypeId}{cs:List Value}:∀{m k:Nat},
  (∀i,i<m->∃xs,Ez P w n e xs ((cs.drop ((k+i)*P.cellsOf e)).take (P.cellsOf e))) ->
  ∃xss:List (List AV),xss.length=m/\(∀ys∈xss,Sh P n e ys)/\RVs0 w xss.flatten ((cs.drop (k*P.cellsOf e)).take (m*P.cellsOf e))/\∀y∈xss.flatten,y.one=true/\Closed y
 |0,k,_=>⟨[],rfl,λy hy=>by simp at hy,by rw[WP,W5];exact⟨rfl,λi x v hx=>by simp at hx⟩,λy hy=>by simp at hy⟩
 | m+1,k,hg=>by
  obtain⟨xs,h1,h2,h3⟩:=hg 0 (by omega);rw[Vu]at h1;obtain⟨xss,a0,a1,a2,h⟩:=HT (m:=m) (k:=k+1) λi hi=>by have:=hg (i+1) (by omega);rwa [show k+(i+1)=k+1+i by omega]at this
  refine⟨xs::xss,by simp[a0],λys hy=>?_,?_,λy hy=>?_⟩
  ·rcases Us.1 hy with rfl|hy
   ·exact h3
   ·exact a1 ys hy
  ·have e:(cs.drop (k*P.cellsOf e)).take ((m+1)*P.cellsOf e)=(cs.drop (k*P.cellsOf e)).take (P.cellsOf e)++(cs.drop ((k+1)*P.cellsOf e)).take (m*P.cellsOf e):=by rw[show (m+1)*P.cellsOf e=P.cellsOf e+m*P.cellsOf e by rw[Ub];omega,List.take_add,U4,Ub,UN]
   rw[e,VE];exact h1.append a2
  ·rw[VE,Uk]at hy;rcases hy with hy|hy
   ·exact h2 y hy
   ·exact h y hy
theorem Ma:∀(n:Nat) (t:TypeId),vL P n t=true->∀(fuel:Nat) (cs:List Value) (x:DataW H×List MemPlace),DataW.trod enc P w 0 (λ_=>true) true fuel t cs=some x->∃xs,Ez P w n t xs cs:=by
 intro n
 induction n with
 |zero=>intro t h;simp[vL]at h
 | succ n ih =>
  intro t h fuel cs x hx;unfold vL at h
  split at h
  ·rename_i hu;obtain⟨b,rfl,-⟩:=DataW.trod_bool hu hx;refine⟨[.bool b],⟨rfl,λi x v h1 h2=>?_⟩,λy hy=>?_,?_⟩
   ·cases i with
    |zero=>simp at h1 h2;subst h1;subst h2;exact .bool _ _
    |succ i=>simp at h1
   ·simp at hy;subst hy;exact⟨rfl,.bool _⟩
   ·unfold Sh;rw[hu];exact⟨b,rfl⟩
  ·rename_i k hu;obtain⟨z,rfl,-,N⟩:=DataW.trod_int hu hx;refine⟨[.int k z],⟨rfl,λi x v h1 h2=>?_⟩,λy hy=>?_,?_⟩
   ·cases i with
    |zero=>simp at h1 h2;subst h1;subst h2;exact .int _ _ _
    |succ i=>simp at h1
   ·simp at hy;subst hy;exact⟨rfl,.int _ _⟩
   ·unfold Sh;rw[hu];exact⟨z,rfl,N⟩
  ·rename_i e hu;rw[TM,T9]at h;obtain⟨B,hp⟩:=h;rcases DataW.trod_slice hu hx with⟨rfl,-⟩|⟨a,len,cap,elems,rest,m,-,rfl,-,-,L,U,R,r,-,-⟩
   ·refine⟨[.nils],⟨rfl,λi x v h1 h2=>?_⟩,λy hy=>?_,?_⟩
    ·cases i with
     |zero=>simp at h1 h2;subst h1;subst h2;exact .nils _
     |succ i=>simp at h1
    ·simp at hy;subst hy;exact⟨rfl,.nils⟩
    ·unfold Sh;rw[hu];exact .inl rfl
   ·have each:∀i,i<len->∃xs vs,w.cells? 0 (a.add (i*P.cellsOf e)) (P.cellsOf e)=some vs/\Ez P w n e xs vs:=by intro i hi;have:=r i hi;rw[TH (show i<elems.length by omega),Option.bind_eq_some_iff]at this;obtain⟨vs,h1,h2⟩:=this;obtain⟨xs,hg⟩:=ih e hp _ _ _ h2;exact⟨xs,vs,h1,hg⟩
    let rowf:Nat->List AV:=λi=>if hi:i<len then Classical.choose (each i hi) else []
    let valf:Nat->List Value:=λi=>if hi:i<len then Classical.choose (Classical.choose_spec (each i hi)) else []
    have c:∀i,i<len->w.cells? 0 (a.add (i*P.cellsOf e)) (P.cellsOf e)=some (valf i)/\Ez P w n e (rowf i) (valf i):=by intro i hi;have:=Classical.choose_spec (Classical.choose_spec (each i hi));simpa only[rowf,valf,dif_pos hi] using this
    have d:∀(i:Nat) (row:List AV),((List.range len).map rowf)[i]?=some row->i<len/\row=rowf i:=by
     intro i row h1;rw[TK]at h1;rcases Vn i len with hi|hi
     ·rw[VD hi]at h1;injection h1 with h1;exact⟨hi,h1.symm⟩
     ·rw[Ut (by simpa using hi)]at h1;cases h1
    refine⟨[.tsl 0 (P.cellsOf e) ((List.range len).map rowf)],⟨rfl,λi x v h1 h2=>?_⟩,λy hy=>?_,?_⟩
    ·cases i with
     |succ i=>simp at h1
     | zero =>
      simp at h1 h2;subst h1;subst h2;rcases WY len with h0|h0
      ·subst h0;exact .tnil 0 0 _ a cap (TG _)
      ·obtain⟨b,o,spot⟩:=a;have E:=World.cells?_some (c 0 h0).1;have M:(valf 0)[0]?=some (valf 0)[0]:=TH (by rw[E.2.1];exact B);have C:=E.2.2 0 B;rw[M]at C;have D:spot=none:=by simpa [Addr.add] using World.cell?_spot C
       subst D;have cellat:∀i j row x,((List.range len).map rowf)[i]?=some row->row[j]?=some x->∃v,(valf i)[j]?=some v/\w.cell? (adr b (o+i*P.cellsOf e+j))=some v/\RV w gm0 av0 0 x v:=by
        intro i j row x hr l;obtain⟨hi,rfl⟩:=d i row hr;obtain⟨O,q2⟩:=c i hi;have V:j<(rowf i).length:=(TJ.1 l).1;have u:j<(valf i).length:=by rw[<-q2.1.1];exact V
        have F:=World.cells?_some O;have p:=F.2.2 j (by rw[<-F.2.1];exact u);rw[TH u]at p;refine⟨_,TH u,?_,q2.1.2 j x _ l (TH u)⟩;rw[HR,show adr b (o+i*P.cellsOf e)=(⟨b,o+i*P.cellsOf e,none⟩:Addr) from rfl,HR]at p;exact p
       have hb:b<w.heap.size:=by have:=G4 C;simpa [Addr.add] using this
       have G:((List.range len).map rowf).length=len:=by simp
       have key:=RV.tsl (w:=w) (γ:=gm0) (A:=av0) 0 0 (P.cellsOf e) ((List.range len).map rowf) b o cap (λi j=>(valf i)[j]?.getD undef) (TG _) (by rw[G];exact L) hb (Rm b) (λh=>h)
        (λi row hr=>by
         obtain⟨hi,rfl⟩:=d i row hr;obtain⟨O,q2⟩:=c i hi;rw[q2.1.1,(World.cells?_some O).2.1])
        (λi j row x hr l=>by
         obtain⟨hi,rfl⟩:=d i row hr;exact ((c i hi).2.2.1 x (TL l)).1)
        (λi j row x hr l=>by
         obtain⟨v,Q,S,T⟩:=cellat i j row x hr l;rw[S,Q];rfl)
        (λi j row x hr l=>by
         obtain⟨v,Q,S,T⟩:=cellat i j row x hr l;rw[Q];exact T)
        (λrow hr x hx=>by
         obtain⟨i,hi⟩:=Ua hr;obtain⟨s,rfl⟩:=d i row hi;exact ((c i s).2.2.1 x hx).2)
       rw[G]at key;exact key
    ·simp only[UX]at hy;subst hy;refine⟨rfl,.tsl _ _ _ λrow hr x hx=>?_⟩;obtain⟨i,hi⟩:=Ua hr;obtain⟨s,rfl⟩:=d i row hi;exact ((c i s).2.2.1 x hx).2
    ·unfold Sh;rw[hu];refine .inr ⟨_,rfl,?_,λrow hr=>?_⟩
     ·rw[TT,List.length_range];have:maxLen<9223372036854775808:=by decide
      omega
     ·obtain⟨i,hi⟩:=Ua hr;obtain⟨s,rfl⟩:=d i row hi;exact (c i s).2.2.2
  ·rename_i fs hu;rw[TM]at h;obtain⟨hc,hp⟩:=h;have hc:uW P fs.toList 0=some (P.cellsOf t):=eq_of_beq hc;obtain⟨ys,m,-,-,hl,I,r⟩:=DataW.trod_struct hu hx;obtain⟨xss,a1,a2,J⟩:=MV (w:=w) (n:=n) (cs:=cs) hc λf hf=>by
    obtain⟨i,hi,e⟩:=Vk.1 hf;have K:fs[i]?=some f:=by rw[<-WG,TH hi,e]
    have:=r i f K;rw[TH (show i<ys.length by rw[I];simpa using hi)]at this;exact ih f.type (Ue.1 hp f hf) _ _ _ this
   rw[VI,VY,<-hl,Ur]at a2;refine⟨xss.flatten,a2,J,?_⟩;unfold Sh;rw[hu];exact⟨xss,rfl,a1⟩
  ·rename_i m e hu;rw[TM,T9]at h;obtain⟨hc,hp⟩:=h;obtain⟨ys,q,-,-,hl,I,r⟩:=DataW.trod_array hu hx;obtain⟨xss,a0,a1,a2,J⟩:=HT (w:=w) (n:=n) (e:=e) (cs:=cs) (m:=m) (k:=0) λi hi=>by have:=r i hi;rw[TH (show i<ys.length by omega)]at this;rw[Uy];exact ih e hp _ _ _ this
   rw[WP,VI,hc,<-hl,Ur]at a2;refine⟨xss.flatten,a2,J,?_⟩;unfold Sh;rw[hu];exact⟨xss,rfl,a0,a1⟩
  ·cases h
theorem QW{n:Nat}{t:TypeId}{xs:List AV}(hu:P.underlying t=some (.int .i64))(h:Sh P n t xs):∃x:Int,Rp.rp NoP 0 .nil x xs:=by
 cases n with
 |zero=>exact h.elim
 | succ n =>
  unfold Sh at h;rw[hu]at h;obtain⟨z,rfl,-⟩:=h;exact⟨z,ax.2 rfl⟩
theorem ny{n:Nat}{t:TypeId}{xs:List AV}(hu:P.underlying t=some (.int .u8))(h:Sh P n t xs):∃x:UInt8,Rp.rp NoP 0 .nil x xs:=by
 cases n with
 |zero=>exact h.elim
 | succ n =>
  unfold Sh at h;rw[hu]at h;obtain⟨z,rfl,hw⟩:=h;simp only[Lit.wf,IntKind.min,IntKind.max,IntKind.signed,IntKind.bits,TM]at hw;refine⟨UInt8.ofNat z.toNat,gT.2 ?_⟩;have h1:0<=z:=by simpa using hw.1
  have h2:z<=255:=by simpa using hw.2
  have h3:(UInt8.ofNat z.toNat).toNat=z.toNat:=UInt8.toNat_ofNat_of_lt' (by show z.toNat<256;omega);rw[h3,Int.toNat_of_nonneg h1]
theorem zw{α:Type} [Rp α]{n:Nat}{t e:TypeId}{xs:List AV}(hu:P.underlying t=some (.slice e))(hsz:P.cellsOf e=Rp.sz α)(hel:∀ys,Sh P n e ys->∃y:α,Rp.rp NoP 0 .nil y ys)(h:Sh P (n+1) t xs) :
  ∃l:List α,Rp.rp NoP 0 .nil l xs:=by
 unfold Sh at h;rw[hu]at h;rcases h with rfl|⟨rows,rfl,hl,hr⟩
 ·exact⟨[],.nils,rfl,by simp,rfl⟩
 ·have:∀rows:List (List AV),(∀row∈rows,Sh P n e row)->∃l:List α,All2 (Rp.rp NoP 0 .nil) l rows:=by
   intro rows
   induction rows with
   |nil=>intro _;exact⟨[],trivial⟩
   | cons r rows ih =>
    intro h;obtain⟨y,k⟩:=hel r (h r (by simp));obtain⟨l,hl⟩:=ih λrow hrow=>h row (by simp[hrow]);exact⟨y::l,k,hl⟩
  obtain⟨l,ha⟩:=this rows hr;exact⟨l,_,rfl,by rw[ha.len];exact hl,TG _,.inl hsz,ha⟩
theorem Nl{n m:Nat}{t e:TypeId}{xs:List AV}(hu:P.underlying t=some (.array m e))(h:Sh P (n+1) t xs):∃xss:List (List AV),xs=xss.flatten/\xss.length=m/\∀ys∈xss,Sh P n e ys:=by unfold Sh at h;rw[hu]at h;exact h
theorem uj{n:Nat}{t:TypeId}{fs:Array Field}{xs:List AV}(hu:P.underlying t=some (.struct fs))(h:Sh P (n+1) t xs):∃xss,xs=xss.flatten/\All2 (λ(f:Field) ys=>Sh P n f.type ys) fs.toList xss:=by unfold Sh at h;rw[hu]at h;exact h
end Hx
end
namespace Hx
open Go
noncomputable section
variable {g:G}{l e R:List Int}{d kk j:Nat}{n:Net}{i:Int}{v:AV}{t:T}{Q:QT}
end
end Hx
