/- A part of the proof: what the functions of the chapter compute. -/
import Derived.Test.YteaikmdilmfbeaaGreatHx8
set_option linter.all false
set_option maxRecDepth 20000
set_option maxHeartbeats 8000000
namespace Hx
open Go
noncomputable section
variable {g g':G}{n:Net}{vars e l b cs vals:List Int}{d i k j k1 p k2:Nat}{L proof:List (List Int)}{v out w u z:AV}{t:T}{zs:List AV}{Q:QT}{x m c:Int}{K:AV->G->Prop}{rows:List (List AV)}{P1 P P2:Nat->Prop}{h:H}{D:ADf->Prop}
theorem wD(h:S.OM n vars l=true):l.length<=vars.length/\InC ((S.OA (S.Oz n) vars).take l.length) l:=by
 have k:(S.OA (S.Oz n) vars).length=vars.length:=by simp[S.OA]
 rw[S.OM,Qt]at h;have h1:l.length<=vars.length:=by simpa using h.1
 refine⟨h1,xg (by rw[QZ];omega) λi a b ha hb=>?_⟩;have hi:i<l.length:=(Qs.1 hb).1;rw[Sr,Qw hi]at ha;have:=QB.1 h.2 i (QE.2 hi);unfold S.Pv at this;rw[hb,ha]at this;simpa using this
theorem qw(p:Nat->Nat)(a N:Nat):S.OQ p a 0 N=(List.range N).map λi=>((p i:Nat):Int):=by unfold S.OQ;refine RC λi _=>?_;rw[Qu (by omega)];rfl
theorem K7{I H:Nat}(hb:proof[i]?=some b)(hI:S.OC (cs.take b.length) b=(I:Int))(hH:S.OB (cs.drop b.length)=(H:Int))(N:Nat) :
  S.OQ (S.OG cs (proof.take i)) (I*H) H N=S.OQ (S.OG cs (proof.take (i+1))) 0 0 N:=by
 rw[qw];unfold S.OQ;refine RC λj _=>?_;have hi:=(Qs.1 hb);rw[QG hi.1,hi.2,IQ];have:(S.O5 cs b j=true)=(I*H<=j/\j<I*H+H):=by unfold S.O5;rw[hI,hH,QM];refine propext ⟨λh=>⟨?_,?_⟩,λh=>⟨?_,?_⟩⟩<;>omega
 simp only[this]
theorem NG(hw:SlR NoP k .nil l w)(h1:Sl1 w){c:Nat}(hc:c<=l.length) :
  ∃w',(∀g,kG 1 w (some (T8 (c:Int))) none g=.val w')/\SlR NoP k .nil (l.drop c) w':=by
 by_cases hne:l=[]
 ·subst hne;have:c=0:=by simpa using hc
  subst this;have hl:=hw.1;have h:=hw.2;unfold SlV at h
  split at h
  ·exact⟨.nils,λg=>rfl,hl,rfl⟩
  ·exact⟨.esl,λg=>rfl,hl,rfl⟩
  ·rename_i t s rows;obtain⟨h0,-,h2⟩:=h;have hs:=h1 t s rows rfl;subst hs;have:rows=[]:=by have:=h2.len;simpa using this.symm
   subst this;exact⟨.tsl t 1 [],λg=>rfl,hl,h0,.inl rfl,trivial⟩
  ·exact h.1.elim
  ·exact h.elim
 ·exact Mn hw hne hc
def LDv(B:Nat)(cv u pv:AV)(np:Nat):List (Nat×AV):=[(1,T9 B),(2,cv),(3,u),(21,pv),(22,T8 (np:Int))]
theorem G_[XOc]{oth mw vals:List Int}{q vv pv:AV}{KP:AV->G->Prop}(hd:0<d)(hr:NR n)(hq:mr n vars oth mw m k q)(hp:S.OF vars (n.nodes.length:Int)=true)(hpv:∀h,SlR NoP k h proof pv)(hbeg:proof.all (S.OM n vars)=true)
  (kk:(∀i,i<S.nc (S.OA (S.Oz n) vars)->S.OG (S.OA (S.Oz n) vars) proof i=1)->∀g',Fr g g'->K (.tup []) g') (kp:¬(∀i,i<S.nc (S.OA (S.Oz n) vars)->S.OG (S.OA (S.Oz n) vars) proof i=1)->∀v g',rU v->Fr g g'->KP v g') :
  CallsP C0 d 75 [.agg [q,vv,pv]] g K KP:=by
 obtain⟨rows,r1,r2,r3,r4⟩:=pJ (hpv .nil);have hn:=hq;obtain⟨t0,b7,vw,ow,ww,e0,ht,hb,hv,ho,k5⟩:=hn;have k2:=hr.l2;have k4:=bH hp (by omega);have O:=aZ hp;have R:=bF (ps:=vars) hr.cs (λp hpm=>by rw[aw];exact O p hpm);have k3:(S.OA (S.Oz n) vars).length=vars.length:=by simp[S.OA]
 have hc:CsOk (S.OA (S.Oz n) vars):=⟨R,by omega⟩;obtain⟨N1,N2,N3⟩:=hc.nc;obtain⟨cs,e⟩:∃cs,cs=S.OA (S.Oz n) vars:=⟨_,rfl⟩;obtain⟨N,hN⟩:∃N,N=S.nc (S.OA (S.Oz n) vars):=⟨_,rfl⟩;rw[<-hN]at kk kp N1 N2 N3;refine rT nW (by simp[dR]) ?_;unfold dR;dsimp only;refine aV (by kernel_rfl) ?_;simp only[sz,simprocAttr];obtain⟨g1,C⟩:∃g1,g1=g.new (Tq 3 [[q,vv,pv]]):=⟨_,rfl⟩;rw[<-C];have hl:∀g:G,bY .slice pv g=.val (T8 (proof.length:Int)):=λg=>(hpv .nil).len g;obtain⟨B,hB⟩:∃B,B=g.nx:=⟨_,rfl⟩;rw[<-hB];have g0:g1.h.get B=Tq 3 [[q,vv,pv]]:=by rw[C,hB];simp[OE]
 have F:Fr g g1:=by rw[C];exact Fr.new _ _
 have h7:g1.nx=B+1:=by rw[C,hB];rfl
 clear C;have ld0:bB (Tq 3 [[q,vv,pv]]) 0 0 false 1 0=.val q:=rfl;have ld2:bB (Tq 3 [[q,vv,pv]]) 0 0 false 1 2=.val pv:=rfl;have he:AS 2 q=.val (.tptr t0 6 [[T8 n.grain,b7,vw,ow,ww,T8 m]] 0 2):=by rw[e0];exact br _ _ _ _ _ _
 have hk:vR q=.val q:=by rw[e0];rfl
 unfold gm;rw[nG];show wp C0 d none _ _ _ _ _;simp only[sz,simprocAttr,g0,ld0,hk,he,aP];refine bL (yM hd hq O (hv.tree (Qq _)) (by omega)) λcv hcv=>?_;rw[<-e]at hcv;have M:∀h,SlR NoP 0 h cs cv:=λh=>hcv.1.tree (Qq 0);have hw:S.Pd cs=(N:Int):=by rw[e,lj R (by omega),<-N3]
 have ks:=λg:G=>rP (d:=d) (g:=g) hd (M g.h);rw[hw]at ks;simp only[sz,simprocAttr];rw[j4];refine aV (by kernel_rfl) ?_;simp only[sz,simprocAttr,ks];refine wO (b:=g1.nx) (n:=N) (by unfold aS;omega) (by unfold aS;omega) (Qq _) λu g2 hu n2 f2 v2=>?_;simp only[sz,simprocAttr];rw[nG];refine aV (by kernel_rfl) ?_;have gB2:g2.h.get B=Tq 3 [[q,vv,pv]]:=by rw[f2 B (by omega),g0]
 simp only[sz,simprocAttr,gB2,ld2,hl];rw[pQ,rN];unfold fJ fK;refine pP (m:=proof.length) (hpv .nil).1 (λj t df g'=>df=[]/\St t (LDv B cv u pv proof.length)/\Own g' (B+1) u 1 ((S.OQ (S.OG cs (proof.take j)) 0 0 N).map ci)/\(∀i,i<N->S.OG cs (proof.take j) i<=1)/\g'.nx=g2.nx/\∀i,vid u≠some i->g'.h.get i=g2.h.get i)
  ⟨rfl,by simp[St,LDv,sx],?_,λi _=>by simp[S.OG],rfl,λ_ _=>rfl⟩ (by simp[sx]) (by simp[sx]) (by decide)
  (by rintro j t df g v s (rfl|rfl|rfl) ⟨a1,⟨b1,b2,b3,b4,b5,-⟩,c⟩<;>exact⟨a1,by simp[St,LDv,sx,b1,b2,b3,b4,b5],c⟩) ?_ ?_
 ·rw[h7]at hu;have:(S.OQ (S.OG cs (List.take 0 proof)) 0 0 N).map ci=List.replicate N [T8 0]:=by
   rw[qw];refine RW λi=>?_
   by_cases h:i<N<;>simp[h,S.OG,ci]
  rw[this];exact hu
 ·rintro i t df g3 hi ⟨rfl,⟨h1,h2,h3,w,A,-⟩,J,E,n3,U⟩ D hy;obtain⟨b,hb,-,ha⟩:=ae hi;obtain⟨z,z1,z2,hz⟩:=r3 i b hb;obtain⟨h9,P⟩:=wD (QB.1 hbeg b ha);have lz:∀g:G,bY .slice z g=.val (T8 (b.length:Int)):=λg=>hz.len g;refine aV (by kernel_rfl) ?_;simp only[sz,simprocAttr,w,D,r1,z1,z2];obtain⟨y,y1,y2⟩:=NG (c:=b.length) (M .nil) hcv.2 (by rw[e];omega);have ks2:=λg:G=>rP (d:=d) (g:=g) hd (y2.tree (h':=g.h) (Qq 0));refine aV (by kernel_rfl) ?_;simp only[sz,simprocAttr,h2,lz,Sn,Sd,y1,ks2];refine aV (by kernel_rfl) ?_;simp only[sz,simprocAttr];rw[pQ,rN];have Q:∀c∈cs,1<=c/\c<=4:=by rw[e];exact R
  have hcl:cs.length<=8:=by rw[e];omega
  rw[<-e]at P;have hs:=lj (l:=cs.drop b.length) (λc h=>Q c (Sz h)) (by rw[Si];omega);obtain⟨i0,i1⟩:=bz (λc h=>Q c (Q8 h)) P;have hm:S.OB cs=S.OB (cs.take b.length)*S.OB (cs.drop b.length):=by rw[<-ug,Rk]
  have k1:1<=S.OB (cs.drop b.length):=by have:=(CsOk.mk (cs:=cs.drop b.length) (λc h=>Q c (Sz h)) (by rw[Si];omega)).nc;omega
  obtain⟨I,hI⟩:=QD i0;obtain⟨H,hH⟩:=QD (show 0<=S.OB (cs.drop b.length) by omega);have h8:I*H+H<=N:=by
   have:(((I+1)*H:Nat):Int)<=(N:Int):=by rw[N3,<-e,hm,hH,SA];refine RD ?_ (by omega);rw[hI]at i1;omega
   have h2:(I+1)*H=I*H+H:=by rw[QX,RH]
   omega
  have V:=K7 (cs:=cs) hb hI hH N;rw[hs,hH];refine Nh (I:=I) (H:=H) (N:=N) (p:=S.OG cs (proof.take i)) (b:=b) (Bu:=B+1) (B:=B) (vv:=vv) (pv:=pv) (cv:=cv) (u:=u) (z:=z) (i:=i) (np:=proof.length) hd hr hq hp hz h9 (by rw[<-e];exact P) (by rw[<-e];exact hI) h8 N2 E (by rw[U B (by rw[v2];intro h;injection h with h;omega),gB2]) (by omega) ?_ (by simp[St,LCv,sx,h1,h2,h3,w,A,D]) (by simp[sx]) (by simp[sx]) ?_ ?_
  ·have:S.OQ (S.OG cs (proof.take i)) (I*H) 0 N=S.OQ (S.OG cs (proof.take i)) 0 0 N:=by rw[qw,qw]
   rw[this];exact J
  ·rintro t g4 ⟨h1,h2,h3,h4,h5,h6,w,A,D,-⟩ Y X n4 Z;rw[V]at Y X;rw[l9,Qw rfl];refine⟨⟨rfl,by simp[St,LDv,h1,h2,h3,w,A],Y,λj f=>?_,by omega,λj f=>by rw[Z j f,U j f]⟩,D,A⟩;have:=X j f;rw[qw]at this;simp[f]at this;omega
  ·intro v t g4 j hv hf hg hh n4 Z;show KP v g4;refine kp (λhall=>?_) v g4 hv ⟨by have:=F.1;omega,λx hx=>?_⟩
   ·have r:j<N:=by omega
    have h1:=hall j r;rw[<-e]at h1;have h2:=IP cs (proof.take (i+1)) (proof.drop (i+1)) j;rw[Rk,h1]at h2;have h3:(S.OQ (S.OG cs (proof.take i)) (I*H) H N)[j]?=(S.OQ (S.OG cs (proof.take (i+1))) 0 0 N)[j]?:=by rw[V]
    rw[oT r,oT r,Qw ⟨hf,hg⟩,Qu (by omega),hh]at h3;injection h3 with h3;omega
   ·have T:x<g1.nx:=by omega
    have L:vid u≠some x:=by rw[v2];intro h;injection h with h;omega
    rw[Z x L,U x L,f2 x T,F.2 x hx]
 ·rintro t df g3 ⟨rfl,⟨h1,h2,h3,w,A,-⟩,J,E,n3,U⟩;rw[QV]at J E;rw[l9,Qw rfl,j4];unfold fL;have hsl:SlR (λ_=>True) 0 g3.h (S.OQ (S.OG cs proof) 0 0 N) u:=J.sl (α:=Int) (by rw[oU];omega) (Oz (λa=>aG.2 rfl) _) λ_ _=>trivial;have kc:=uz (d:=d) (g:=g3) (x:=0) hd hsl;have W:Fr g g3:=⟨by have:=F.1;omega,λx hx=>by
   have T:x<g1.nx:=by omega
   have L:vid u≠some x:=by rw[v2];intro h;injection h with h;omega
   rw[U x L,f2 x T,F.2 x hx]⟩
  refine aV (by kernel_rfl) ?_
  by_cases c:(0:Int)∈S.OQ (S.OG cs proof) 0 0 N
  ·rw[Rf c]at kc;simp only[sz,simprocAttr,h3,kc];rw[dL];simp only[sz,simprocAttr];show wpQ C0 d ([oF 63 2 1,oL 64 63,oN 65 64,o 66 (.build [T8 0] [(0,1)] [.t 65]),o 67 (.raw (.makeInterface 175 (.tmp 66)))]++[oz (.raw (.panic (.tmp 67)))]) _ _ _ _;refine pR (by kernel_rfl) ?_;have gB3:g3.h.get B=Tq 3 [[q,vv,pv]]:=by rw[U B (by rw[v2];intro h;injection h with h;omega),gB2]
   simp only[sz,simprocAttr,si,h1,gB3,ld2,hl];refine w_ (ty:=175) (v:=.agg [T8 (proof.length:Int)]) (by simp[sx]) ?_;show KP _ g3;refine kp (λhall=>?_) _ g3 ⟨_,rfl⟩ W;obtain⟨j,f⟩:=QN c;have r:j<N:=by have:=(Qs.1 f).1;rwa [oU]at this
   have h1:=hall j r;rw[<-e]at h1;rw[oT r,Qu (by omega),h1]at f;injection f with f;omega
  ·rw[Rs c]at kc;simp only[sz,simprocAttr,h3,kc];rw[dL];simp only[sz,simprocAttr];rw[j9,Ja,xU];simp only[sz,simprocAttr];refine kk (λj f=>?_) g3 W;rw[<-e];have h1:=E j f
   by_cases h0:S.OG cs proof j=0
   ·exfalso;refine c (Qx (i:=j) ?_);rw[oT f,Qu (by omega),h0];rfl
   ·omega
section
variable {α:Type} [DecidableEq α]
def mgt(L:List (α×Int))(k:α):Int:=match L with
 |[]=>0
 | (a,v)::r=>if k=a then v else mgt r k
def mcl(kf:α->AV)(L:List (α×Int)):List (AV×AV):=L.map λp=>(kf p.1,T8 p.2)
end
def ik(a:Int):AV:=T8 a
structure BeJ (g0:G) (w m b:Int) (h:H):Prop where
 fr:∀i,i<g0.nx->i≠1->i≠5->i≠6->h.get i=g0.h.get i
 h1:h.get 1=Tq 1 [[T8 w]]
 h5:h.get 5=Tq 1 [[T8 m]]
 h6:h.get 6=Tq 1 [[T8 b]]
def S.Pa(n:Net)(e vars vals:List Int)(proof:List (List Int)):Bool :=
 proof.all (S.OM n vars)&&((List.range (S.nc (S.OA (S.Oz n) vars))).all (λi=>decide (S.OG (S.OA (S.Oz n) vars) proof i=1))&&proof.all λb=>S.OU n vars (S.OJ n vars) (S.OP n e) vals b (S.O3 n vars (S.OP n e) vals (S.OD n)))
def S.Pk(n:Net)(e vars vals:List Int)(proof:List (List Int)):Int :=
 if S.O2 n e vars=0 then (if vals.length=vars.length/\S.OM n vars vals=true then (if S.Pa n e vars vals proof=true then 0 else 190) else 2) else S.O2 n e vars
theorem Lp{a b c:AV}(ha:a.cells=[a]/\a.isTup=false)(hb:b.cells=[b]/\b.isTup=false)(hc:c.cells=[c]/\c.isTup=false):ef [.nilp,.nils,.nils] [((0,1),a),((1,1),b),((2,1),c)]=some [a,b,c]:=by simp[ef,ha,hb,hc,iF,a7]
theorem Dg[XOc](d:Nat)(a:AV)(g:G):∃v,(I C0).call d 73 [a] g=.ok v g:=by
 have key:=o9 (C:=C0) (d:=d) (f:=73) («as»:=[a]) (g:=g) (K:=λv g'=>g'=g) lE (by simp[da]) ?_
 ·cases hc:(I C0).call d 73 [a] g with
  |fail=>rw[hc]at key;exact key.elim
  |ok v g'=>rw[hc]at key;exact⟨v,by rw[show g'=g from key]⟩
 have e:Ei true (.iface true) .nili .nili=.val (.bool false):=rfl;simp only[da,sx,Dj];simp only[sz,simprocAttr,e]
theorem EM[XOc]{K:G->Prop}(h:g.h.get p=Tq 1 [[T8 x]])(hv:rU v)(hk:K (g.put p (Tq 1 [[T8 190]]))):M8 C0 d 73 v [T9 p] g K:=by refine Ma lE (by simp[da]) ?_;unfold da;dsimp only;refine⟨rfl,trivial,?_⟩;refine vB (by kernel_rfl) ?_;obtain⟨x,rfl⟩:=hv;have e:Ei true (.iface true) (.ifc 175 x) .nili=.val (.bool true):=rfl;simp only[sz,simprocAttr,cI,e];rw[j4,dL];simp only[sz,simprocAttr];refine BA (by kernel_rfl) ?_;simp only[sz,simprocAttr,h];exact⟨rfl,hk⟩
def LRx(p x z:AV):List (Nat×AV):=[(10,T9 1),(47,.agg [.clo 74 [.agg [p,x,z]] [],.clo 75 [.agg [p,x,z]] [],.clo 76 [.agg [p,x,z]] []])]
theorem HP[XOc]{p x:AV}(hd:0<d)(hr:NR n)(hpl:S.OF vars (n.nodes.length:Int)=true)(hp:mr n vars (S.OJ n vars) (S.OP n e) m d p)
  (hx:∀h,SlR NoP d h vals x) (hz:∀h,SlR NoP d h proof z) (hl:vals.length=vars.length)
  (h10:tat t 10=T9 1) (h12:tat t 12=T9 2) (c1:g.h.get 1=Tq 1 [[T8 0]]) (c2:g.h.get 2=Tq 3 [[p,x,z]]) (cn:3<=g.nx) :
  wpP C0 (d+1) (T7 (sQ [Tu 41 3 12,o 42 (.mkf 74 [.t 41] []),Tu 43 3 12,o 44 (.mkf 75 [.t 43] []),Tu 45 3 12,o 46 (.mkf 76 [.t 45] []),o 47 (.build [.nilf,.nilf,.nilf] [(0,1),(1,1),(2,1)] [.t 42,.t 44,.t 46]),oK 48 0] (.blk 0 (.loop dO))) dP)
   (fnP C0 (d+1) [SR.cell false 1 10] (λv g'=>∃P,One (if S.Pa n e vars vals proof=true then (0:Int) else 190) P 0 g'.h v) λ_ _=>False) t [.call (.clo 73 [] [T9 1]) []] g:=by
 have w:=hr.l2;have A:=bH hpl (by omega);have y:(S.OJ n vars).length<=n.nodes.length:=oH _ _;have ld:bB (Tq 3 [[p,x,z]]) 0 0 true 3 0=.val (.agg [p,x,z]):=rfl;have fl:∀a b c:List AV,∀f1 f2 f3:Nat,ef [.nilf,.nilf,.nilf] [((0,1),.clo f1 a []),((1,1),.clo f2 b []),((2,1),.clo f3 c [])]=some [.clo f1 a [],.clo f2 b [],.clo f3 c []]:=λ_ _ _ _ _ _=>rfl;rw[nG];refine aV (by kernel_rfl) ?_;simp only[sz,simprocAttr,h12,c2,ld,fl];rw[pQ,rN];unfold dO;have bad:∀(t:T) (g':G) (v:AV) (Q:QP),S.Pa n e vars vals proof=false->rU v->tat t 10=T9 1->g'.h.get 1=Tq 1 [[T8 0]]->L0 C0 (d+1) [SR.cell false 1 10] v t (λv g'=>∃P,One (if S.Pa n e vars vals proof=true then (0:Int) else 190) P 0 g'.h v) (λ_ _=>False) [.call (.clo 73 [] [T9 1]) []] g':=by intro t g' v Q hb hv h10 c1;refine EM (d:=d+1) c1 hv ?_;show kg C0 (d+1) [SR.cell false 1 10] t [] _ _;rw[hb];simp only[sz,simprocAttr,h10];exact⟨NoP,aG.2 rfl⟩
 refine DG (m:=3) (by omega) (λj t df g=>df=[.call (.clo 73 [] [T9 1]) []]/\St t (LRx p x z)/\g.h.get 1=Tq 1 [[T8 0]]/\3<=g.nx/\(1<=j->proof.all (S.OM n vars)=true)/\(2<=j->((List.range (S.nc (S.OA (S.Oz n) vars))).all (λi=>decide (S.OG (S.OA (S.Oz n) vars) proof i=1)))=true)/\(3<=j->(proof.all λb=>S.OU n vars (S.OJ n vars) (S.OP n e) vals b (S.O3 n vars (S.OP n e) vals (S.OD n)))=true))
  ⟨rfl,by simp[St,LRx,sx,h10],c1,cn,by omega,by omega,by omega⟩ (by simp[sx]) (by decide)
  (by rintro j t df g v s (rfl|rfl|rfl) ⟨a1,⟨b1,b2,-⟩,c⟩<;>exact⟨a1,by simp[St,LRx,sx,b1,b2],c⟩) ?_ ?_
 ·clear h10 h12 c1 c2 cn;rintro j t df g B ⟨rfl,⟨h10,q,-⟩,c1,cn,u,q2,q3⟩ r;have:j=0\/j=1\/j=2:=by omega
  rcases this with rfl|rfl|rfl
  ·refine aV (by kernel_rfl) ?_;have ix0:ixV false 3 1 (.agg [.clo 74 [.agg [p,x,z]] [],.clo 75 [.agg [p,x,z]] [],.clo 76 [.agg [p,x,z]] []]) (T8 ((0:Nat):Int))=.val (.clo 74 [.agg [p,x,z]] []):=rfl;simp only[sz,simprocAttr,q,r];show wpQ C0 (d+1) ([oM 51 14]++[o 52 (.dyn (.t 51) [])]) _ _ _ _;refine pR (by kernel_rfl) ?_;simp only[sz,simprocAttr];refine BC (f:=74) (first:=[.agg [p,x,z]]) (cap:=[]) (by simp[sx,cI]) (by kernel_rfl) ?_;refine Jb (vals:=vals) (d:=d+1) (k:=d) (by omega) hp hpl hz (λhA g' hf=>?_) (λhA v g' hv hf=>?_)
   ·have l:=(hf.2 1 (by omega)).trans c1;have:=hf.1;refine⟨⟨rfl,by simp[St,LRx,sx,h10,q,cI],l,by omega,?_,?_,?_⟩,by simp[sx,r,cI]⟩
    ·exact λ_=>hA
    ·exact λh=>absurd h (by decide)
    ·exact λh=>absurd h (by decide)
   ·have l:=(hf.2 1 (by omega)).trans c1;refine bad _ _ _ (λ_ _ _ _=>True) ?_ hv (by simp[sx,h10,cI]) l;rw[S.Pa];rw[hA];rfl
  ·refine aV (by kernel_rfl) ?_;have ix0:ixV false 3 1 (.agg [.clo 74 [.agg [p,x,z]] [],.clo 75 [.agg [p,x,z]] [],.clo 76 [.agg [p,x,z]] []]) (T8 ((1:Nat):Int))=.val (.clo 75 [.agg [p,x,z]] []):=rfl;simp only[sz,simprocAttr,q,r];show wpQ C0 (d+1) ([oM 51 14]++[o 52 (.dyn (.t 51) [])]) _ _ _ _;refine pR (by kernel_rfl) ?_;simp only[sz,simprocAttr];refine BC (f:=75) (first:=[.agg [p,x,z]]) (cap:=[]) (by simp[sx,cI]) (by kernel_rfl) ?_;refine G_ (vals:=vals) (d:=d+1) (k:=d) (by omega) hr hp hpl hz (u (by omega)) (λhA g' hf=>?_) (λhA v g' hv hf=>?_)
   ·have l:=(hf.2 1 (by omega)).trans c1;have:=hf.1;refine⟨⟨rfl,by simp[St,LRx,sx,h10,q,cI],l,by omega,?_,?_,?_⟩,by simp[sx,r,cI]⟩
    ·exact λ_=>u (by omega)
    ·refine λ_=>QB.2 λi hi=>Rf (hA i (QE.1 hi))
    ·exact λh=>absurd h (by decide)
   ·have l:=(hf.2 1 (by omega)).trans c1;refine bad _ _ _ (λ_ _ _ _=>True) ?_ hv (by simp[sx,h10,cI]) l;rw[S.Pa,u (by omega)];have:(List.range (S.nc (S.OA (S.Oz n) vars))).all (λi=>decide (S.OG (S.OA (S.Oz n) vars) proof i=1))=false:=by rw[SP];exact λh=>hA λi hi=>ST (QB.1 h i (QE.2 hi))
    rw[this];rfl
  ·refine aV (by kernel_rfl) ?_;have ix0:ixV false 3 1 (.agg [.clo 74 [.agg [p,x,z]] [],.clo 75 [.agg [p,x,z]] [],.clo 76 [.agg [p,x,z]] []]) (T8 ((2:Nat):Int))=.val (.clo 76 [.agg [p,x,z]] []):=rfl;simp only[sz,simprocAttr,q,r];show wpQ C0 (d+1) ([oM 51 14]++[o 52 (.dyn (.t 51) [])]) _ _ _ _;refine pR (by kernel_rfl) ?_;simp only[sz,simprocAttr];refine BC (f:=76) (first:=[.agg [p,x,z]]) (cap:=[]) (by simp[sx,cI]) (by kernel_rfl) ?_;refine GX (d:=d+1) (k:=d) (by omega) hr hp (aZ hpl) (by omega) pF (by omega) (jP _ _ _) (uZ hr e) hz hx hl (λb hb=>(wD (QB.1 (u (by omega)) b hb)).1) (λhA g' hf=>?_) (λhA v g' hv hf=>?_)
   ·have l:=(hf.2 1 (by omega)).trans c1;have:=hf.1;refine⟨⟨rfl,by simp[St,LRx,sx,h10,q,cI],l,by omega,?_,?_,?_⟩,by simp[sx,r,cI]⟩
    ·exact λ_=>u (by omega)
    ·exact λ_=>q2 (by omega)
    ·exact λ_=>hA
   ·have l:=(hf.2 1 (by omega)).trans c1;refine bad _ _ _ (λ_ _ _ _=>True) ?_ hv (by simp[sx,h10,cI]) l;rw[S.Pa,u (by omega),q2 (by omega)];rw[hA];rfl
 ·rintro t df g ⟨rfl,⟨h10,q,-⟩,c1,cn,u,q2,q3⟩;have hb:S.Pa n e vars vals proof=true:=by rw[S.Pa,u (by omega),q2 (by omega),q3 (by omega)];rfl
  rw[hb,l9,Qw rfl,j4];unfold dP;refine aV (by kernel_rfl) ?_;simp only[sz,simprocAttr,h10,c1];rw[BB,Ja,AX];obtain⟨v,hv⟩:=Dg (d+1) (T9 1) (g.put 1 (Tq 1 [[T8 0]]));refine Hf hv ?_;simp only[sz,simprocAttr,h10];exact⟨NoP,aG.2 rfl⟩
theorem HQ[XOc]{k3 k4:Nat}{P3 P4:Nat->Prop}{x:AV}(hd:0<d)(hm:Agg n NoP 0 g.h v)(he:SlR P1 k1 g.h e w)(hv:SlR P2 k2 g.h vars u)(hk2:k2<=d)(hx:SlR P3 k3 g.h vals x)(hk3:k3<=d)(hz:SlR P4 k4 g.h proof z)(hk4:k4<=d) :
  vO C0 27 d [v,w,u,x,z] g=.val (T8 (S.Pk n e vars vals proof)):=by
 have key:∃r,vO C0 27 d [v,w,u,x,z] g=.val r/\One (S.Pk n e vars vals proof) NoP 0 .nil r:=by
  obtain⟨b,rows,rfl,e1,y,hN,-⟩:=mc d hm;obtain⟨w',e2,B⟩:=bj he d;obtain⟨u',e3,q⟩:=bj hv d;obtain⟨x',D,j⟩:=bj hx d;obtain⟨z',E,s⟩:=bj hz d;rw[Nat.max_eq_right hk2]at q;rw[Nat.max_eq_right hk3]at j;rw[Nat.max_eq_right hk4]at s;refine Hw uU (xs:=[.agg [T8 n.grain,b],w',u',x',z']) (by simp only[aF,e1,e2,e3,D,E]) (by simp[km]) (bi _) (by decide) hd ?_;unfold km;dsimp only;refine aV (by kernel_rfl) ?_;simp only[sz,simprocAttr,mO];obtain⟨g1,i⟩:∃g1,g1=(G.empty.new (Tq 2 [[T8 n.grain,b]])).new (Tq 1 [[T8 0]]):=⟨_,rfl⟩;rw[<-i];have c0:g1.h.get 0=Tq 2 [[T8 n.grain,b]]:=by rw[i];simp[OE,show G.empty.nx=0 from rfl]
  have c1:g1.h.get 1=Tq 1 [[T8 0]]:=by rw[i];simp[OE,show G.empty.nx=0 from rfl]
  have cn:g1.nx=2:=by rw[i];rfl
  clear i;unfold mH;refine aV (by kernel_rfl) ?_;simp only[sz,simprocAttr,c0];refine bL (pD (n:=n) (e:=e) (vars:=vars) (kv:=d) (Su d) (y _) (B _) (q _)) λr hr=>?_;rcases ua hr with⟨c,p,rfl,hp⟩|⟨c,rfl⟩
  rotate_left
  ·have F:S.Pk n e vars vals proof=S.O2 n e vars:=Qu c;simp only[sz,simprocAttr,c1];rw[nG];refine aV (by kernel_rfl) ?_;simp only[sz,simprocAttr,c];rw[dL];simp only[sz,simprocAttr];refine aV (by kernel_rfl) ?_;simp only[sz,simprocAttr];rw[BB,F0];show kg C0 (d+1) [SR.cell false 1 10] _ [] _ (λv g'=>∃P,One (S.Pk n e vars vals proof) P 0 g'.h v);simp only[sz,simprocAttr];rw[F];exact⟨NoP,aG.2 rfl⟩
  obtain⟨⟨hr,H⟩,m⟩:=j7.1 c;have I:=hr.l2;have K:=bH m (by omega);have J:(S.OJ n vars).length<=n.nodes.length:=oH _ _;obtain⟨rt,k⟩:∃rt,rt=S.Pk n e vars vals proof:=⟨_,rfl⟩;rw[<-k];rw[S.Pk,Qw c]at k;simp only[sz,simprocAttr,c1];rw[nG];refine aV (by kernel_rfl) ?_;simp only[sz,simprocAttr];rw[dL];simp only[sz,simprocAttr];rw[j9,j4,nG];have lx:∀g:G,bY .slice x' g=.val (T8 (vals.length:Int)):=λg=>(j .nil).len g;have lu:∀g:G,bY .slice u' g=.val (T8 (vars.length:Int)):=λg=>(q .nil).len g;have kb:=λg:G=>CB (d:=d+1) (g:=g) (l:=vals) (by omega) hp m (j g.h);refine aV (by kernel_rfl) ?_
  by_cases c2:vals.length=vars.length/\S.OM n vars vals=true
  rotate_left
  ·rw[Qu c2]at k;have bad:∀(t:T) (g':G),tat t 10=T9 1->g'.h.get 1=Tq 1 [[T8 0]]->wpP C0 (d+1) (sQ [oz (.store 1 (.t 10) (qI 2))] (.ret)) (kSP (wpP C0 (d+1) (sQ [o 36 (.mkf 73 [] [.t 10]),oz (.raw (.defer ⟨.value (.tmp 36),#[],#[]⟩))] (sQ [oM 37 11,oM 38 3,oM 39 4,o 40 (.build [.nilp,.nils,.nils] [(0,1),(1,1),(2,1)] [.t 37,.t 38,.t 39]),o 12 (.alloc [.nilp,.nils,.nils]),Tw 3 12 40] (T7 (sQ [Tu 41 3 12,o 42 (.mkf 74 [.t 41] []),Tu 43 3 12,o 44 (.mkf 75 [.t 43] []),Tu 45 3 12,o 46 (.mkf 76 [.t 45] []),o 47 (.build [.nilf,.nilf,.nilf] [(0,1),(1,1),(2,1)] [.t 42,.t 44,.t 46]),oK 48 0] (.blk 0 (.loop dO))) dP))) (fnP C0 (d+1) [SR.cell false 1 10] (λv g'=>∃P,One rt P 0 g'.h v) λx x_1=>False)) (fnP C0 (d+1) [SR.cell false 1 10] (λv g'=>∃P,One rt P 0 g'.h v) λx x_1=>False)) t [] g':=by intro t g' h10 hc;refine aV (by kernel_rfl) ?_;simp only[sz,simprocAttr,h10,hc];rw[BB,F0];show kg C0 (d+1) [SR.cell false 1 10] _ [] _ (λv g'=>∃P,One rt P 0 g'.h v);simp only[sz,simprocAttr,h10];rw[k];exact⟨NoP,aG.2 rfl⟩
   by_cases c3:vals.length=vars.length
   ·have C:S.OM n vars vals=false:=by rw[<-Sf];exact λh=>c2 ⟨c3,h⟩
    have a:(vals.length:Int)=(vars.length:Int):=by omega
    simp only[sz,simprocAttr,lx,lu,kb,C,a];rw[dL];simp only[sz,simprocAttr];exact bad _ _ (by simp[sx]) (by simp[OE])
   ·have a:¬(vals.length:Int)=(vars.length:Int):=by omega
    simp only[sz,simprocAttr,lx,lu,a];rw[dL];simp only[sz,simprocAttr];exact bad _ _ (by simp[sx]) (by simp[OE])
  rw[Qw c2]at k;subst k;have a:(vals.length:Int)=(vars.length:Int):=by have:=c2.1;omega
  rw[c2.2]at kb;simp only[sz,simprocAttr,lx,lu,kb,a];rw[dL];simp only[sz,simprocAttr];rw[j9,j4];refine aV (by kernel_rfl) ?_;simp only[sz,simprocAttr];rw[EV (f:=73) (first:=[]) (cap:=[T9 1]) (by simp[sx])];simp only[sz,simprocAttr,Mf,LD];refine aV (by kernel_rfl) ?_;have A:p.cells=[p]/\p.isTup=false:=by obtain⟨_,_,_,_,_,rfl,-⟩:=hp;exact⟨rfl,rfl⟩
  simp only[sz,simprocAttr,Lp A (j .nil).cell (s .nil).cell];refine HP hd hr m hp j s c2.1 (by simp[sx]) (by simp[sx,cn]) ?_ ?_ ?_
  ·simp[OE,cn]
  ·simp[OE,cn]
  ·simp[cn]
 obtain⟨r,hr,ha⟩:=key;have ha:=aG.1 ha;injection ha with ha;rw[hr,ha]
theorem KM{i:Int}(h:∀y∈l,0<=y)(hi:i.toNat<l.length):S.Pp l i 0=l:=by unfold S.Pp;have:=h _ (RS hi);rw[Qr hi,Qz,Int.max_eq_left this,List.set_getElem_self]
theorem Cs{f:Nat->Int}{N W:Nat}{c p:Nat->Bool}{x y:Nat->Int}{M:Int}(hf:∀j,j<W->0<=f j/\f j<(N:Int))(hx:∀j,j<W->0<=x j/\x j<=M)(hxy:∀j,j<W->x j=if p j then y j else 0):∀j,j<=W->S.OK f N c x j=S.OK f N (λw=>p w&&c w) y j
 |0,_=>rfl
 | j+1,h=>by
  have ih:=Cs (c:=c) hf hx hxy j (by omega);rw[S.OK,S.OK,<-ih,hxy j (by omega)];cases hp:p j with
  |true=>simp
  | false =>
   have hb:=(uX (c:=c) hf hx j (by omega)).1;have:=hf j (by omega);cases c j with
   |true=>simpa using KM hb (by rw[gR];omega)
   |false=>simp
def S.PG(n:Net)(e vars oth l:List Int):Int:=(S.OK (S.O_ n oth) (S.OW n oth) (λw=>S.pe n e w&&S.Ph n vars l w) (S.wt n) (S.OD n)).sum
theorem wQ(hr:NR n){oth:List Int}(hpo:∀x∈oth,0<=x/\x<(n.nodes.length:Int))(j:Nat):0<=S.O_ n oth j/\S.O_ n oth j<(S.OW n oth:Int):=by have h:=bF (ps:=oth) hr.cs (λp hpm=>by rw[aw];exact hpo p hpm);have k:=bu (λc hc=>(hr.cs c hc).1) (j:Int);have hf:=bz h (d6 k (λp hpm=>by rw[aw];exact hpo p hpm));have h1:=(dq h).1;unfold S.OW;unfold S.O_;omega
theorem AG(hr:NR n)(e vars l:List Int):S.Pn n vars (S.OJ n vars) (S.OP n e) l=S.PG n e vars (S.OJ n vars) l:=by
 unfold S.Pn S.PG;congr 1;refine Cs (M:=167961600000000) (W:=S.OD n) (λj _=>wQ hr pF j) (λj hj=>?_) (λj hj=>?_) _ (Qq _)
 ·rw[wP hj];have:=uB hr j;simp only[Qz]
  split<;>omega
 ·rw[wP hj];rfl
def LT0(w z:AV):List (Nat×AV):=[(1,w),(2,z),(3,T9 0),(6,T9 1),(7,T8 0),(8,T9 3),(11,T9 4)]
structure TbA (g0:G) (vars:List Int) (K:Int) (w z:AV) (j:Nat) (t:T) (g:G):Prop where
 st:St t (LT0 w z)
 h10:tat t 10=T8 (jg vars j)
 h32:tat t 32=z
 pl:PlI vars K K.toNat j
 nx:g0.nx<=g.nx
 fr:∀i,i<g0.nx->i≠4->g.h.get i=g0.h.get i
 h4:g.h.get 4=Tq 1 [[T_ (S.OL (vars.take j):Int)]]
structure BW (x:Node) (J:Nat) (g:G) (V:Ky->AV) (E:Ky->En) (rws:List (List AV)):Prop where
 own:Own g 3 (V (J+1,1)) 1 rws
 e1:E (J+1,1)=.sl 1 rws
 len:rws.length=x.rows.length
 at_:∀(r:Nat) (y:List Int),x.rows[r]?=some y->rws[r]?=some [V (J+1,2+r)]
section
variable {d K J:Nat}{L:List Node}{x:Node}{bx:vD}{gr Rw:Int}{t:T}{g:G}{V:Ky->AV}{E:Ky->En}{Q:QT}
end
def Node.wr(x:Node)(r:Nat)(y:List Int):Node:=⟨x.card,x.parents,x.rows.set r y⟩
section
variable {d K J r:Nat}{L:List Node}{x:Node}{bx:vD}{gr Rw:Int}{t t':T}{g gb:G}{V:Ky->AV}{E:Ky->En}{Q:QT}{y y':List Int}
structure BR (x:Node) (J r:Nat) (y:List Int) (g:G) (V:Ky->AV) (E:Ky->En) (rws:List (List AV)):Prop where
 wr:am g.h 1 (V (J+1,1))=some rws
 rl:r<rws.length
 rw_:rws[r]?=some [V (J+1,2+r)]
 ry:wx (V (J+1,1))=true
 yr:am g.h 1 (V (J+1,2+r))=some (y.map ci)
 ye:E (J+1,2+r)=.sl 1 (y.map ci)
 yl:y.length<=K
end
theorem wB{α:Type} [Rp α]{x:α}{cs:List AV}(h:Rp.rp NoP 0 .nil x cs)(h':H):Agg x P 0 h' (.agg cs):=⟨_,rfl,Rp.tree h (Qq _)⟩
def K3:Nat->Prop:=λk=>k<=2
def LT1(w z:AV)(p:Nat):List (Nat×AV):=[(1,w),(2,z),(6,T9 1),(8,T9 3),(11,T9 4),(14,T9 p)]
structure TbH (l cl:List Int) (p:Nat) (V:Nat->AV) (E:Nat->En) (g:G):Prop where
 hp:Hp g 5 K3 V E
 v0:V 0=T9 p
 e0:E 0=.bx [V 1,V 2,.nils]
 e1:E 1=.sl 1 (l.map ci)
 e2:E 2=.sl 1 (cl.map ci)
structure TbB (g0:G) (cs vars:List Int) (w z:AV) (p j:Nat) (t:T) (g:G):Prop where
 st:St t (LT1 w z p)
 h15:tat t 15=T8 (S.OB (S.OA cs (vars.take j)))
 h57:tat t 57=z
 hd:∃V E,TbH (vars.take j) (S.OA cs (vars.take j)) p V E g
 fr:∀i,i<5->g.h.get i=g0.h.get i
def K4:Nat->Prop:=λk=>k<=3
structure TbW (g0:G) (l cl W:List Int) (p r m:Nat) (V:Nat->AV) (E:Nat->En) (g:G):Prop where
 hp:Hp g 5 K4 V E
 v0:V 0=T9 p
 e0:E 0=.bx [V 1,V 2,V 3]
 e1:E 1=.sl 1 (l.map ci)
 e2:E 2=.sl 1 (cl.map ci)
 e3:E 3=.sl 1 (W.map ci)
 nw:∀i,eid (V 3)=some i->g0.nx<=i
 fr:∀i,i<g0.nx->i≠p->g.h.get i=g0.h.get i
def S.pk(n:Net)(e vars:List Int)(i:Int)(w:Nat):Bool:=S.pe n e w&&decide (S.OC (S.OA (S.Oz n) vars) (S.OA (S.OE (S.Oz n) (w:Int)) vars)=i)
def S.OV(n:Net)(e vars:List Int)(j:Nat):List Int:=(List.range (S.OB (S.OA (S.Oz n) vars)).toNat).map λi:Nat=>S.OH n (S.pk n e vars (i:Int)) j
structure TbJ (g0:G) (n:Net) (e vars:List Int) (m j:Nat) (h:H):Prop where
 fr:∀i,i<g0.nx->i≠m->h.get i=g0.h.get i
 hm:∃L:List (Int×Int),h.get m=.map (mcl ik L)/\∀k,mgt L k=S.OH n (S.pk n e vars k) j
theorem H_(h:S.pe n e j=false):S.OV n e vars (j+1)=S.OV n e vars j :=
 RC λi _=>by rw[S.OH,S.pk,h];simp
theorem jm(n:Net)(e vars:List Int)(j:Nat):(S.OV n e vars j).length=(S.OB (S.OA (S.Oz n) vars)).toNat:=by simp[S.OV]
theorem jR(hi:i<(S.OB (S.OA (S.Oz n) vars)).toNat):(S.OV n e vars j)[i]?=some (S.OH n (S.pk n e vars (i:Int)) j):=by simp[S.OV,hi]
theorem Ia(h:S.pe n e j=true)(hi:i<(S.OB (S.OA (S.Oz n) vars)).toNat)(hK:S.OC (S.OA (S.Oz n) vars) (S.OA (S.OE (S.Oz n) (j:Int)) vars)=(i:Int)) :
  (S.OV n e vars j).set i (S.OH n (S.pk n e vars (i:Int)) j+S.wt n j)=S.OV n e vars (j+1):=by
 refine RW λq=>?_
 by_cases hq:q<(S.OB (S.OA (S.Oz n) vars)).toNat
 ·rw[jR hq,Rq]
  by_cases e1:i=q
  ·subst e1;rw[Qw rfl,Qw (by rw[jm];exact hi),S.OH,S.pk,h,hK];simp[S.wt]
  ·rw[Qu e1,jR hq,S.OH,S.pk,h,hK];have:¬((i:Int)=(q:Int)):=by omega
   simp[this]
 ·rw[Ri (by rw[List.length_set,jm];omega),Ri (by rw[jm];omega)]
structure RtH (l W:List Int) (C:AV) (V:Nat->AV) (E:Nat->En) (g:G):Prop where
 hp:Hp g 2 K4 V E
 v0:V 0=T9 2
 e0:E 0=.bx [V 1,C,V 3]
 e1:E 1=.sl 1 (l.map ci)
 e3:E 3=.sl 1 (W.map ci)
def S.OY(W:List Int):Nat->Nat
 |0=>0
 |j+1=>if W[S.OY W j]?.getD 0<W[j+1]?.getD 0 then j+1 else S.OY W j
theorem DW(W:List Int):∀j,S.OY W j<=j
 |0=>Qq _
 | j+1=>by have:=DW W j;rw[S.OY];split<;>omega
def S.Pg(n:Net)(e vars:List Int):Nat:=S.OY (S.OV n e vars (S.OD n)) (S.nc (S.OA (S.Oz n) vars) - 1)
def S.ON(n:Net)(e vars:List Int):List Int:=S.OE (S.OA (S.Oz n) vars) (S.Pg n e vars:Int)
def S.OZ(n:Net)(e vars:List Int):Int:=(S.OV n e vars (S.OD n))[S.Pg n e vars]?.getD 0
theorem G5[XOc](hv:SlR P k g.h l v)(hP:∀i,P i->i<g.nx)(hl2:l.length<=1000)(kk:∀u g',Own g' g.nx u 1 (l.map ci)->Fr g g'->(∀i∈g'.lg,i∈g.lg\/g.nx<=i)->K u g') :
  (ay C0 d 37 [v] g).sat K g D:=by
 rw[nO];refine tR qi (by simp[dc]) ?_
 by_cases hn:v=.nils
 ·subst hn;have hl:l=[]:=by have h:=hv.2;unfold SlV at h;exact h
  have a:Ei false .slice .nils .nils=.val (.bool true):=rfl;simp only[sz,simprocAttr,dc,a];exact kk _ _ (.inl ⟨rfl,by rw[hl];rfl⟩) (Fr.refl g) λi hi=>.inl hi
 ·have a:Ei false .slice v .nils=.val (.bool false):=by
   have h:=hv.2;unfold SlV at h
   split at h
   ·exact absurd rfl hn
   ·rfl
   ·rfl
   ·rfl
   ·exact h.elim
  simp only[sz,simprocAttr,dc,a];refine bg (b:=g.nx) (v:=.hsl g.nx 0 0 0 none) (rows:=[]) (new:=l.map ci) (.inr ⟨g.nx,0,false,Qq _,by simp,rfl,by simp[OE]⟩) ?_ (by simp) (by simp[aS];omega) λu g1 hu n1 f1 _ l1=>?_
  ·refine SlR.ints (P:=P) (k:=k) (hv.far8 λi hi=>?_);have:=hP i hi;simp[OE,show ¬i=g.nx by omega]
  ·simp only[sz,simprocAttr];refine kk u g1 (by simpa using hu) ⟨by simp at n1;omega,λi hi=>by rw[f1 i (by simp;omega) (by simp[vid];omega)];simp[OE,show ¬i=g.nx by omega]⟩ λi hi=>?_;rcases l1 i hi with h|h
   ·simp at h;rcases h with rfl|h
    ·exact .inr (Qq _)
    ·exact .inl h
   ·exact .inr h
theorem Jw{α:Type} [Rp α]{h':H}{l:List α}(hv:SlR NoP k h l v)(n:Nat):aE h' (n+1) v=[]:=by
 have r:=hv.2;unfold SlV at r
 split at r
 ·rfl
 ·rfl
 ·rfl
 ·exact r.1.elim
 ·exact r.elim
theorem Jx(h:H)(n t sz i off:Nat)(rows:List (List AV)):aE h n (.tptr t sz rows i off)=[]:=by cases n<;>rfl
theorem Ib(n:Net)(e vars:List Int):S.OV n e vars 0=List.replicate (S.nc (S.OA (S.Oz n) vars)) 0:=by
 refine RW λi=>?_
 by_cases hi:i<(S.OB (S.OA (S.Oz n) vars)).toNat
 ·rw[jR hi,Sg,S.nc,Qw hi];rfl
 ·rw[Ri (by rw[jm];omega),Ri (by rw[List.length_replicate,S.nc];omega)]
theorem H9(hj:j<S.OD n)(hi:i<(S.OB (S.OA (S.Oz n) vars)).toNat)(hK:S.O_ n vars j=(i:Int)) :
  ∃y x,(S.OV n e vars j)[i]?=some y/\(S.OP n e)[j]?=some x/\(S.OV n e vars j).set i (y+x)=S.OV n e vars (j+1)/\(S.OV n e vars (j+1))[i]?=some (y+x):=by
 refine⟨_,_,jR hi,wP hj,?_,?_⟩
 ·cases c:S.pe n e j with
  | true =>
   rw[Qw rfl];exact Ia c hi hK
  | false =>
   rw[H_ c,Qu (by decide),Int.add_zero];refine RW λq=>?_;rw[Rq]
   by_cases e1:i=q
   ·subst e1;rw[Qw rfl,Qw (by rw[jm];exact hi),jR hi]
   ·rw[Qu e1]
 ·rw[jR hi,S.OH,S.pk];have:decide (S.OC (S.OA (S.Oz n) vars) (S.OA (S.OE (S.Oz n) (j:Int)) vars)=(i:Int))=true:=Rf hK;rw[this,SV]
  rfl
theorem Eh{C:Cfg}{r:List SR}(hi:g.h.get i=.dfr true)(hj:g.h.get j=.dfr true)(hij:i≠j)(h:qo r t ((g.put i (.dfr false)).put j (.dfr false)) λvs=>K (eg vs) ((g.put i (.dfr false)).put j (.dfr false))):kg C d r t [.mark i,.mark j] g K:=by
 unfold kg;have:dM (I C) d [.mark i,.mark j] g=some ((g.put i (.dfr false)).put j (.dfr false)):=by
  have k:(g.put i (.dfr false)).h.get j=.dfr true:=by simp[OE,show ¬j=i by omega,hj]
  simp only[dM,G.get_eq,hi,k]
 rw[this];exact h
def LBs(p:Nat):List (Nat×AV):=[(1,T9 0),(4,T9 p)]
theorem Fl[XOc]{q:AV}(hd:k<d)(hr:NR n)(hq:mr n vars (S.OJ n vars) (S.OP n e) m k q)(hp:S.OF vars (n.nodes.length:Int)=true) :
  ∃r,ay C0 d 52 [q] g=.val r/\GT (One (S.ON n e vars)) (One (S.OZ n e vars)) NoP 0 .nil r:=by
 have k7:=hq;obtain⟨t0,b,vw,ow,ww,e0,ht,hb,hv,ho,kp⟩:=k7;have kd:=hr.l2;have kk:=bH hp (by omega);have E:=aZ hp;have T:=bF (ps:=vars) hr.cs (λp hpm=>by rw[aw];exact E p hpm);have k4:(S.OA (S.Oz n) vars).length=vars.length:=by simp[S.OA]
 have C:CsOk (S.OA (S.Oz n) vars):=⟨T,by omega⟩;obtain⟨N1,N2,N3⟩:=C.nc;obtain⟨W1,W2,W3⟩:=hr.wl;have ki:(S.OJ n vars).length<=n.nodes.length:=oH _ _;have D:0<d+1:=RA d;have hw:∀g:G,AH q g=.upd (T9 g.nx) (g.new (Tq 1 [[q]])):=λg=>by rw[e0];rfl
 have iq:∀h,aE h aD q=[]:=λh=>by rw[e0];exact Jx h _ _ _ _ _ _
 have iv:∀h,aE h aD vw=[]:=λh=>Jw hv _;have Z:AS 2 q=.val (.tptr t0 6 [[T8 n.grain,b,vw,ow,ww,T8 m]] 0 2):=by rw[e0];exact br _ _ _ _ _ _
 have h9:vR q=.val q:=by rw[e0];rfl
 rw[mV];refine bK pp (xs:=[q]) (by rw[e0];simp only[aF,eA]) (by simp[eE]) (rJ (m:=1) (bi _) (bi _) (by decide) (by decide)) (by decide) (by omega) ?_;simp only[sz,simprocAttr,eE,hw];obtain⟨G0,I⟩:∃G0,G0=G.empty.new (Tq 1 [[q]]):=⟨_,rfl⟩;have z0:G0.h.get 0=Tq 1 [[q]]:=by rw[I];simp[OE,show G.empty.nx=0 from rfl]
 have zn:G0.nx=1:=by rw[I];rfl
 rw[<-I];clear I;unfold ie;refine pg (P:=λt' df g'=>df=[]/\∃A p,St t' (LBs p)/\g'.h.get 0=Tq 1 [[q]]/\g'.h.get A=Tq 1 ((List.replicate (S.nc (S.OA (S.Oz n) vars)) 0).map ci)/\g'.h.get p=Tq 1 [[.hsl A 0 0 (S.nc (S.OA (S.Oz n) vars)) none]]/\0<A/\A<p/\p<g'.nx) ?_ ?_
 ·simp only[sz,simprocAttr,sf,h9,Z,aP,z0];refine bL (ve D hq E (hv.tree (Qq _)) (by omega)) λrc hrc=>?_;have ks:=λg:G=>rP (d:=d+1) (g:=g) D (hrc.sl g.h);have ir:∀h,aE h aD rc=[]:=λh=>Jw (hrc.sl .nil) _;rw[lj T (by omega),<-N3]at ks;simp only[sz,simprocAttr,sf,ks];refine JQ N2 λg1 m1 n1 u1 l1=>?_;simp only[sy]at m1 n1 u1 l1;have y0:g1.h.get 0=Tq 1 [[q]]:=by rw[u1.1 0 (by omega)];simpa using z0
  have it:af (AV.tptr t0 6 [[T8 n.grain,b,vw,ow,ww,T8 m]] 0 2)=[]:=rfl;simp only[sz,simprocAttr,sf];refine⟨?_,?_⟩
  ·simp only[Q5,Q4,QU,QQ];refine aT (false::(TK (TJ (true::(true::(true::[])))))) [(0,8),(1,8),(2,8),(3,8),(4,8),(5,8),(6,8),(7,8)] (by simp[All2,ah,aC,fX,qe]) (by decide) ?_;rintro p hp x y hx H;simp only[Rh,QH,S9]at hp;rcases hp with rfl|rfl|rfl|rfl|rfl|rfl|rfl|rfl<;>(simp[fX,qe,ff,iq,iv,ir,sx]at hx H;subst hx;subst H;refine eO rfl rfl rfl rfl ?_ ?_ ?_<;>simp[ah,aC,fm,it,l1]<;>omega)
  ·refine⟨G0.nx+7,g1.nx+1,by simp[St,LBs,sx],?_,?_,?_,by omega,by omega,by simp⟩
   ·simp[show ¬0=g1.nx+1 by omega,y0]
   ·simp[show ¬G0.nx+7=g1.nx+1 by omega,m1]
   ·simp[OE]
 rintro t df g1 ⟨rfl,A,p,⟨h1,h4,-⟩,f0,fA,fp,hA,kb,kj⟩;refine pg (P:=λt' df g'=>∃dm,df=[.mark dm]/\g'.h.get dm=.dfr true/\p<dm/\dm<g'.nx/\St t' (LBs p)/\g'.h.get 0=Tq 1 [[q]]/\(∃lo,g'.h.get A=.cells 1 ((S.OV n e vars (S.OD n)).map ci) 0 lo false)/\g'.h.get p=Tq 1 [[.hsl A 0 0 (S.nc (S.OA (S.Oz n) vars)) none]]) ?_ ?_
 ·simp only[sz,simprocAttr,h1,f0];refine bL (Q:=λr=>∃tg,r=.clo 132 [] [.tptr tg 1 [[q]] 0 0]) (by obtain⟨tg,h⟩:=tB (g:=g1) (Nat.lt_succ_of_lt hd) hq;exact⟨_,h,tg,rfl⟩) ?_;rintro r ⟨tg,rfl⟩;simp only[sz,simprocAttr];refine tu (n:=n) (vars:=vars) (oth:=S.OJ n vars) (mw:=S.OP n e) (m:=m) (k:=k) (tg:=tg) D hr hq E (by omega) pF (by omega) (jP _ _ _) (by simp[sx]) (by decide) (by decide)
   (λj g'=>g'.h.get 0=Tq 1 [[q]]/\(∃lo,g'.h.get A=.cells 1 ((S.OV n e vars j).map ci) 0 lo false)/\g'.h.get p=Tq 1 [[.hsl A 0 0 (S.nc (S.OA (S.Oz n) vars)) none]]) ?_ ⟨f0,⟨false,?_⟩,fp⟩ ?_ ?_
  ·rintro j g3 g4 J ⟨a1,a2,F⟩;exact⟨by rw[J _ (by omega),a1],by rw[J _ (by omega)];exact a2,by rw[J _ (by omega),F]⟩
  ·rw[fA,Ib]
  ·rintro j x u g3 hj hx ⟨a1,⟨lo,a2⟩,F⟩ ke hu;simp only[sz,simprocAttr,gu];refine⟨?_,λf n5 f5=>?_⟩
   ·exact Jc _ _ _
   have k2:=bu (λc hc=>(hr.cs c hc).1) (j:Int);have hC:=d6 k2 (ps:=vars) (λp hpm=>by rw[aw];exact E p hpm);have k5:=wQ hr E j;obtain⟨fn,h6⟩:=QD k5.1;have R:fn<(S.OB (S.OA (S.Oz n) vars)).toNat:=by have:(S.OW n vars:Int)=S.OB (S.OA (S.Oz n) vars):=N3;omega
   obtain⟨y,x',H,K,he,B⟩:=H9 (e:=e) hj R h6;rw[hx]at K;injection K with K;subst K;have hk:0<=y+x/\y+x<=171992678400000000:=by rw[jR R]at B;injection B with B;rw[<-B];exact uv hr (by omega)
   have f6:∀i,i<g3.nx->i≠g1.nx+1->f.h.get i=g3.h.get i:=λi h1 h2=>by rw[f5 i h2,Qu (by omega),Qu (by omega)]
   have gp5:f.h.get g3.nx=Tq 2 [[T8 (S.O_ n (S.OJ n vars) j),T8 x]]:=by rw[f5 _ (by omega),Qw rfl]
   have b0:f.h.get 0=Tq 1 [[q]]:=by rw[f6 0 (by omega) (by omega),a1]
   have bA:f.h.get A=.cells 1 ((S.OV n e vars j).map ci) 0 lo false:=by rw[f6 A (by omega) (by omega),a2]
   have bp:f.h.get p=Tq 1 [[.hsl A 0 0 (S.nc (S.OA (S.Oz n) vars)) none]]:=by rw[f6 p (by omega) (by omega),F]
   have U:SlR (λi=>vid u=some i) 0 f.h (S.OA (S.OE (S.Oz n) (j:Int)) vars) u:=by have h1:SlR (λi=>vid u=some i) 0 g3.h (S.OA (S.OE (S.Oz n) (j:Int)) vars) u:=hu.sl (α:=Int) (by simp[S.OA];omega) (Oz (λa=>aG.2 rfl) _) λi hi=>hi;exact h1.far8 λi hi=>by have:=hu.lt hi;exact f6 i (by omega) (by omega)
   have kn:=λ(g:G) (h:SlR (λi=>vid u=some i) 0 g.h (S.OA (S.OE (S.Oz n) (j:Int)) vars) u)=>EZ (d:=d+1) (g:=g) (l:=S.OA (S.OE (S.Oz n) (j:Int)) vars) (w:=u) D hr hq hp h hC;have k6:S.OC (S.OA (S.Oz n) vars) (S.OA (S.OE (S.Oz n) (j:Int)) vars)=(fn:Int):=h6;rw[k6]at kn;have oA:Own f 0 (.hsl A 0 0 (S.nc (S.OA (S.Oz n) vars)) none) 1 ((S.OV n e vars j).map ci):=.inr ⟨A,0,lo,by omega,by omega,by rw[QA,jm];rfl,bA⟩;have z1:fn<((S.OV n e vars j).map ci).length:=by rw[QA,jm];exact R
   have V:((S.OV n e vars j).map ci)[fn]?=some (ci y):=by rw[Qv,H];rfl
   have ru:=oA.rows;have w1:IntKind.wrap .i64 (y+x)=y+x:=aB (by omega) (by omega);simp only[gx,sz,simprocAttr,sf,h1,h4,b0,bp];rw[kn _ ?hx]
   case hx=>simpa using U
   simp only[sz,simprocAttr,sf,ru,z1,V,ci,gp5,w1];refine ct (b:=0) (v:=.hsl A 0 0 (S.nc (S.OA (S.Oz n) vars)) none) (sz:=1) (n:=1) (i:=fn) (off:=0) (x:=T8 (y+x)) (row:=ci y) (row':=ci (y+x)) (oA.fr (by simp<;>omega) (λi' hi'=>by simp)) V rfl rfl rfl λg6 o6 n6 M=>?_;rw[<-RX,he]at o6;have f8:∀i',i'≠A->g6.h.get i'=f.h.get i':=λi' hi'=>by rw[M i' (by simpa [vid] using λh:A=i'=>hi' h.symm)];simp
   simp only[sy]at n6;simp only[sz,simprocAttr];refine⟨?_,?_⟩
   ·simp only[Q5,Q4,QU,QQ];exact aT (TK (TH (true::[]))) [] (by simp[All2,ah,aC,lY]) (by decide) (by simp)
   rcases o6 with⟨h,-⟩|⟨id,ep,lo2,-,-,h,hg⟩
   ·cases h
   injection h with e1 e2;subst e1;subst e2;refine⟨by simp;omega,λi h1 h2=>by simp[f8 i (by omega)],.inl ⟨rfl,by rw[f8 0 (by omega),b0],⟨lo2,by simpa using hg⟩,by rw[f8 p (by omega),bp]⟩⟩
  ·rintro g' ⟨a1,a2,F⟩ hn O;simp only[sz,simprocAttr];exact⟨g1.nx,rfl,O,by omega,by omega,by simp[St,LBs,sx,h1,h4],a1,a2,F⟩
 rintro t df g2 ⟨dm,rfl,k1,k9,ka,⟨h1,h4,-⟩,f0,⟨lo,fA⟩,fp⟩;obtain⟨cs,o⟩:∃cs,cs=S.OA (S.Oz n) vars:=⟨_,rfl⟩;obtain⟨W,hW⟩:∃W,W=S.OV n e vars (S.OD n):=⟨_,rfl⟩;have hs:W.length=S.nc cs:=by rw[hW,jm,o];rfl
 have hm:∀i,i<S.nc cs->0<=W[i]?.getD 0:=λi hi=>by rw[hW,jR (by rw[o]at hi;exact hi)];exact (uv hr W2).1
 have hB:S.ON n e vars=S.OE cs (S.OY W (S.nc cs - 1):Int):=by rw[o,hW];rfl
 have hl:S.OZ n e vars=W[S.OY W (S.nc cs - 1)]?.getD 0:=by rw[o,hW];rfl
 rw[hB,hl];rw[<-hW]at fA;rw[<-o]at C N1 N2 N3 T k4 fp;have kc:=λc hc=>(C.b c hc).1;simp only[gz];refine jQ (P:=λt' df g'=>df=[.mark dm]/\g'.nx=g2.nx+2/\(∀i,i<g2.nx->g'.h.get i=g2.h.get i)/\g'.h.get g2.nx=Tq 1 [[.nils]]/\g'.h.get (g2.nx+1)=Tq 1 [[T8 (-1)]]/\St t' ((7,T9 g2.nx)::(8,T9 (g2.nx+1))::LBs p)) ?_ ?_
 ·have k8:∀(g:G) (i:Nat),cH (Tq 1 [[.nils]]) g i 0 0 1 0 .nils=.upd .undef (g.put i (Tq 1 [[.nils]])):=λg i=>rfl;simp only[sz,simprocAttr,k8,show ¬g2.nx=g2.nx+1 by omega,show ¬g2.nx+1=g2.nx by omega];simp[St,LBs,sx,h1,h4];intro i hi;rw[Qu (by omega),Qu (by omega),Qu (by omega),Qu (by omega)]
 rintro t df g3 ⟨rfl,n3,f3,e7,e8,h7,h8,h1,h4,-⟩;rw[dt,dt];simp only[sz,simprocAttr,h1,f3 0 (by omega),f0,h9,Z,aP];refine bL (ve D hq E (hv.tree (Qq _)) (by omega)) λrc hrc=>?_;rw[<-o]at hrc;obtain⟨z,kz,hz⟩:=wG (d:=d+1) (g:=aJ g3 []) (w:=rc) (cs:=cs) D (hrc.sl _);simp only[sz,simprocAttr,kz];refine Ah (cs:=cs) (w:=z) C hz (by simp[sx]) (by decide) (by decide)
  (λj g'=>(∃lo,g'.h.get A=.cells 1 (W.map ci) 0 lo false)/\g'.h.get p=Tq 1 [[.hsl A 0 0 (S.nc cs) none]]/\g'.h.get dm=.dfr true/\g'.h.get (g2.nx+1)=Tq 1 [[T8 (if j=0 then -1 else W[S.OY W (j - 1)]?.getD 0)]] /\
   ∃u,g'.h.get g2.nx=Tq 1 [[u]]/\(j=0\/Own g' (g3.nx+3) u 1 ((S.OE cs (S.OY W (j - 1):Int)).map ci)))
  (λ_=>False) ?_ (λ_ _ _ h=>h) ?_ ?_ ?_ (λ_ h=>h.elim)
 ·rintro j g4 f ⟨J,hn,hf⟩ ⟨⟨lo,a1⟩,a2,F,a4,u,L,X⟩;exact⟨⟨lo,by rw[J.1 _ (by omega),a1]⟩,by rw[J.1 _ (by omega),a2],by rw[J.1 _ (by omega),F],by rw[J.1 _ (by omega),a4],u,by rw[J.1 _ (by omega),L],X.imp id λh=>h.fr hn λi hi=>by have:=h.lt hi;exact hf i (by omega) (by omega)⟩
 ·exact⟨⟨lo,by rw[f3 _ (by omega),fA]⟩,by rw[f3 _ (by omega),fp],by rw[f3 _ (by omega),k1],e8,.nils,e7,.inl rfl⟩
 ·rintro j u g4 hj ⟨⟨lo,a1⟩,a2,F,a4,u0,L,X⟩ kf hu;simp only[sz,simprocAttr,gw];refine⟨Fr.refl _,λf n5 f5 u5=>?_⟩;have b1:f.h.get A=.cells 1 (W.map ci) 0 lo false:=by rw[f5 _ (by omega),a1]
  have b2:f.h.get p=Tq 1 [[.hsl A 0 0 (S.nc cs) none]]:=by rw[f5 _ (by omega),a2]
  have b3:f.h.get dm=.dfr true:=by rw[f5 _ (by omega),F]
  have Y:=f5 (g2.nx+1) (by omega);rw[a4]at Y;have b5:f.h.get g2.nx=Tq 1 [[u0]]:=by rw[f5 _ (by omega),L]
  have U:SlR (λi=>g3.nx+2<=i/\i<g4.nx) 0 f.h (S.OE cs (j:Int)) u:=hu.far8 λi hi=>f5 i (by omega);have oA:Own f 0 (.hsl A 0 0 (S.nc cs) none) 1 (W.map ci):=.inr ⟨A,0,lo,by omega,by omega,by rw[QA,hs],b1⟩;have ru:=oA.rows;obtain⟨y,H,-,-⟩:=ae (l:=W) (j:=j) (by omega);have z1:j<(W.map ci).length:=by rw[QA];omega
  have V:(W.map ci)[j]?=some (ci y):=by rw[Qv,H];rfl
  have hk:=hm j hj;rw[H,Qz]at hk;obtain⟨Gm,N⟩:∃Gm,Gm=(if j=0 then (-1:Int) else W[S.OY W (j - 1)]?.getD 0):=⟨_,rfl⟩;rw[<-N]at Y;have kl:(S.OE cs (j:Int)).length<=8:=by rw[h_];exact C.l
  by_cases c:Gm<y
  ·have s:S.OY W j=j:=by
    cases j with
    |zero=>rfl
    | succ j =>
     rw[Qu (by omega),S2]at N;rw[S.OY,H,Qz,<-N,Qw c]
   simp only[dl,sz,simprocAttr,sf,h4,h8,b2,Y,ru,z1,V,ci,c];refine G5 (l:=S.OE cs (j:Int)) (P:=λi=>g3.nx+2<=i/\i<g4.nx) (k:=0) (by simpa using U) (λi hi=>by simp;omega) (by omega) λu' g6 o6 fr6 l6=>?_;simp only[sy]at o6 fr6 l6;have M:∀i,i<f.nx->g6.h.get i=f.h.get i:=λi hi=>by have:=fr6.2 i (by simp;omega);simpa using this
   have n6:f.nx+1<=g6.nx:=by have:=fr6.1;simp at this;omega
   have oA6:Own g6 0 (.hsl A 0 0 (S.nc cs) none) 1 (W.map ci):=oA.fr (by omega) λi hi=>M i (by have:=oA.lt hi;omega);obtain⟨vc,vt⟩:=o6.cell;simp only[sz,simprocAttr,sf,h4,h7,h8,M p (by omega),M g2.nx (by omega),M (g2.nx+1) (by omega),b2,Y,b5,oA6.rows,z1,V,ci,vc,vt,show ¬g2.nx+1=g2.nx by omega];refine⟨?_,?_⟩
   ·simp only[Q5,Q4,QU,QQ];refine aT (false::(true::(TJ (true::(true::[]))))) [(1,2),(1,3),(1,4),(1,5),(2,6),(3,6),(4,6),(5,6)] (by simp[All2,ah,aC,ox,bT]) (by decide) ?_;rintro p' ha x y' hx hh;simp only[Rh,QH,S9]at ha;have k3:∀i∈g6.lg,f.nx<i:=λi hi=>by have:=l6 i hi;simp at this;omega
    have L:A<f.nx:=by omega
    have ir:af (kX 1 (.hsl A 0 0 (S.nc cs) none) j 0)=[A]:=by rw[Dd rfl];rfl
    have p5:p<f.nx:=by omega
    have fresh:∀y:Foot,y.wr=[]->y.lk.big=false->(∀i∈y.lk.rd,i<f.nx)->y.lk.sr=[]->∀x:Foot,x.wr=g6.lg->bG x y=true:=λy h1 h2 h3 h4 x h5=>BK (b:=f.nx) (λi hi=>by rw[h5]at hi;exact Nat.le_of_lt (k3 i hi)) h1 h2 h3 h4;rcases ha with rfl|rfl|rfl|rfl|rfl|rfl|rfl|rfl<;>(simp at hx hh;subst hx;subst hh)
    ·exact fresh _ rfl rfl (by simp[ah,fm,p5]) rfl _ rfl
    ·exact fresh _ rfl rfl (by simp[aC]) rfl _ rfl
    ·exact fresh _ rfl rfl (by simp[ah,yH,L]) rfl _ rfl
    ·exact fresh _ rfl rfl (by simp[ah,ir,L]) rfl _ rfl
    all_goals (refine eO rfl rfl rfl rfl ?_ ?_ ?_<;>simp[ah,aC,fm,yH,ir]<;>omega)
   have e1:∀i,i<f.nx->i≠g2.nx->i≠g2.nx+1->(if i=g2.nx+1 then Tq 1 [[T8 y]] else if i=g2.nx then Tq 1 [[u']] else g6.h.get i)=f.h.get i:=λi h1 h2 h3=>by rw[Qu h3,Qu h2,M i h1]
   refine⟨by simp<;>omega,λi h1 h2=>?_,.inl ⟨rfl,⟨lo,?_⟩,?_,?_,?_,u',?_,.inr ?_⟩⟩
   ·simpa [OE] using e1 i h2 (by omega) (by omega)
   ·simpa [OE,b1] using e1 A (by omega) (by omega) (by omega)
   ·simp[show ¬p=g2.nx+1 by omega,show ¬p=g2.nx by omega]
   ·simpa [OE,b3] using e1 dm (by omega) (by omega) (by omega)
   ·simp[s,H]
   ·simp
   ·rw[s];refine Own.fr (g:=g6) ?_ (by simp<;>omega) λi hi=>?_
    ·rcases o6 with h|⟨id,ep,lo6,h1,h2⟩
     ·exact .inl h
     ·exact .inr ⟨id,ep,lo6,by omega,h2⟩
    ·have:=o6.lt hi;simp[OE,show ¬i=g2.nx+1 by omega,show ¬i=g2.nx by omega]
  ·have s:S.OY W j=S.OY W (j - 1)/\j≠0:=by
    cases j with
    |zero=>rw[Qw rfl]at N;omega
    | succ j =>
     rw[Qu (by omega),S2]at N;rw[S.OY,H,Qz,<-N,Qu c];exact⟨rfl,by omega⟩
   simp only[dl,sz,simprocAttr,h4,h8,b2,Y,ru,z1,V,ci,c];refine⟨Qq _,λ_ _ _=>rfl,.inl ⟨rfl,⟨lo,b1⟩,b3,?_,u0,b5,.inr ?_⟩⟩
   ·rw[s.1,N,Qu s.2]
   ·rw[s.1];rcases X with h|h
    ·exact absurd h s.2
    ·exact h.fr (by omega) λi hi=>by have:=h.lt hi;exact f5 i (by omega)
 ·rintro g' ⟨⟨lo,a1⟩,a2,F,a4,u,L,X⟩ hn O;rw[Qu (by omega)]at a4;have o7:Own g' (g3.nx+3) u 1 ((S.OE cs (S.OY W (S.nc cs - 1):Int)).map ci):=X.elim (λh=>by omega) id;simp only[sz,simprocAttr,gy,h7,h8,a4,L];show kg C0 (d+1) _ _ [.mark g3.nx,.mark dm] g' _;refine Eh O F (by omega) ?_;simp only[sz,simprocAttr];have o8:Own ((g'.put g3.nx (.dfr false)).put dm (.dfr false)) (g3.nx+3) u 1 ((S.OE cs (S.OY W (S.nc cs - 1):Int)).map ci):=o7.fr (by simp) λi hi=>by have:=o7.lt hi;simp[OE,show ¬i=g3.nx by omega,show ¬i=dm by omega]
  exact⟨λ_=>True,_,_,rfl,o8.ints (by rw[h_];have:=C.l;omega),aG.2 rfl⟩
theorem Kd[XOc]{x y:Nat}(hd:0<d)(hx:x<=4611686018427387903)(hy0:0<y)(hy:y<=4611686018427387903) :
  ay C0 d 53 [T8 (x:Int),T8 (y:Int)] g=.val (.agg [T8 (S.PN x y).1,T8 (S.PN x y).2]):=by
 have key:∃r,ay C0 d 53 [T8 (x:Int),T8 (y:Int)] g=.val r/\Agg (S.PN x y) NoP 0 .nil r:=by
  obtain⟨q0,f,q2,q3⟩:=Hs (x:=x) hy0;rw[uR];refine bK xR (xs:=[T8 (x:Int),T8 (y:Int)]) (by simp only[aF,iK 0]) (by simp[nk]) (jk _) (by decide) hd ?_;have hm:max (x:Int) (-(x:Int))=(x:Int):=by omega
  simp only[sz,simprocAttr,nk,qb,LM (show x<9223372036854775808 by omega),hm];refine tD (λb t df g=>df=[]/\∃a:Nat,St t [(0,T8 (x:Int)),(1,T8 (y:Int)),(4,T9 0),(5,T8 (a:Int)),(6,T8 (b:Int))]/\Nat.gcd a b=Nat.gcd x y/\a<9223372036854775808/\b<=y/\g.h.get 0=Tq 2 [[T8 0,T8 0]]/\g.nx=1) y
   ⟨rfl,x,by simp[St,sx],rfl,by omega,Qq _,by simp[OE,show G.empty.nx=0 from rfl],by simp[show G.empty.nx=0 from rfl]⟩ ?_
  rintro b t df g ⟨rfl,a,⟨h0,h1,h4,h5,h6,-⟩,k,ha,e,g0,gn⟩
  by_cases hb:b=0
  ·subst hb;rw[Nat.gcd_zero_right]at k;subst k;have fw:ef [T8 0,T8 0] [((0,1),T8 ((x / Nat.gcd x y:Nat):Int)),((1,1),T8 ((y / Nat.gcd x y:Nat):Int))]=some [T8 ((x / Nat.gcd x y:Nat):Int),T8 ((y / Nat.gcd x y:Nat):Int)]:=rfl;simp only[jE,ou,sz,simprocAttr,sf,h0,h1,h4,h5,h6,Bi (show x<9223372036854775808 by omega) q0,Bi (show y<9223372036854775808 by omega) q0,fw,g0];refine⟨?_,⟨λ_=>True,BJ.2 rfl⟩⟩;simp only[Q5,Q4,QU,QQ];exact aT (false::(TK (TJ (true::[])))) [] (by simp[All2,ah,aC]) (by decide) (by simp)
  ·have c:¬(b:Int)=0:=by omega
   have hlt:=So a (Nat.pos_of_ne_zero hb);simp only[jE,sz,simprocAttr,h5,h6,c,wT (x:=a) (Nat.pos_of_ne_zero hb)];refine⟨a % b,hlt,b,?_,?_,by omega,by omega,g0,gn⟩
   ·simp[St,sx,h0,h1,h4]
   ·rw[<-k,Nat.gcd_comm a b,Nat.gcd_comm b (a % b),<-Nat.gcd_rec]
 obtain⟨r,hr,hc⟩:=key;rw[hr,BJ.1 hc]
def S.OO(n:Net)(e vars:List Int):Int:=if S.O2 n e vars=0 then (if S.Pq n e=0 then 7 else 0) else S.O2 n e vars
def S.O0(n:Net)(e vars:List Int):List Int:=if S.OO n e vars=0 then S.ON n e vars else []
def S.Px(n:Net)(e vars:List Int):QI:=if S.OO n e vars=0 then S.PN (S.OZ n e vars).toNat (S.Pq n e).toNat else (0,0)
def GQ(n:Net)(e vars:List Int):VS:=M_ (One (S.O0 n e vars)) (Agg (S.Px n e vars)) (One (S.OO n e vars))
theorem Mo(n:Net)(e vars:List Int):Snb (GQ n e vars) 2:=Ds (m:=2) (bi _) (jk _) (bi _) (by decide) (by decide) (by decide)
theorem HA{r:AV}(h:GQ n e vars NoP 0 .nil r):∃a,r=.tup [a,.agg [T8 (S.Px n e vars).1,T8 (S.Px n e vars).2],T8 (S.OO n e vars)]/\SlR NoP 0 .nil (S.O0 n e vars) a:=by obtain⟨a,b,c,rfl,⟨a',k,ha⟩,hb,hc⟩:=h;injection k with k;subst k;have hc:=aG.1 hc;injection hc with hc;rw[BJ.1 hb,hc];exact⟨_,rfl,ha⟩
theorem CM{E:Int}(hE:S.OO n e vars=E)(h0:E≠0):GQ n e vars P 0 h (.tup [.nils,.agg [T8 0,T8 0],T8 E]):=by
 have hL:S.O0 n e vars=[]:=by rw[S.O0,Qu (by rw[hE];exact h0)]
 have k:S.Px n e vars=(0,0):=by rw[S.Px,Qu (by rw[hE];exact h0)]
 unfold GQ;rw[hL,k,hE];exact⟨_,_,_,rfl,⟨.nils,rfl,by simp,rfl⟩,BJ.2 rfl,aG.2 rfl⟩
theorem BP(hr:NR n)(e vars:List Int):0<=S.OZ n e vars/\S.OZ n e vars<=171992678400000000:=by
 have hw:=hr.wl.2.1;unfold S.OZ
 by_cases c:S.Pg n e vars<(S.OB (S.OA (S.Oz n) vars)).toNat
 ·rw[jR c];exact uv hr hw
 ·rw[Ri (by rw[jm];omega)];decide
theorem Mx[XOc](hd:0<d)(hm:Agg n NoP 0 g.h v)(he:SlR P1 k1 g.h e w)(hv:SlR P2 k2 g.h vars u)(hk2:k2<=d) :
  ∃r,ay C0 d 16 [v,w,u] g=.val r/\GQ n e vars NoP 0 .nil r:=by
 obtain⟨b,rows,rfl,e1,m,hN,B,C,D,E⟩:=mc d hm;obtain⟨w',e2,t⟩:=bj he d;obtain⟨u',e3,s⟩:=bj hv d;rw[uM];refine bK xM (xs:=[.agg [T8 n.grain,b],w',u']) (by simp only[aF,e1,e2,e3]) (by simp[m6]) (Mo n e vars) (by decide) hd ?_;have fw0:ef [T8 0,T8 0] []=some [T8 0,T8 0]:=rfl;simp only[sz,simprocAttr,m6,pU];refine bL (pD (n:=n) (e:=e) (vars:=vars) (kv:=max k2 d) (by omega) (m _) (t _) (s _)) λr hns=>?_;rcases ua hns with⟨c,p,rfl,hp⟩|⟨c,rfl⟩
 ·obtain⟨⟨hr,A⟩,q⟩:=j7.1 c
  by_cases c2:S.Pq n e=0
  ·have f:S.OO n e vars=7:=by rw[S.OO,Qw c,Qw c2]
   have hp0:=hp;obtain⟨t0,bb,vw,ow,ww,rfl,-⟩:=hp0;simp only[sz,simprocAttr,dh,br,aP,c2,fw0];exact⟨λ_=>True,CM f (by decide)⟩
  ·have f:S.OO n e vars=0:=by rw[S.OO,Qw c,Qu c2]
   have hp0:=hp;obtain⟨t0,bb,vw,ow,ww,rfl,-⟩:=hp0;simp only[sz,simprocAttr,dh,br,aP,c2];refine bL (Fl (Nat.lt_succ_of_le (Tj.2 ⟨hk2,Qq d⟩)) hr hp q) ?_;rintro r ⟨a,c',rfl,⟨a',i,ha⟩,k⟩;injection i with i;subst i;have k:=aG.1 k;injection k with k;subst k;have hb:=BP hr e vars;have o:=CS hr e;obtain⟨bw,j⟩:=QD hb.1;obtain⟨ms,l⟩:=QD o.1;have z:S.Px n e vars=S.PN bw ms:=by rw[S.Px,Qw f,j,l];rfl
   have hL:S.O0 n e vars=S.ON n e vars:=by rw[S.O0,Qw f]
   have kr:=λg=>Kd (d:=d+1) (g:=g) (x:=bw) (y:=ms) (by omega) (by omega) (by omega) (by omega);obtain⟨ac,at'⟩:=ha.cell;simp only[sz,simprocAttr,dh,br,aP,j,l,kr];refine⟨λ_=>True,?_⟩;unfold GQ;rw[hL,z,f];exact⟨_,_,_,rfl,⟨_,rfl,ha.wide (Qq 0)⟩,BJ.2 rfl,aG.2 rfl⟩
 ·have f:S.OO n e vars=S.O2 n e vars:=by rw[S.OO,Qu c]
  simp only[sz,simprocAttr,c,fw0];exact⟨λ_=>True,CM f c⟩
def S.Pz(n:Net)(e vars l:List Int):Int:=S.OH n (λw=>S.pe n e w&&S.Ph n vars l w) (S.OD n)
theorem Fz(hr:NR n)(hp:S.OF vars (n.nodes.length:Int)=true)(hcs:CsOk (S.OA (S.Oz n) vars))(hi:i<S.nc (S.OA (S.Oz n) vars)) :
  (S.OV n e vars (S.OD n))[i]?=some (S.Pz n e vars (S.OE (S.OA (S.Oz n) vars) (i:Int))):=by
 rw[jR hi];congr 1;refine yS λw _=>?_;have a:=bu (λc hc=>(hr.cs c hc).1) (w:Int);have hC:=d6 a (ps:=vars) (λp hpm=>by rw[aw];exact aZ hp p hpm);have k:=λc hc=>(hcs.b c hc).1;rw[S.pk];congr 1;rw[S.Ph,h_,<-hC.len,QV];refine decide_eq_decide.2 ⟨λh=>?_,λh=>?_⟩
 ·rw[<-h,cd k hC]
 ·rw[h,jG hcs i hi]
theorem GE(hl:vals.length=vars.length):S.O3 n vars (S.OP n e) vals (S.OD n)=S.Pz n e vars vals:=by
 have key:∀j,j<=S.OD n->S.O3 n vars (S.OP n e) vals j=S.OH n (λw=>S.pe n e w&&S.Ph n vars vals w) j:=by
  intro j
  induction j with
  |zero=>intro _;rfl
  | succ j ih =>
   intro h;rw[S.O3,ih (by omega),S.OH,wP (by omega)];have hb:S.Ph n vars vals j=decide (S.OA (S.OE (S.Oz n) (j:Int)) vars=vals):=by unfold S.Ph;rw[QF (by simp[S.OA];omega)]
   rw[hb];congr 1
   by_cases c:S.OA (S.OE (S.Oz n) (j:Int)) vars=vals
   ·rw[Qw c,Rf c,SV];rfl
   ·rw[Qu c,Rs c,Bool.and_false];rfl
 exact key _ (Qq _)
theorem Im{id ep len sz bytes:Nat}{x:AV}{lo:Bool}{new:List (List AV)}(hg:g.h.get id=.cells sz rows ep lo false)(hx:am g.h sz x=some new)(hl:len+new.length<=rows.length)(hb:(len+new.length)*bytes<=aS)
  (k:∀g',g'.nx=g.nx->g'.h.get id=.cells sz (rows.take len++(new++rows.drop (len+new.length))) ep lo false->(∀i,i≠id->g'.h.get i=g.h.get i)->K (.hsl id ep 0 (len+new.length) none) g') :
  (cQ sz bytes (.hsl id ep 0 len none) x g).sat K g D:=by
 unfold cQ;rw[hx];dsimp only;simp only[a8,G.get_eq,hg,aq,aa,show Nat.beq ep ep=true from Q2 ep,show Nat.beq sz sz=true from Q2 sz,Rz,Q6,Qt,Rn,RT,R6];rw[Qw ⟨by omega,hb⟩,Qw hl];cases new with
 | nil =>
  refine k g rfl ?_ λ_ _=>rfl;rw[hg];simp
 | cons r new =>
  dsimp only;rw[Qw ⟨hl,rfl⟩];refine k _ rfl ?_ λi hi=>by simp[OE,hi]
  have hp:gT rows len (r::new)=rows.take len++(r::new++rows.drop (len+(r::new).length)):=by
   cases new with
   | nil =>
    show Dm len r rows=_;rw[fG,List.set_eq_take_append_cons_drop,Qw (by simp at hl;omega)];simp
   | cons r2 new =>
    show fY len rows++(r::r2::new++eR (len+a7 (r::r2::new)) rows)=_;rw[be,bc,aq]
  rw[hp];simp[OE]
theorem Lw[XOc]{n:Nat}(hn:0<n)(hn2:n<=1000)
  (k:∀g',g'.nx=g.nx+1->g'.h.get g.nx=.cells 1 (List.replicate n [T8 0]) 0 true false->(∀i,i<g.nx->g'.h.get i=g.h.get i)->K (.hsl g.nx 0 0 0 none) g') :
  (ay C0 d 107 [.nils,T8 (n:Int)] g).sat K g D:=by
 rw[uP];refine tR xP (by simp[ni]) ?_;have d1:¬(n:Int)<0:=by omega
 have d2:(0:Int)<(n:Int):=by omega
 have c0:∀g:G,B5 .nils g=.val (T8 0):=λ_=>rfl;have w0:IntKind.wrap .i64 (n:Int)=(n:Int):=aB (by omega) (by omega);have w1:IntKind.wrap .i64 ((n:Int) - IntKind.wrap .i64 0)=(n:Int):=by rw[aB (x:=0) (by omega) (by omega),Int.sub_zero,aB (by omega) (by omega)]
 have a:∀g:G,kG 1 .nils none (some (T8 0)) g=.val .nils:=λ_=>rfl;have az:∀g:G,kT 1 8 [T8 0] .nils (T8 (n:Int)) g=.upd (.hsl g.nx 0 0 n none) (g.new (.cells 1 (List.replicate n [T8 0]) 0 true false)):=λg=>by
  obtain⟨m,rfl⟩:∃m,n=m+1:=⟨n - 1,by omega⟩;have h:bN aS (T8 ((m+1:Nat):Int))=some (m+1):=by simp only[bN,aa,Q6];rw[Qw (by unfold aS;omega)]
  unfold kT;rw[h];dsimp only;rw[aa,Qw (by rw[Q6];unfold aS;omega)];have:eH (m+1) [T8 0]=[T8 0]::List.replicate m [T8 0]:=rfl;rw[this];unfold a8;dsimp only;rw[aa,Qw (by rw[Q6,aq];simp;unfold aS;omega),aq];simp[RI]
 have c1:∀g:G,bY .slice .nils g=.val (T8 0):=λ_=>rfl;have b:∀g:G,∀id:Nat,g.h.get id=.cells 1 (List.replicate n [T8 0]) 0 true false->kG 1 (.hsl id 0 0 n none) none (some (T8 0)) g=.val (.hsl id 0 0 0 none):=λg id hg=>by
  have b1:bN n (T8 0)=some 0:=by show ak (Nat.ble 0 n) (some 0) none=some 0;rw[aa,Qw (by simp)]
  have e:jj 1 (.hsl id 0 0 n none) none (some (T8 0)) none g.h=some (.hsl id 0 0 0 none):=by
   simp only[jj,hg,aq,List.length_replicate,aa,aQ,RT,R6,b1];rw[Qw (by simp)];rw[Qu (by simp;omega)]
   rfl
  unfold kG;rw[e];rfl
 simp only[sz,simprocAttr,ni,d1];simp only[sz,simprocAttr,om,HW,c0,c1,w1,d2,qa,EU,a,az,Sn,Sd];rw[b _ _ (by simp[OE])];simp only[sz,simprocAttr,ol];exact k _ rfl (by simp[OE]) λi hi=>by simp[OE,show ¬i=g.nx by omega]
theorem G8[XOc](hd:0<d)(hw:SlR P k g.h L w)(h0:0<L.flatten.length)(hl:L.flatten.length<=1000) :
  ∃r,ay C0 d 72 [w] g=.val r/\IT 0 L.flatten r:=by
 obtain⟨w',e,a⟩:=bj hw d;obtain⟨rows,C,K,D,M⟩:=pJ (a .nil);have lw:∀g:G,bY .slice w' g=.val (T8 (L.length:Int)):=λg=>(a .nil).len g;have f:∀j,((L.take j).flatten).length<=L.flatten.length:=λj=>by
  have:L.flatten=(L.take j).flatten++(L.drop j).flatten:=by rw[<-List.flatten_append,Rk]
  rw[this,Q3];omega
 have l:∀j c,L[j]?=some c->(L.take (j+1)).flatten=(L.take j).flatten++c:=λj c hc=>by have hi:=Qs.1 hc;rw[QG hi.1,hi.2,List.flatten_append];simp
 obtain⟨n,x⟩:∃n,n=L.flatten.length:=⟨_,rfl⟩;rw[<-x]at h0 hl f;rw[mW];refine bK pq (xs:=[w']) (by simp only[aF,e]) (by simp[eG]) (bi _) (by decide) hd ?_;simp only[sz,simprocAttr,eG,gD,gF,lw];refine aM (m:=L.length) (a .nil).1 (λj t df g=>df=[]/\g=G.empty/\St t [(0,w'),(9,w'),(3,T8 (((L.take j).flatten.length:Nat):Int))]) ⟨rfl,rfl,by simp[St,sx]⟩ (by simp[sx]) (by simp[sx]) (by decide)
  (by rintro j t df g v s (rfl|rfl|rfl) ⟨a1,a2,⟨b1,b2,H,-⟩⟩<;>exact⟨a1,a2,by simp[St,sx,b1,b2,H]⟩) ?_ ?_
 ·rintro j t df g u ⟨rfl,rfl,⟨h0,h9,h3,-⟩⟩ p h10;obtain⟨c,hc,-,-⟩:=ae u;obtain⟨z,A,B,hz⟩:=D j c hc;have lz:∀g:G,bY .slice z g=.val (T8 (c.length:Int)):=λg=>hz.len g;have hs:=l j c hc;have hb:=f (j+1);have w1:IntKind.wrap .i64 ((((L.take j).flatten.length:Nat):Int)+(c.length:Int))=(((L.take (j+1)).flatten.length:Nat):Int):=by rw[hs,Q3]at hb ⊢;rw[aB (by omega) (by omega)];omega
  have d1:¬(((L.take (j+1)).flatten.length:Nat):Int)<0:=by omega
  simp only[sz,simprocAttr,h9,p,C,A,B,h3,lz,w1,d1];simp[St,sx,h0,h9,h10]
 ·rintro t df g ⟨rfl,rfl,⟨o,h9,h3,-⟩⟩;rw[QV,<-x]at h3;simp only[sz,simprocAttr,gH,h3];refine Lw (n:=n) h0 hl λg2 n2 g0 f2=>?_;simp only[sz,simprocAttr,o,lw,gE];refine aM (m:=L.length) (a .nil).1 (λj t df g=>df=[]/\g.nx=1/\g.h.get 0=.cells 1 ((L.take j).flatten.map ci++List.replicate (n - (L.take j).flatten.length) [T8 0]) 0 true false/\St t [(25,w'),(6,.hsl 0 0 0 (L.take j).flatten.length none)]) ⟨rfl,n2,by have:g2.h.get 0=_:=g0;simpa using this,by simp[St,sx]⟩ (by simp[sx]) (by simp[sx]) (by decide)
   (by rintro j t df g v s (rfl|rfl|rfl) ⟨a1,a2,E,⟨b1,b2,-⟩⟩<;>exact⟨a1,a2,E,by simp[St,sx,b1,b2]⟩) ?_ ?_
  ·rintro j t df g u ⟨rfl,y,hg0,⟨b,h6,-⟩⟩ i q;obtain⟨c,hc,-,-⟩:=ae u;obtain⟨z,A,B,hz⟩:=D j c hc;have hs:=l j c hc;have hb:=f (j+1);rw[hs,Q3]at hb;simp only[sz,simprocAttr,b,i,C,A,B,h6];obtain⟨F,I⟩:∃F,F=(L.take j).flatten:=⟨_,rfl⟩;rw[hs];rw[<-I]at hg0 hb ⊢;have e1:(F.map ci++List.replicate (n - F.length) [T8 0]).take F.length=F.map ci:=by rw[List.take_append_of_le_length (by simp),QF (by simp)]
   have e2:(F.map ci++List.replicate (n - F.length) [T8 0]).drop (F.length+(c.map ci).length)=List.replicate (n - (F++c).length) [T8 0]:=by rw[List.drop_append,List.drop_eq_nil_of_le (by simp)];simp;omega
   refine Im (new:=c.map ci) hg0 (hz.tree (h':=g.h) (Qq _)).ints (by simp;omega) (by simp;unfold aS;omega) λg3 n3 q3 f3=>?_;rw[e1,e2,<-Rj,<-Rx]at q3;simp only[sz,simprocAttr];exact⟨⟨by omega,q3,by simp[St,sx,b]⟩,by simp[i],by simp[q]⟩
  ·rintro t df g ⟨rfl,y,hg0,⟨b,h6,-⟩⟩;rw[QV]at h6 hg0;simp only[sz,simprocAttr,gG,h6];have J:Own g 0 (.hsl 0 0 0 L.flatten.length none) 1 (L.flatten.map ci):=.inr ⟨0,0,true,Qq _,by omega,by rw[QA],by rw[hg0,<-x];simp⟩;exact⟨_,J.ints (by omega)⟩
theorem Js{f:Nat->Int}{N W:Nat}{c p:Nat->Bool}{x:Nat->Int}{M:Int}(hf:∀j,j<W->0<=f j/\f j<(N:Int))(hx:∀j,j<W->0<=x j/\x j<=M)(hcp:∀j,j<W->c j=true->p j=true):∀j,j<=W->∀i:Nat,(S.OK f N c x j)[i]?.getD 0<=(S.OK f N p x j)[i]?.getD 0
 |0,_,i=>SQ _
 | j+1,h,i=>by
  have ih:=Js hf hx hcp j (by omega) i;have k:=hf j (by omega);have a:=hx j (by omega);have key:∀(l:List Int),l.length=N->(S.Pp l (f j) (x j))[i]?.getD 0=if (f j).toNat=i then max (l[i]?.getD 0) (x j) else l[i]?.getD 0:=λl hl=>by
   rw[S.Pp,Rq]
   by_cases e:(f j).toNat=i
   ·subst e;rw[Qw rfl,Qw rfl,Qw (by omega),Qz]
   ·rw[Qu e,Qu e]
  rw[S.OK,S.OK];cases hc:c j with
  | true =>
   rw[hcp j (by omega) hc,Qw rfl,Qw rfl,key _ (gR _ _ _ _ _),key _ (gR _ _ _ _ _)]
   split<;>omega
  | false =>
   rw[Qu (by decide)];cases hp:p j with
   | true =>
    rw[Qw rfl,key _ (gR _ _ _ _ _)]
    split<;>omega
   |false=>rw[Qu (by decide)];exact ih
theorem H8{m:List Int}(hl:l.length=m.length)(h:∀i:Nat,l[i]?.getD 0<=m[i]?.getD 0):l.sum<=m.sum:=by
 induction l generalizing m with
 | nil=>cases m with
  |nil=>exact SQ _
  |cons b m=>simp at hl
 | cons a l ih=>cases m with
  |nil=>simp at hl
  | cons b m =>
   have h0:a<=b:=by simpa using h 0
   have:=ih (m:=m) (by simpa using hl) λi=>by simpa using h (i+1)
   rw[Sb,Sb];omega
theorem HM(hr:NR n){l2:List Int}(h:∀w,w<S.OD n->S.Ph n vars l w=true->S.Ph n vars l2 w=true):S.PG n e vars (S.OJ n vars) l<=S.PG n e vars (S.OJ n vars) l2:=by unfold S.PG;refine H8 (by rw[gR,gR]) (Js (W:=S.OD n) (M:=167961600000000) (λj _=>wQ hr pF j) (λj _=>uB hr j) (λj hj hc=>?_) _ (Qq _));simp only[Qt]at hc ⊢;exact⟨hc.1,h j hj hc.2⟩
theorem Cu{f:Nat->Int}{N W:Nat}{c:Nat->Bool}{x:Nat->Int}{M:Int}(hf:∀j,j<W->0<=f j/\f j<(N:Int))(hx:∀j,j<W->0<=x j/\x j<=M)(hi:∀i j,i<j->j<W->c i=true->c j=true->f i≠f j) :
  ∀j,j<=W->(∀i:Nat,(∀k,k<j->c k=true->f k≠(i:Int))->(S.OK f N c x j)[i]?.getD 0=0)/\(S.OK f N c x j).sum=((List.range j).map λk=>if c k then x k else 0).sum
 | 0,_=>⟨λi _=>by
   rw[S.OK,Sg]
   split<;>rfl,by simp[S.OK]⟩
 | j+1,h=>by
  obtain⟨h1,h2⟩:=Cu hf hx hi j (by omega);have b:=hf j (by omega);have a:=hx j (by omega);have hlt:(f j).toNat<(S.OK f N c x j).length:=by rw[gR];omega
  rw[S.OK,Ry,Rx,S3,<-h2];cases hc:c j with
  | true =>
   have h0:=h1 (f j).toNat λk hk hck=>by have:=hi k j hk (by omega) hck hc;omega
   rw[Qw rfl];refine⟨λi hik=>?_,?_⟩
   ·rw[S.Pp,Rq];have:(f j).toNat≠i:=λe=>hik j (by omega) hc (by omega);rw[Qu this];exact h1 i λk hk=>hik k (by omega)
   ·rw[S.Pp,Dy hlt,h0,Int.max_eq_right a.1];simp[hc]
  | false =>
   rw[Qu (by decide)];exact⟨λi hik=>h1 i λk hk=>hik k (by omega),by simp[hc]⟩
theorem Dx(n:Net)(p:Nat->Bool):∀j,S.OH n p j=((List.range j).map λk=>if p k then S.wt n k else 0).sum
 |0=>rfl
 |j+1=>by rw[S.OH,Dx n p j,Ry,Rx,S3];simp[S.wt]
theorem LT{v:Nat}(hv:v<n.nodes.length):(v:Int)∈vars\/(v:Int)∈S.OJ n vars:=by
 by_cases h:(v:Int)∈vars
 ·exact .inl h
 ·exact .inr (List.mem_filter.2 ⟨Rb.2 ⟨v,QE.2 hv,rfl⟩,by simpa using h⟩)
theorem yA{a ps:List Int}(h:S.OA a ps=S.OA b ps){v:Nat}(hv:(v:Int)∈ps):a[v]?.getD 0=b[v]?.getD 0:=by obtain⟨i,hi,he⟩:=RP.1 hv;have:=congrArg (·[i]?) h;simp only[S.OA,Qv,Qr hi,he,RK,RN]at this;simpa using this
theorem Ke(hr:NR n)(hp:S.OF vars (n.nodes.length:Int)=true)(hl:l.length=vars.length) :
  S.PG n e vars (S.OJ n vars) l=S.OH n (λw=>S.pe n e w&&S.Ph n vars l w) (S.OD n):=by
 have q:=hr.l2;have a:=λc hc=>(hr.cs c hc).1;have b:CsOk (S.Oz n):=⟨hr.cs,by rw[aw];omega⟩;have d:S.nc (S.Oz n)=S.OD n:=rfl;rw[Dx];unfold S.PG;refine (Cu (W:=S.OD n) (M:=167961600000000) (λj _=>wQ hr pF j) (λj _=>uB hr j) (λi j hij hj hi' hj' he=>?_) _ (Qq _)).2;simp only[Qt]at hi' hj';have b1:=ST hi'.2;have b2:=ST hj'.2;have ii:=bu a (i:Int);have ij:=bu a (j:Int);have vl:∀k:Int,(S.OE (S.Oz n) k).length=n.nodes.length:=λk=>by rw[h_,aw]
 have m:∀k:Int,(S.OA (S.OE (S.Oz n) k) vars).length=l.length:=λk=>by simp[S.OA,hl]
 rw[<-m (i:Int),QV]at b1;rw[<-m (j:Int),QV]at b2;have oC:=λk=>d6 (bu a k) (ps:=S.OJ n vars) (λp hpm=>by rw[aw];exact pF p hpm);have f:=bF (ps:=S.OJ n vars) hr.cs (λp hpm=>by rw[aw];exact pF p hpm);have o:S.OA (S.OE (S.Oz n) (i:Int)) (S.OJ n vars)=S.OA (S.OE (S.Oz n) (j:Int)) (S.OJ n vars):=by rw[<-cd (λc hc=>(f c hc).1) (oC (i:Int)),<-cd (λc hc=>(f c hc).1) (oC (j:Int))];exact congrArg _ he
 have hv:S.OE (S.Oz n) (i:Int)=S.OE (S.Oz n) (j:Int):=by
  refine RW λv=>?_
  by_cases hvl:v<n.nodes.length
  ·have hg:(S.OE (S.Oz n) (i:Int))[v]?.getD 0=(S.OE (S.Oz n) (j:Int))[v]?.getD 0:=by
    rcases LT (vars:=vars) hvl with h|h
    ·exact yA (by rw[b1,b2]) h
    ·exact yA o h
   rw[Qr (by rw[vl];exact hvl),Qr (by rw[vl];exact hvl)]at hg ⊢;exact congrArg some hg
  ·rw[Ri (by rw[vl];omega),Ri (by rw[vl];omega)]
 have h1:=jG b i (by rw[d];omega);have h2:=jG b j (by rw[d];omega);rw[hv,h2]at h1;omega
theorem mS{n:Int}:S.Pm l n i=true↔0<=l[i]?.getD 0/\l[i]?.getD 0<n/\(i=0\/l[i - 1]?.getD 0<l[i]?.getD 0):=by simp[S.Pm,and_assoc]
theorem C4{n:Int}(h:S.OF l n=true)(hn:n<=m):S.OF l m=true:=by refine QB.2 λi hi=>?_;have:=mS.1 (QB.1 h i hi);exact mS.2 ⟨this.1,by omega,this.2.2⟩
theorem C5(h:S.OF l (j:Int)=true):S.OF (l++[(j:Int)]) ((j+1:Nat):Int)=true:=by
 refine QB.2 λi hi=>?_;have hi:=QE.1 hi;rw[Q3,R_]at hi;rw[mS]
 by_cases c:i<l.length
 ·have:=mS.1 (QB.1 h i (QE.2 c));rw[QK c,QK (by omega)];exact⟨this.1,by omega,this.2.2⟩
 ·have e:i=l.length:=by omega
  subst e;rw[QL (Qq _),Rm,List.getElem?_cons_zero,Qz];refine⟨by omega,by omega,?_⟩
  by_cases c0:l.length=0
  ·exact .inl c0
  ·right;rw[QK (by omega),Qr (by omega),Qz];exact (aZ h _ (RS _)).2
def NU(m:Nat):VS:=λP k h v=>∃l:List Int,S.OF l (m:Int)=true/\M7 l P k h v
theorem Mp(m:Nat):Snb (NU m) 0:=uq λl=>Dr l
theorem JV[XOc]{m:Nat}{s:UInt8}(hd:0<d)(hm:m<=8):∃r,ay C0 d 32 [u8v s,T8 (m:Int)] g=.val r/\NU m NoP 0 .nil r:=by
 rw[uO];refine bK xO (xs:=[u8v s,T8 (m:Int)]) (by simp only[aF,u8v,iK]) (by simp[nh]) (Mp m) (by decide) hd ?_;simp only[sz,simprocAttr,nh,od,oe];refine d7 m (by omega) (λj t df g=>df=[]/\St t [(0,u8v s),(1,T8 (m:Int))]/\∃l:List Int,S.OF l (j:Int)=true/\Own g 0 (tat t 5) 1 (l.map ci)) ⟨rfl,by simp[St,sx],[],by decide,.inl ⟨by simp[sx],rfl⟩⟩ (by simp[sx]) (by decide)
  (by rintro i t df g v s (rfl|rfl|rfl) ⟨a1,⟨b1,b2,-⟩,c1⟩<;>exact⟨a1,by simp[St,sx,b1,b2],by simpa [sx] using c1⟩) ?_ ?_ ?_
 ·rintro j t df g u ⟨rfl,⟨h0,h1,-⟩,l,hl,ho⟩ h6
  by_cases c:j<m
  ·have c1:(j:Int)<(m:Int):=by omega
   have q:(j:Int)<8:=by omega
   simp only[sz,simprocAttr,h1,h6,c1,q];exact⟨by simp[St,sx,h0,h1],l,hl,ho⟩
  ·have c1:¬(j:Int)<(m:Int):=by omega
   simp only[sz,simprocAttr,h1,h6,c1];exact⟨by simp[St,sx,h0,h1],l,hl,ho⟩
 ·rintro j t df g u ⟨rfl,⟨h0,h1,-⟩,l,hl,ho⟩ h6;obtain⟨o,b⟩:=uI s.toNat j;obtain⟨p,n⟩:=uH o 1;have k:cx .and (.int .u8 (o:Int)) (.int .u8 1)=.val (.int .u8 p):=n;have w1:IntKind.wrap .u64 (j:Int)=(j:Int):=xa (by omega) (by omega);have f:=bH hl (by omega)
  by_cases c:p=1
  ·simp only[sz,simprocAttr,h0,h6,u8v,w1,b,k,c];refine bg (ho.fr (g':=_) (by simp<;>omega) (λi hi=>?_)) (new:=[[T8 (j:Int)]]) ?_ (by simp<;>omega) (by simp[aS]<;>omega) λv5 g5 o5 n5 f5 w5 _=>?_
   ·have:=ho.lt hi;simp[OE];omega
   ·simp[am,OE];rfl
   simp only[sz,simprocAttr];refine⟨⟨by simp[St,sx,h0,h1,u8v],_,C5 hl,?_⟩,by simp[h6]⟩;simpa [sx,ci] using o5
  ·simp only[sz,simprocAttr,h0,h6,u8v,w1,b,k,c];exact⟨by simp[St,sx,h0,h1,u8v],l,C4 hl (by omega),ho⟩
 ·rintro t df g ⟨rfl,-,l,hl,ho⟩;have f:=bH hl (by omega);simp only[kB,sz,simprocAttr,oh];refine⟨λ_=>True,l,hl,ho.sl (α:=Int) (by omega) (Oz (λa=>aG.2 rfl) _) λ_ _=>trivial,?_⟩;rcases ho with⟨h,-⟩|⟨id,ep,lo,-,-,h,-⟩<;>(rw[h];intro _ _ _ e;cases e)
theorem Fd[XOc](g:G):ay C0 1 12 [] g=.val (.bool true):=by kernel_rfl
theorem AF(W:List Int):∀j i,i<=j->W[i]?.getD 0<=W[S.OY W j]?.getD 0/\(i<S.OY W j->W[i]?.getD 0<W[S.OY W j]?.getD 0)
 | 0,i,hi=>by
  have:i=0:=by omega
  subst this;exact⟨SQ _,λh=>by rw[S.OY]at h;omega⟩
 | j+1,i,hi=>by
  have k:=DW W j;rw[S.OY]
  by_cases c:W[S.OY W j]?.getD 0<W[j+1]?.getD 0
  ·rw[Qw c]
   by_cases e:i=j+1
   ·subst e;exact⟨SQ _,λh=>by omega⟩
   ·have:=(AF W j i (by omega)).1;exact⟨by omega,λ_=>by omega⟩
  ·rw[Qu c]
   by_cases e:i=j+1
   ·subst e;exact⟨by omega,λh=>by omega⟩
   ·exact AF W j i (by omega)
theorem yf:∀{cs l m:List Int},(∀c∈cs,1<=c/\c<=4)->InC cs l->InC cs m->S.O7 l m=S.OS (S.OC cs l) (S.OC cs m)
 |[],[],[],_,_,_=>rfl
 | c::cs,a::l,b::m,hc,hl,hm=>by
  have ih:=yf (λc h=>hc c (Q9 _ h)) hl.2 hm.2;obtain⟨e,l1⟩:=bz (λc h=>hc c (Q9 _ h)) hl.2;obtain⟨f,d⟩:=bz (λc h=>hc c (Q9 _ h)) hm.2;show S.O7 (a::l) (b::m)=S.OS (a*S.OB cs+S.OC cs l) (b*S.OB cs+S.OC cs m);obtain⟨P,k⟩:∃P,P=S.OB cs:=⟨_,rfl⟩;rw[<-k]at l1 d ⊢;rw[S.O7];rcases Int.lt_trichotomy a b with h|h|h
  ·have h1:a*P+P<=b*P:=by have h3:(a+1)*P<=b*P:=RD (by omega) (by omega);rw[SJ,Tl]at h3;exact h3
   have e1:S.OS a b = -1:=Qw h;rw[e1,Qw (by decide),S.OS,Qw (by omega)]
  ·subst h;have e1:S.OS a a=0:=by rw[S.OS,Qu (by omega),Qu (by omega)]
   rw[e1,Qu (by decide),ih];unfold S.OS
   split
   ·rw[Qw (by omega)]
   ·split
    ·rw[Qu (by omega),Qw (by omega)]
    ·rw[Qu (by omega),Qu (by omega)]
  ·have h1:b*P+P<=a*P:=by have h3:(b+1)*P<=a*P:=RD (by omega) (by omega);rw[SJ,Tl]at h3;exact h3
   have e1:S.OS a b=1:=by rw[S.OS,Qu (by omega),Qw h]
   rw[e1,Qw (by decide),S.OS,Qu (by omega),Qw (by omega)]
def S.O4(cs:List Int)(cl:List Int->Bool):Nat->List Int->List (List Int)
 |0,b=>[b]
 |f+1,b=>if cl b then [b] else (List.range ((cs[b.length]?.getD 0).toNat)).flatMap λx:Nat=>S.O4 cs cl f (b++[((x:Nat):Int)])
theorem rk(hb:InC (cs.take b.length) b)(hc:cs[b.length]?=some c)(h0:0<=x)(h1:x<c):InC (cs.take (b++[x]).length) (b++[x]):=by have hi:=Qs.1 hc;rw[Q3,R_,QG hi.1,hi.2];exact All2.append hb ⟨⟨h0,h1⟩,trivial⟩
theorem Gj{cs:List Int}{cl:List Int->Bool}(hfull:∀l,InC cs l->cl l=true):∀(f:Nat) (b:List Int),b.length+f=cs.length->InC (cs.take b.length) b->∀l∈S.O4 cs cl f b,InC (cs.take l.length) l/\l.length<=cs.length/\cl l=true
 | 0,b,hf,hb,l,hl=>by
  have:l=b:=by simpa [S.O4] using hl
  subst this;refine⟨hb,by omega,hfull l ?_⟩;rwa [QF (by omega)]at hb
 | f+1,b,hf,hb,l,hl=>by
  rw[S.O4]at hl
  split at hl
  ·rename_i c;have:l=b:=by simpa using hl
   subst this;exact⟨hb,by omega,c⟩
  ·obtain⟨x,hx,hl⟩:=Sk.1 hl;have hx:=QE.1 hx;obtain⟨c,hc⟩:∃c,cs[b.length]?=some c:=⟨_,Qr (by omega)⟩;rw[hc,Qz]at hx;exact Gj hfull f (b++[(x:Int)]) (by simp;omega) (rk hb hc (by omega) (by omega)) l hl
theorem wF(cs:List Int)(p r:List (List Int))(i:Nat):S.OG cs (p++r) i=S.OG cs p i+S.OG cs r i:=by unfold S.OG;rw[Th,Q3]
theorem tM(cs b:List Int)(i:Nat):S.OG cs [b] i=if S.O5 cs b i then 1 else 0:=by
 unfold S.OG
 by_cases h:S.O5 cs b i=true<;>simp[h]
theorem Cv(hcs:CsOk cs)(hb:InC (cs.take b.length) b)(hc:cs[b.length]?=some c)(h0:0<=x)(h1:x<c)(hi:i<S.nc cs) :
  S.O5 cs (b++[x]) i=(S.O5 cs b i&&decide ((S.OE cs (i:Int))[b.length]?.getD 0=x)):=by
 have hl:=(Qs.1 hc).1;rw[wH hcs (rk hb hc h0 h1) (by simp;omega) hi,wH hcs hb (by omega) hi];have hv:=h_ cs (i:Int);rw[Q3,R_,QG (by omega),Qr (by omega),Qz,<-Bool.decide_and];refine decide_eq_decide.2 ⟨λh=>?_,λh=>by rw[h.1,h.2]⟩;have:=List.append_inj h (by rw[QZ];omega);exact⟨this.1,by simpa using this.2⟩
theorem vz(hcs:CsOk cs)(hc:cs[k]?=some c)(i:Int):0<=(S.OE cs i)[k]?.getD 0/\(S.OE cs i)[k]?.getD 0<c:=by obtain⟨y,a,h⟩:=(bu (λc hc=>(hcs.b c hc).1) i).get hc;rw[a];exact h
theorem Gi{cs:List Int}{cl:List Int->Bool}(hcs:CsOk cs){i:Nat}(hi:i<S.nc cs):∀(f:Nat) (b:List Int),b.length+f=cs.length->InC (cs.take b.length) b->S.OG cs (S.O4 cs cl f b) i=if S.O5 cs b i then 1 else 0
 |0,b,_,_=>by rw[S.O4,tM]
 | f+1,b,hf,hb=>by
  rw[S.O4]
  split
  ·rw[tM]
  ·obtain⟨c,hc⟩:∃c,cs[b.length]?=some c:=⟨_,Qr (by omega)⟩;rw[hc,Qz];obtain⟨v0,k⟩:=vz hcs hc (i:Int);obtain⟨y,h⟩:∃y,y=(S.OE cs (i:Int))[b.length]?.getD 0:=⟨_,rfl⟩;rw[<-h]at v0 k;have key:∀m:Nat,(m:Int)<=c->S.OG cs ((List.range m).flatMap λx:Nat=>S.O4 cs cl f (b++[((x:Nat):Int)])) i=if S.O5 cs b i=true/\y<(m:Int) then 1 else 0:=by
    intro m
    induction m with
    |zero=>intro _;rw[Qu (by omega)];rfl
    | succ m ih =>
     intro hm;rw[Ry,SD,wF,ih (by omega)];simp only[Rl,Ru,QJ];rw[Gi hcs hi f (b++[(m:Int)]) (by simp;omega) (rk hb hc (by omega) (by omega)),Cv hcs hb hc (by omega) (by omega) hi,<-h];cases hh:S.O5 cs b i with
     |false=>simp
     | true =>
      simp only[Rz,QM,true_and]
      by_cases h1:y<(m:Int)
      ·rw[Qw h1,Qu (by omega),Qw (by omega)]
      ·by_cases h2:y=(m:Int)
       ·rw[Qu h1,Qw h2,Qw (by omega)]
       ·rw[Qu h1,Qu h2,Qu (by omega)]
   rw[key c.toNat (by omega)];have:y<(c.toNat:Int):=by omega
   simp only[this,and_true]
theorem FM(hcs:CsOk cs)(hi:i<S.nc cs):S.O5 cs [] i=true:=by rw[wH hcs (by trivial) (by simp) hi];rfl
section
variable {n:Net}{e vars:List Int}
def S.cv(n:Net)(vars:List Int):List Int:=S.OA (S.Oz n) vars
theorem kJ(hr:NR n)(hp:S.OF vars (n.nodes.length:Int)=true):CsOk (S.cv n vars)/\(S.cv n vars).length=vars.length:=by
 have a:=hr.l2;have b:=bH hp (by omega);have k:=bF (ps:=vars) hr.cs (λp hpm=>by rw[aw];exact aZ hp p hpm);have h:(S.cv n vars).length=vars.length:=by simp[S.cv,S.OA]
 exact⟨⟨k,by omega⟩,h⟩
def S.Pi(n:Net)(e vars:List Int)(l:List Int):Bool:=S.OU n vars (S.OJ n vars) (S.OP n e) (S.ON n e vars) l (S.OZ n e vars)
def S.PM(n:Net)(e vars:List Int):List (List Int):=S.O4 (S.cv n vars) (S.Pi n e vars) vars.length []
theorem xi(hr:NR n)(hp:S.OF vars (n.nodes.length:Int)=true):S.Pg n e vars<S.nc (S.cv n vars):=by have:=(kJ hr hp).1.nc.1;have h:=DW (S.OV n e vars (S.OD n)) (S.nc (S.cv n vars) - 1);have:S.Pg n e vars<=S.nc (S.cv n vars) - 1:=h;omega
theorem nJ(hr:NR n)(hp:S.OF vars (n.nodes.length:Int)=true):InC (S.cv n vars) (S.ON n e vars):=bu (λc hc=>((kJ hr hp).1.b c hc).1) _
theorem BQ(hr:NR n)(hp:S.OF vars (n.nodes.length:Int)=true):S.OC (S.cv n vars) (S.ON n e vars)=(S.Pg n e vars:Int):=jG (kJ hr hp).1 _ (xi hr hp)
theorem BZ(hr:NR n)(hp:S.OF vars (n.nodes.length:Int)=true):S.Pz n e vars (S.ON n e vars)=S.OZ n e vars:=by have:=Fz (e:=e) hr hp (kJ hr hp).1 (xi (e:=e) hr hp);unfold S.OZ;rw[this];rfl
theorem BU(hr:NR n)(hp:S.OF vars (n.nodes.length:Int)=true)(hl:InC (S.cv n vars) l):S.Pz n e vars l<=S.OZ n e vars/\(S.OC (S.cv n vars) l<(S.Pg n e vars:Int)->S.Pz n e vars l<S.OZ n e vars):=by
 obtain⟨k,d⟩:=kJ hr hp;obtain⟨i0,f⟩:=bz k.b hl;obtain⟨N1,N2,N3⟩:=k.nc;obtain⟨i,hi⟩:=QD i0;have a:i<S.nc (S.cv n vars):=by omega
 have hv:=Fz (e:=e) hr hp k a;have e1:S.OE (S.cv n vars) (i:Int)=l:=by rw[<-hi];exact cd (λc hc=>(k.b c hc).1) hl
 have e2:S.OE (S.OA (S.Oz n) vars) (i:Int)=l:=e1;rw[e2]at hv;obtain⟨a1,a2⟩:=AF (S.OV n e vars (S.OD n)) (S.nc (S.cv n vars) - 1) i (by omega);rw[hv,Qz]at a1 a2;refine⟨a1,λh=>a2 ?_⟩;rw[hi]at h;have:i<S.Pg n e vars:=by omega
 exact this
theorem BV(hr:NR n)(hp:S.OF vars (n.nodes.length:Int)=true)(hl:l.length=vars.length):S.Pn n vars (S.OJ n vars) (S.OP n e) l=S.Pz n e vars l:=by rw[AG hr,Ke hr hp hl];rfl
theorem AY(hr:NR n)(hp:S.OF vars (n.nodes.length:Int)=true)(hl:InC (S.cv n vars) l):S.Pi n e vars l=true:=by
 obtain⟨a,f⟩:=kJ hr hp;have i:l.length=vars.length:=by rw[<-f];exact hl.len
 have hb:=nJ (e:=e) hr hp;have o:(S.ON n e vars).length=vars.length:=by rw[<-f];exact hb.len
 obtain⟨s,p⟩:=BU (e:=e) hr hp hl;unfold S.Pi S.OU
 by_cases c:l=S.ON n e vars
 ·rw[Rf c,SG]
 ·rw[BV hr hp i]
  by_cases c2:S.Pz n e vars l<S.OZ n e vars
  ·rw[Rf c2,SG,Bool.or_true]
  ·have j:S.Pz n e vars l=S.OZ n e vars:=by omega
   have q:¬S.OC (S.cv n vars) l<(S.Pg n e vars:Int):=λh=>c2 (p h);have m:=BQ (e:=e) hr hp;have r:S.OC (S.cv n vars) l≠S.OC (S.cv n vars) (S.ON n e vars):=λh=>c (by
    have k:=λc hc=>(a.b c hc).1;rw[<-cd k hl,<-cd k hb,h])
   have d:=yf a.b hl hb;have:S.OS (S.OC (S.cv n vars) l) (S.OC (S.cv n vars) (S.ON n e vars))=1:=by rw[S.OS,Qu (by omega),Qw (by omega)]
   rw[this]at d;rw[QF (by omega),d,Rf j];simp
theorem sT(hr:NR n)(hp:S.OF vars (n.nodes.length:Int)=true)(hl:InC ((S.cv n vars).take l.length) l)(hll:l.length<=vars.length):S.OM n vars l=true:=by rw[S.OM,Rf hll,Rz,QB];intro i hi;have hi:=QE.1 hi;obtain⟨c,hc,h⟩:=hl.get' (Qr hi);rw[Sr,Qw hi]at hc;have hc:(S.OA (S.Oz n) vars)[i]?=some c:=hc;rw[S.Pv,Qr hi,hc];simpa using h
theorem zz(hr:NR n)(hp:S.OF vars (n.nodes.length:Int)=true)(h1:∀l∈proof,InC ((S.cv n vars).take l.length) l/\l.length<=vars.length/\S.Pi n e vars l=true)(h2:∀i,i<S.nc (S.cv n vars)->S.OG (S.cv n vars) proof i=1):S.Pa n e vars (S.ON n e vars) proof=true:=by
 obtain⟨a,k⟩:=kJ hr hp;have h:(S.ON n e vars).length=vars.length:=by rw[<-k];exact (nJ (e:=e) hr hp).len
 rw[S.Pa,GE h,BZ hr hp,Qt,Qt];refine⟨QB.2 λl hl=>sT hr hp (h1 l hl).1 (h1 l hl).2.1,QB.2 λi hi=>Rf (h2 i (QE.1 hi)),QB.2 λl hl=>(h1 l hl).2.2⟩
theorem HJ(hr:NR n)(hp:S.OF vars (n.nodes.length:Int)=true):S.Pa n e vars (S.ON n e vars) (S.PM n e vars)=true:=by
 obtain⟨h,k⟩:=kJ hr hp;refine zz hr hp (λl hl=>?_) λi hi=>?_
 ·have:=Gj (λl hl=>AY (e:=e) hr hp hl) vars.length [] (by simp[k]) (by trivial) l hl;exact⟨this.1,by omega,this.2.2⟩
 ·rw[S.PM,Gi h hi vars.length [] (by simp[k]) (by trivial),FM h hi,Qw rfl]
def S.Po(cs:List Int):Nat->List (List Int)
 |0=>[[]]
 |k+1=>(S.Po cs k).flatMap λb=>(List.range ((cs[k]?.getD 0).toNat)).map λx:Nat=>b++[((x:Nat):Int)]
theorem tQ{cs:List Int}:∀k,k<=cs.length->∀l∈S.Po cs k,l.length=k/\InC (cs.take k) l
 | 0,_,l,hl=>by
  have:l=[]:=by simpa [S.Po] using hl
  subst this;exact⟨rfl,trivial⟩
 | k+1,hk,l,hl=>by obtain⟨b,hb,hl⟩:=Sk.1 hl;obtain⟨x,hx,rfl⟩:=Rb.1 hl;have hx:=QE.1 hx;obtain⟨h1,h2⟩:=tQ k (by omega) b hb;obtain⟨c,hc⟩:∃c,cs[k]?=some c:=⟨_,Qr (by omega)⟩;rw[hc,Qz]at hx;subst h1;have:=rk h2 hc (x:=(x:Int)) (by omega) (by omega);refine⟨by simp,?_⟩;simpa using this
theorem Lk(hcs:CsOk cs)(hb:InC (cs.take b.length) b)(hc:cs[b.length]?=some c)(hi:i<S.nc cs):∀m:Nat,(m:Int)<=c->S.OG cs ((List.range m).map λx:Nat=>b++[((x:Nat):Int)]) i=if S.O5 cs b i=true/\(S.OE cs (i:Int))[b.length]?.getD 0<(m:Int) then 1 else 0:=by
 obtain⟨v0,k⟩:=vz hcs hc (i:Int);obtain⟨y,h⟩:∃y,y=(S.OE cs (i:Int))[b.length]?.getD 0:=⟨_,rfl⟩;rw[<-h]at v0 k ⊢;intro m
 induction m with
 |zero=>intro _;rw[Qu (by omega)];rfl
 | succ m ih =>
  intro hm;rw[Ry,Rx,wF,ih (by omega)];simp only[Sv,RQ];rw[tM,Cv hcs hb hc (by omega) (by omega) hi,<-h];cases hh:S.O5 cs b i with
  |false=>simp
  | true =>
   simp only[Rz,QM,true_and]
   by_cases h1:y<(m:Int)
   ·rw[Qw h1,Qu (by omega),Qw (by omega)]
   ·by_cases h2:y=(m:Int)
    ·rw[Qu h1,Qw h2,Qw (by omega)]
    ·rw[Qu h1,Qu h2,Qu (by omega)]
theorem Cb{cs:List Int}(hcs:CsOk cs){i:Nat}(hi:i<S.nc cs):∀k,k<=cs.length->S.OG cs (S.Po cs k) i=1
 |0,_=>by rw[S.Po,tM,FM hcs hi];rfl
 | k+1,hk=>by
  obtain⟨c,hc⟩:∃c,cs[k]?=some c:=⟨_,Qr (by omega)⟩;have h:=hcs.b c (Qx hc);obtain⟨v0,a⟩:=vz hcs hc (i:Int);have key:∀L:List (List Int),(∀l∈L,l.length=k/\InC (cs.take k) l)->S.OG cs (L.flatMap λb=>(List.range (c.toNat)).map λx:Nat=>b++[((x:Nat):Int)]) i=S.OG cs L i:=by
   intro L
   induction L with
   |nil=>intro _;rfl
   | cons b L ih =>
    intro hL;obtain⟨h1,h2⟩:=hL b (by simp);subst h1;rw[Rl,wF,ih λl hl=>hL l (Q9 _ hl),Lk hcs h2 hc hi _ (by omega),show b::L=[b]++L from rfl,wF,tM];congr 1;have:(S.OE cs (i:Int))[b.length]?.getD 0<(c.toNat:Int):=by omega
    simp only[this,and_true]
  rw[S.Po,hc,Qz,key _ (tQ k (by omega)),Cb hcs hi k (by omega)]
theorem Hc(hr:NR n)(hp:S.OF vars (n.nodes.length:Int)=true):S.Pa n e vars (S.ON n e vars) (S.Po (S.cv n vars) vars.length)=true:=by obtain⟨h,k⟩:=kJ hr hp;refine zz hr hp (λl hl=>?_) λi hi=>Cb h hi _ (by omega);obtain⟨h1,h2⟩:=tQ vars.length (by omega) l hl;refine⟨by rw[h1];exact h2,by omega,AY hr hp ?_⟩;rwa [QF (by omega)]at h2
theorem D8(hr:NR n)(k:Nat):S.Pn n vars (S.OJ n vars) (S.OP n e) l<=S.Pn n vars (S.OJ n vars) (S.OP n e) (l.take k):=by rw[AG hr,AG hr];refine HM hr λw _ h=>?_;have h:=ST h;refine Rf ?_;have:=congrArg (List.take k) h;rw[List.take_take]at this;rw[QZ];exact this
theorem zZ:∀{l m:List Int} (k:Nat),l.length=m.length->S.O7 l m<0->S.O7 (l.take k) (m.take k)<=0
 |_,_,0,_,_=>by simp[S.O7]
 |[],[],k+1,_,h=>by simp[S.O7]
 |[],_::_,_,h,_=>by cases h
 |_::_,[],_,h,_=>by cases h
 | a::l,b::m,k+1,hl,h=>by
  rw[R8,R8];rw[S.O7]at h ⊢
  split at h
  ·rename_i c;rw[Qw c];omega
  ·rename_i c;rw[Qu c];exact zZ k (by simpa using hl) h
theorem Dh(hr:NR n)(hp:S.OF vars (n.nodes.length:Int)=true)(hl:InC (S.cv n vars) l)(h:S.Pa n e vars l proof=true):l=S.ON n e vars:=by
 obtain⟨d,o⟩:=kJ hr hp;have i:=λc hc=>(d.b c hc).1;have m:l.length=vars.length:=by rw[<-o];exact hl.len
 have hb:=nJ (e:=e) hr hp;have q:(S.ON n e vars).length=vars.length:=by rw[<-o];exact hb.len
 have s:=BQ (e:=e) hr hp;have hlt:=xi (e:=e) hr hp;obtain⟨y,u⟩:=BU (e:=e) hr hp hl;rw[S.Pa,GE m,Qt,Qt]at h;obtain⟨v,q2,q3⟩:=h;have j:=ST (QB.1 q2 (S.Pg n e vars) (QE.2 hlt));obtain⟨b,f,a⟩:∃b∈proof,S.O5 (S.cv n vars) b (S.Pg n e vars)=true:=by
  have:0<(proof.filter λb=>S.O5 (S.cv n vars) b (S.Pg n e vars)).length:=by have:S.OG (S.cv n vars) proof (S.Pg n e vars)=1:=j;unfold S.OG at this;omega
  obtain⟨b,hb⟩:=List.exists_mem_of_length_pos this;exact⟨b,(List.mem_filter.1 hb).1,(List.mem_filter.1 hb).2⟩
 obtain⟨b1,b2⟩:=wD (QB.1 v b f);have p:InC ((S.cv n vars).take b.length) b:=b2;rw[wH d p (by omega) hlt]at a;have k:(S.ON n e vars).take b.length=b:=ST a;have hcl:=QB.1 q3 b f;unfold S.OU at hcl;simp only[Rg,Qt,QM]at hcl;have t:S.OZ n e vars<=S.Pn n vars (S.OJ n vars) (S.OP n e) b:=by rw[<-BZ hr hp,<-BV hr hp q,<-k];exact D8 hr _
 rcases hcl with h1|h1|⟨h1,h2⟩
 ·have:b.length=vars.length:=by rw[h1,m]
  rw[QF (by omega)]at k;rw[<-h1,k]
 ·omega
 ·have w:¬S.OC (S.cv n vars) l<(S.Pg n e vars:Int):=λh=>by have:=u h;omega
  by_cases c:l=S.ON n e vars
  ·exact c
  ·exfalso;have x:S.OC (S.cv n vars) l≠S.OC (S.cv n vars) (S.ON n e vars):=λh=>c (by
    rw[<-cd i hl,<-cd i hb,h])
   have r:=yf d.b hb hl;rw[S.OS,Qw (by omega)]at r;have:=zZ b.length (by omega) (show S.O7 (S.ON n e vars) l<0 by omega);rw[k]at this;omega
end
section
variable {qp bv vw:AV}
theorem Bg{cs:List Int}{cl:List Int->Bool}(hc:∀c∈cs,1<=c/\c<=4):∀(f:Nat) (b:List Int),b.length+f=cs.length->(S.O4 cs cl f b).length<=4 ^ f
 |0,_,_=>by simp[S.O4]
 | f+1,b,hf=>by
  have h1:1<=4 ^ (f+1):=Nat.one_le_pow _ _ (by decide);rw[S.O4]
  split
  ·simpa using h1
  ·obtain⟨c,h⟩:∃c,cs[b.length]?=some c:=⟨_,Qr (by omega)⟩;have:=hc c (Qx h);rw[h,Qz];have key:∀m:Nat,((List.range m).flatMap λx:Nat=>S.O4 cs cl f (b++[((x:Nat):Int)])).length<=m*4 ^ f:=by
    intro m
    induction m with
    |zero=>simp
    | succ m ih =>
     rw[Ry,SD,Q3,QX,RH];have:=Bg (cl:=cl) hc f (b++[((m:Nat):Int)]) (by simp;omega);simp only[Rl,Ru,QJ];omega
   refine QW (key c.toNat) ?_;rw[Nat.pow_succ,Tn];exact Nat.mul_le_mul_left _ (by omega)
theorem AU(hv:v.cells=[v])(tv:v.isTup=false)(hw:w.cells=[w])(tw:w.isTup=false)(g:G):II 1 2 [z] [0,1] [v,w] g=.upd (.hsl g.nx 0 0 2 none) (g.new (Tq 1 [[v],[w]])):=by
 have e:dH 1 [[z],[z]] [(0,v),(1,w)]=some [[v],[w]]:=by
  simp only[dH,hv,tv,hw,tw,aq,R_,notb_eq,Sx]
  rfl
 show (match dH 1 [[z],[z]] [(0,v),(1,w)] with|some rows=>OR.upd (.hsl g.nx 0 0 2 none) (g.new (Tq 1 rows))|none=>.fail)=_;rw[e]
theorem NE{N M:Nat}(hw:SlR NoP 0 .nil b w)(h1:h.get M=Tq 1 [[w],[.hsl N 0 0 1 none]])(h2:h.get N=Tq 1 [[T8 x]]):SlR (λ_=>True) 0 h [b,[x]] (.hsl M 0 0 2 none):=by
 refine⟨by simp,trivial,[[w],[.hsl N 0 0 1 none]],?_,ch.2 ⟨w,rfl,hw.wide (Qq 0)⟩,ch.2 ⟨_,rfl,by simp,trivial,[[T8 x]],?_,aG.2 rfl,trivial⟩,trivial⟩
 ·rw[show Rp.sz (List Int)=1 from rfl,ba,h1];rfl
 ·rw[show Rp.sz Int=1 from rfl,ba,h2];rfl
theorem vI[XOc](d:Nat)(x a b c e f h:AV)(g:G):jo C0 (I C0) d (.clo 70 [] [a,b,c,e,f,h]) [x] g=orF ((I C0).call d 70 [x,a,b,c,e,f,h] g):=by kernel_rfl
def PvC:List AV:=[T9 4,T9 2,T9 5,T9 3,T9 1,T9 6]
theorem Hq[XOc]{xs:List Od}{a:List AV}(h:tat t 34=.clo 70 [] a):SO.foot C0 t g (.dyn (.t 34) xs)=bT:=by
 have hs:((C0.ext 70).isSome || C0.iso 70)=false:=by kernel_rfl
 simp only[SO.foot,Cp,h,hs]
structure PvH (g:G) (qp bv vw:AV) (wt:Int) (acc:List (List Int)):Prop where
 h1:g.h.get 1=Tq 1 [[vw]]
 h2:g.h.get 2=Tq 1 [[bv]]
 h4:g.h.get 4=Tq 1 [[qp]]
 h5:g.h.get 5=Tq 1 [[T8 wt]]
 h6:g.h.get 6=Tq 1 [[.clo 70 [] PvC]]
 h3:∃pv rows,g.h.get 3=Tq 1 [[pv]]/\Own g 7 pv 1 rows/\All2 (Rp.rp NoP 0 .nil) acc rows
 nx:7<=g.nx
theorem PvH.fr{wt:Int}{acc:List (List Int)}(h:PvH g qp bv vw wt acc)(f:Fr g g'):PvH g' qp bv vw wt acc:=by have:=h.nx;have a:=f.1;obtain⟨pv,rows,a1,a2,k⟩:=h.h3;exact⟨by rw[f.2 1 (by omega),h.h1],by rw[f.2 2 (by omega),h.h2],by rw[f.2 4 (by omega),h.h4],by rw[f.2 5 (by omega),h.h5],by rw[f.2 6 (by omega),h.h6],⟨pv,rows,by rw[f.2 3 (by omega),a1],a2.step f,k⟩,by omega⟩
theorem yF[XOc]{wt:Int}{acc:List (List Int)}(hw:SlR NoP 0 .nil b w)(hP:PvH g qp bv vw wt acc)(hacc:acc.length+1<=65536)(kc:∀g,ay C0 d 71 [qp,w,bv,T8 wt] g=.val (.bool true))
  (kk:∀v g',PvH g' qp bv vw wt (acc++[b])->g.nx<=g'.nx->K v g'):(jo C0 (I C0) d (.clo 70 [] PvC) [w] g).sat K g D:=by
 obtain⟨pv,rows,a1,a2,l⟩:=hP.h3;have n:=hP.nx;have m:=l.len;have wc:=hw.cell;rw[PvC,vI];refine tR lD (by simp[c_]) ?_;simp only[sz,simprocAttr,c_,mO,hP.h4,hP.h2,hP.h5,kc,a1];rw[oW 1 [.nils] w g (by rw[wc.1];rfl) wc.2,wc.1];simp only[sz,simprocAttr];have c:Own (g.new (Tq 1 [[w]])) 7 pv 1 rows:=a2.step (Fr.new _ _);refine bg (b:=7) (v:=pv) (rows:=rows) (new:=[[w]]) c (by rw[ba];simp[OE];rfl) (by simp;omega) (by simp[aS];omega) λv2 g2 hv2 n2 f2 vid2 lg2=>?_;have f:vid pv≠some 3:=λh=>by have:=(a2.lt h).1;omega
 have fr:∀i,i<g.nx->vid pv≠some i->g2.h.get i=g.h.get i:=λi hi hv=>by rw[f2 i (by simp;omega) hv];simp[OE,show ¬i=g.nx by omega]
 have g3:g2.h.get 3=Tq 1 [[pv]]:=by rw[fr 3 (by omega) f,a1]
 have a:=hv2.cell;have j:∀g:G,cH (Tq 1 [[pv]]) g 3 0 0 1 0 v2=.upd .undef (g.put 3 (Tq 1 [[v2]])):=λg=>by rw[cX _ _ _ _ _ _ _ _ _ _ (by rw[a.1];rfl) a.2,a.1];rfl
 simp only[sz,simprocAttr,g3,j];have k:∀i,i<7->i≠3->(g2.put 3 (Tq 1 [[v2]])).h.get i=g.h.get i:=λi hi h=>by rw[<-fr i (by omega) (λhv=>by have:=(a2.lt hv).1;omega)];simp[OE,h]
 have e:g.nx<=g2.nx:=by have:g.nx+1<=g2.nx:=n2;omega
 refine kk _ _ ⟨by rw[k 1 (by omega) (by omega),hP.h1],by rw[k 2 (by omega) (by omega),hP.h2],by rw[k 4 (by omega) (by omega),hP.h4],by rw[k 5 (by omega) (by omega),hP.h5],by rw[k 6 (by omega) (by omega),hP.h6],⟨v2,rows++[[w]],by simp[OE],?_,All2.append l ⟨ch.2 ⟨w,rfl,hw⟩,trivial⟩⟩,by simp;omega⟩ (by simpa using e);refine hv2.fr (by simp) λi hi=>?_;have:=(hv2.lt hi).1;simp[OE,show ¬i=3 by omega]
theorem EH[XOc](hd:k<d)(hr:NR n)(hp:S.OF vars (n.nodes.length:Int)=true)(hq:mr n vars (S.OJ n vars) (S.OP n e) m k qp)(hbv:SlR NoP 0 .nil (S.ON n e vars) bv)(hvw:SlR NoP d .nil vars vw) :
  ∀(f:Nat) (b:List Int) (w:AV) (g:G) (K:AV->G->Prop) (D:ADf->Prop) (acc:List (List Int)),b.length+f=vars.length->InC ((S.cv n vars).take b.length) b->SlR NoP 0 .nil b w->PvH g qp bv vw (S.OZ n e vars) acc->acc.length+4 ^ f<=65536 ->
  (∀v g',PvH g' qp bv vw (S.OZ n e vars) (acc++S.O4 (S.cv n vars) (S.Pi n e vars) f b)->g.nx<=g'.nx->K v g')->(jo C0 (I C0) d (.clo 70 [] PvC) [w] g).sat K g D:=by
 obtain⟨J,Q⟩:=kJ hr hp;have h7:=hr.l2;have ha:=bH hp (by omega);have h9:(S.OJ n vars).length<=n.nodes.length:=oH _ _;have h3:(S.ON n e vars).length=vars.length:=by rw[<-Q];exact (nJ (e:=e) hr hp).len
 intro f
 induction f with
 | zero =>
  intro b w g K D acc hf hb hw z u kk;have hcl:S.Pi n e vars b=true:=AY hr hp (by rwa [QF (by omega)]at hb);have kc:=λg:G=>sY (d:=d) (g:=g) (wt:=S.OZ n e vars) hd hr hq (aZ hp) (by omega) pF (by omega) (jP _ _ _) (uZ hr e) (hw.tree (h':=g.h) (Qq 0)) (by omega) (hbv.tree (h':=g.h) (Qq 0)) (by omega);have o:S.OU n vars (S.OJ n vars) (S.OP n e) (S.ON n e vars) b (S.OZ n e vars)=true:=hcl;rw[o]at kc;exact yF hw z (by simpa using u) kc kk
 | succ f ih =>
  intro b w g K D acc hf hb hw z u kk;have kc:=λg:G=>sY (d:=d) (g:=g) (wt:=S.OZ n e vars) hd hr hq (aZ hp) (by omega) pF (by omega) (jP _ _ _) (uZ hr e) (hw.tree (h':=g.h) (Qq 0)) (by omega) (hbv.tree (h':=g.h) (Qq 0)) (by omega);have h4:1<=4 ^ f:=Nat.one_le_pow _ _ (by decide);rw[Nat.pow_succ]at u
  by_cases hcl:S.Pi n e vars b=true
  ·have o:S.OU n vars (S.OJ n vars) (S.OP n e) (S.ON n e vars) b (S.OZ n e vars)=true:=hcl;rw[o]at kc;refine yF hw z (by omega) kc ?_;rw[S.O4,Qw hcl]at kk;exact kk
  ·have o:S.OU n vars (S.OJ n vars) (S.OP n e) (S.ON n e vars) b (S.OZ n e vars)=false:=by
    have:S.Pi n e vars b=false:=by simpa using hcl
    exact this
   rw[o]at kc;rw[S.O4,Qu hcl]at kk;obtain⟨p,E,-,T⟩:=ae (l:=vars) (j:=b.length) (by omega);obtain⟨p0,p1⟩:=aZ hp p T;have U:=hq;obtain⟨t0,b7,sv,ow,ww,e0,ht,H,hv,ho,he⟩:=U;obtain⟨pn,y,rows,pa,ra,rfl,V,r1,r2,r3,r4,X,r5⟩:=mN H p0 p1;have W:=hr.card y X;have A:(S.cv n vars)[b.length]?=some y.card:=by simp[S.cv,S.OA,E,r5]
   rw[A,Qz]at kk;have lw:∀g:G,bY .slice w g=.val (T8 (b.length:Int)):=λg=>hw.len g;have rv:=λh=>(hvw.tree (h':=h) (Qq d)).ints;have z1:b.length<(vars.map ci).length:=by rw[QA];omega
   have z2:(vars.map ci)[b.length]?=some (ci (pn:Int)):=by rw[Qv,E];rfl
   have R:vR qp=.val qp:=by rw[e0];rfl
   have M:AS 0 qp=.val (.tptr t0 6 [[T8 n.grain,b7,sv,ow,ww,T8 m]] 0 0):=by rw[e0];exact br _ _ _ _ _ _
   have Z:=z.h4;rw[PvC,vI];refine tR lD (by simp[c_]) ?_;simp only[sz,simprocAttr,c_,mO,z.h4,z.h2,z.h5,z.h1,kc,R,M,br,aP,lw,rv,z1,z2,ci,r1,r2,r3,r4];obtain⟨c,hc⟩:=QD (show 0<=y.card by omega);rw[hc]at kk W A ⊢;unfold jV;refine aM (m:=c) (by omega) (λx t df g'=>df=[]/\St t [(0,w),(6,T9 6)]/\PvH g' qp bv vw (S.OZ n e vars) (acc++(List.range x).flatMap λx:Nat=>S.O4 (S.cv n vars) (S.Pi n e vars) f (b++[((x:Nat):Int)]))/\g.nx<=g'.nx)
    ⟨rfl,by simp[St,sx],by simpa using z,Qq _⟩ (by simp[sx]) (by simp[sx]) (by decide)
    (by rintro j t df g v s (rfl|rfl|rfl) ⟨a1,⟨b1,b2,-⟩,c⟩<;>exact⟨a1,by simp[St,sx,b1,b2],c⟩) ?_ ?_
   ·rintro x t df g' hx ⟨rfl,⟨h0,h6,-⟩,q,C⟩ B F;have Y:((List.range x).flatMap λx:Nat=>S.O4 (S.cv n vars) (S.Pi n e vars) f (b++[((x:Nat):Int)])).length<=x*4 ^ f:=by
     have key:∀m:Nat,((List.range m).flatMap λx:Nat=>S.O4 (S.cv n vars) (S.Pi n e vars) f (b++[((x:Nat):Int)])).length<=m*4 ^ f:=by
      intro m
      induction m with
      |zero=>simp
      | succ m ih =>
       rw[Ry,SD,Q3,QX,RH];have:=Bg (cl:=S.Pi n e vars) J.b f (b++[((m:Nat):Int)]) (by simp;omega);simp only[Rl,Ru,QJ];omega
     exact key x
    have wc:=hw.cell;have h8:=q.nx;simp only[sz,simprocAttr,sf,B,h6,h0,q.h6];rw[AU wc.1 wc.2 (by rfl) (by rfl)];simp only[sz,simprocAttr];refine bL (G8 (L:=[b,[(x:Int)]]) (P:=λ_=>True) (k:=0) (by omega) (NE (N:=g'.nx+1+1+1) hw ?_ ?_) (by simp) (by simp;omega)) ?_
    ·simp[OE]
    ·simp[OE]
    intro r hr;obtain⟨r',er,hr⟩:=hr;injection er with er;subst er;have O:[b,[(x:Int)]].flatten=b++[(x:Int)]:=by simp
    rw[O]at hr;simp only[sz,simprocAttr];refine ih (b++[(x:Int)]) r _ _ _ (acc++(List.range x).flatMap λx:Nat=>S.O4 (S.cv n vars) (S.Pi n e vars) f (b++[((x:Nat):Int)])) (by simp;omega) (rk hb A (by omega) (by omega)) hr (q.fr ⟨by simp[sy];omega,λi hi=>?_⟩) ?_ λv g3 hP3 hn3=>?_
    ·simp[OE,show ¬i=g'.nx+1+1+1 by omega,show ¬i=g'.nx+1+1+1+1+1 by omega]
    ·rw[Q3];have:x*4 ^ f<=3*4 ^ f:=QS _ (by omega);omega
    simp only[sz,simprocAttr];refine⟨?_,⟨⟨by simp[St,sx,h0,h6],?_,?_⟩,by simp[B],by simp[F]⟩⟩
    ·rw[Hq (a:=PvC) (by simp[sx])];simp only[Q5,Q4,QU,QQ];refine aT [false,false,false,true,true,false,true] [(0,3),(1,3),(0,4)] (by simp[All2,ah,aC,bT,nm]) (by decide) ?_;rintro p hp x y hx V;simp only[Rh,QH,S9]at hp;rcases hp with rfl|rfl|rfl<;>(simp[sx]at hx V;subst hx;subst V;refine eO rfl rfl rfl rfl ?_ ?_ ?_<;>simp[ah,aC,fm]<;>omega)
    ·rw[Ry,SD,<-Rj];refine PvH.fr (g:=g3) (by simpa using hP3) ⟨by simp[sy],λi _=>by simp[sy]⟩
    ·have:g'.nx<=g3.nx:=by simp[sy]at hn3;omega
     simp[sy];omega
   ·rintro t df g' ⟨rfl,-,q,C⟩;simp only[sz,simprocAttr];rw[S6]at kk;exact kk _ _ q C
end
def S.wW(mw:List Int)(a:Int):Int:=mw[a.toNat]?.getD 0
def S.Ql(mw:List Int)(a b:Int):Prop:=S.wW mw b<S.wW mw a\/(S.wW mw a=S.wW mw b/\a<b)
def S.Qi(mw:List Int)(j:Nat):List Int:=((List.range j).map λi:Nat=>(i:Int)).filter λi=>decide (0<S.wW mw i)
def S.Qh(mw:List Int):List Int:=S.Qi mw mw.length
structure IsSrt (mw R:List Int):Prop where
 mem:∀x,x∈R↔x∈S.Qh mw
 ord:R.Pairwise (S.Ql mw)
theorem Jt(g:G)(id:Nat):cH (Tq 1 [[.nilp]]) g id 0 0 1 0 .nilp=.upd (.tup []) (g.put id (Tq 1 [[.nilp]])):=rfl
theorem Ju(g:G)(id:Nat)(t sz:Nat)(rows:List (List AV))(i off:Nat):cH (Tq 1 [[.nilp]]) g id 0 0 1 0 (.tptr t sz rows i off)=.upd (.tup []) (g.put id (Tq 1 [[.tptr t sz rows i off]])):=rfl
def S.Py(n:Net)(e vars:List Int):List (List Int):=if S.OO n e vars=0 then S.PM n e vars else []
def K0(n:Net)(e vars:List Int):VS:=M_ (One (S.O0 n e vars)) (One (S.Py n e vars)) (One (S.OO n e vars))
theorem Mq(n:Net)(e vars:List Int):Snb (K0 n e vars) 2:=Ds (m:=2) (bi _) (bi _) (bi _) (by decide) (by decide) (by decide)
theorem HI{r:AV}(h:K0 n e vars NoP 0 .nil r):∃a b,r=.tup [a,b,T8 (S.OO n e vars)]/\SlR NoP 0 .nil (S.O0 n e vars) a/\SlR NoP 0 .nil (S.Py n e vars) b:=by obtain⟨a,b,c,rfl,h1,h2,h3⟩:=h;obtain⟨a',e1,h1⟩:=h1;injection e1 with e1;subst e1;obtain⟨b',e2,h2⟩:=h2;injection e2 with e2;subst e2;have h3:=aG.1 h3;injection h3 with h3;subst h3;exact⟨a,b,rfl,h1,h2⟩
theorem C6{E:Int}(hE:S.OO n e vars=E)(h0:E≠0):K0 n e vars P 0 h (.tup [.nils,.nils,T8 E]):=by
 have hL:S.O0 n e vars=[]:=by rw[S.O0,hE,Qu h0]
 have k:S.Py n e vars=[]:=by rw[S.Py,hE,Qu h0]
 refine⟨_,_,_,rfl,?_,?_,?_⟩
 ·rw[hL];exact⟨_,rfl,by simp,rfl⟩
 ·rw[k];exact⟨_,rfl,by simp,rfl⟩
 ·rw[hE];exact aG.2 rfl
theorem Lx(g:G)(id f:Nat)(a c:List AV):cH (Tq 1 [[.nilf]]) g id 0 0 1 0 (.clo f a c)=.upd .undef (g.put id (Tq 1 [[.clo f a c]])):=rfl
theorem Ig[XOc](hd:0<d)(hm:Agg n NoP 0 g.h v)(he:SlR P1 k1 g.h e w)(hv:SlR P2 k2 g.h vars u)(hk2:k2<=d) :
  ∃r,ay C0 d 23 [v,w,u] g=.val r/\K0 n e vars NoP 0 .nil r:=by
 obtain⟨b,rows,rfl,e1,M,hN,-⟩:=mc d hm;obtain⟨w',e2,R⟩:=bj he d;obtain⟨u',e3,j⟩:=bj hv d;rw[Nat.max_eq_right hk2]at j;have uc:=(j .nil).cell;have J:∀g:G,AH u' g=.upd (T9 g.nx) (g.new (Tq 1 [[u']])):=λg=>uJ (j .nil) g;rw[sV];refine bK uT (xs:=[.agg [T8 n.grain,b],w',u']) (by simp only[aF,e1,e2,e3]) (by simp[kh]) (Mq n e vars) (by decide) hd ?_;unfold kh;dsimp only;refine jQ (P:=λt df g=>df=[]/\g.nx=4/\g.h.get 0=Tq 2 [[T8 n.grain,b]]/\g.h.get 1=Tq 1 [[u']]/\g.h.get 2=Tq 1 [[.nils]]/\g.h.get 3=Tq 1 [[.nils]]/\St t [(1,w'),(3,T9 0),(5,T9 1),(6,T9 2),(7,T9 3)]) ?_ ?_
 ·simp only[sz,simprocAttr,J];simp[St,sx]
 rintro t df g ⟨rfl,X,g0,g1,g2,g3,h1,h3,h5,h6,h7,-⟩;unfold mG;refine jQ (P:=λt' df g'=>df=[]/\g'.nx=5/\(∀i,i<4->g'.h.get i=g.h.get i)/\∃p E,g'.h.get 4=Tq 1 [[p]]/\NsV n e vars NoP d .nil (.tup [p,T8 E])/\St t' [(6,T9 2),(7,T9 3),(9,T9 4),(5,T9 1),(8,T8 E)]) ?_ ?_
 ·simp only[sz,simprocAttr,h1,h3,h5,g0,g1];refine bL (pD (n:=n) (e:=e) (vars:=vars) (kv:=d) (Su d) (M _) (R _) (j _)) λr hr=>?_;rcases ua hr with⟨c,p,rfl,hp⟩|⟨c,rfl⟩
  ·obtain⟨t0,b0,vw0,ow0,ww0,rfl,-⟩:=hp;simp only[sz,simprocAttr,Ju,X];exact⟨λi hi=>by rw[Qu (by omega),Qu (by omega)],_,_,rfl,hr,by simp[St,sx,h5,h6,h7]⟩
  ·simp only[sz,simprocAttr,Jt,X];exact⟨λi hi=>by rw[Qu (by omega),Qu (by omega)],_,_,rfl,hr,by simp[St,sx,h5,h6,h7]⟩
 rintro t df g' ⟨rfl,m,C,p,E,D,N,h6,h7,h9,h5,h8,-⟩;have k1:g'.h.get 1=Tq 1 [[u']]:=by rw[C 1 (by omega),g1]
 have s:g'.h.get 2=Tq 1 [[.nils]]:=by rw[C 2 (by omega),g2]
 have T:g'.h.get 3=Tq 1 [[.nils]]:=by rw[C 3 (by omega),g3]
 clear C g1 g2 g3;rcases ua N with⟨c,p',ep,hp⟩|⟨c,ep⟩
 rotate_left
 ·injection ep with ep;injection ep with ep1 ep2;injection ep2 with ep2;injection ep2 with _ ep2;subst ep2;have o:S.OO n e vars=S.O2 n e vars:=by rw[S.OO,Qu c]
  simp only[sz,simprocAttr,h8,c,h6,h7,s,T];exact⟨λ_=>True,C6 o c⟩
 injection ep with ep;injection ep with ep1 ep2;injection ep2 with ep2;injection ep2 with _ ep2;subst ep1 ep2;obtain⟨⟨hr,h4⟩,l⟩:=j7.1 c;have hb:=hr.l2;have hc:=bH l (by omega);have hp0:=hp;obtain⟨t0,bb,vw,ow,ww,e0,-⟩:=hp0;have A:vR p=.val p:=by rw[e0];rfl
 have z:AS 5 p=.val (.tptr t0 6 [[T8 n.grain,bb,vw,ow,ww,T8 (S.Pq n e)]] 0 5):=by rw[e0];exact br _ _ _ _ _ _
 rw[dt];simp only[sz,simprocAttr,h8]
 by_cases c2:S.Pq n e=0
 ·have o:S.OO n e vars=7:=by rw[S.OO,Qw c,Qw c2]
  simp only[sz,simprocAttr,h9,D,A,z,aP,c2,h6,h7,s,T];exact⟨λ_=>True,C6 o (by decide)⟩
 have o:S.OO n e vars=0:=by rw[S.OO,Qw c,Qu c2]
 simp only[sz,simprocAttr,h9,D,A,z,aP,c2];refine bL (Fl (Su d) hr hp l) ?_;rintro r ⟨a,c',rfl,⟨a',q,ha⟩,f⟩;injection q with q;subst q;have f:=aG.1 f;injection f with f;subst f;have ac:=ha.cell;have O:∀g:G,cH (Tq 1 [[.nils]]) g 2 0 0 1 0 a=.upd .undef (g.put 2 (Tq 1 [[a]])):=λg=>by rw[cX _ _ _ _ _ _ _ _ _ _ (by rw[ac.1];rfl) ac.2,ac.1];rfl
 have B:∀g:G,cH (Tq 1 [[a]]) g 2 0 0 1 0 a=.upd .undef (g.put 2 (Tq 1 [[a]])):=λg=>by rw[cX _ _ _ _ _ _ _ _ _ _ (by rw[ac.1];rfl) ac.2,ac.1];rfl
 have hf:S.cv n vars=S.cv n vars:=rfl;simp only[sz,simprocAttr,m,h6,s,O,Lx,h9,h7,h5];rw[show AV.clo 70 [] [T9 4,T9 2,T9 5,T9 3,T9 1,T9 6]=.clo 70 [] PvC from rfl];refine EH (Su d) hr l hp ha ((j .nil).tree (by omega)) vars.length [] .nils _ _ _ [] (by simp) (by trivial) ⟨by simp,rfl⟩ ?_ ?_ λv g7 hP hn7=>?_
 ·refine⟨by simp[OE,m,k1],by simp[OE,m],by simp[OE,m,D],by simp[OE,m],by simp[OE,m],⟨.nils,[],by simp[OE,m,T],.inl ⟨rfl,rfl⟩,trivial⟩,by simp[m]⟩
 ·have:4 ^ vars.length<=4 ^ 8:=R4 (by decide) (by omega);simpa using this
 obtain⟨pv,rows7,q1,q2,q3⟩:=hP.h3;have pc:=q2.cell;have Q:∀g:G,cH (Tq 1 [[pv]]) g 3 0 0 1 0 pv=.upd .undef (g.put 3 (Tq 1 [[pv]])):=λg=>by rw[cX _ _ _ _ _ _ _ _ _ _ (by rw[pc.1];rfl) pc.2,pc.1];rfl
 simp only[sz,simprocAttr,sf,h6,h7,hP.h2,q1,B,Q];refine⟨?_,?_⟩
 ·simp only[Q5,Q4,QU,QQ];refine aT [false,false,true,true,false] [(1,2)] (by simp[All2,ah,aC]) (by decide) ?_;rintro p hp x y hx W;simp only[Rh,QH,S9]at hp;subst hp;simp[sx]at hx W;subst hx;subst W;refine eO rfl rfl rfl rfl ?_ ?_ ?_<;>simp[ah,fm]
 ·obtain⟨K,L⟩:=kJ hr l;have V:=Bg (cl:=S.Pi n e vars) K.b vars.length [] (by simp[L]);have Y:4 ^ vars.length<=4 ^ 8:=R4 (by decide) (by omega);have H:S.Py n e vars=S.PM n e vars:=by rw[S.Py,Qw o]
  have F:S.O0 n e vars=S.ON n e vars:=by rw[S.O0,Qw o]
  rw[QU]at q3;have Z:Own ((g7.put 2 (Tq 1 [[a]])).put 3 (Tq 1 [[pv]])) 7 pv 1 rows7:=q2.fr (by simp) λi hi=>by have:=(q2.lt hi).1;simp[OE,show ¬i=2 by omega,show ¬i=3 by omega]
  have U:All2 (Rp.rp (λ_=>True) 0 ((g7.put 2 (Tq 1 [[a]])).put 3 (Tq 1 [[pv]])).h) (S.PM n e vars) rows7:=All2.mono (λa b h=>Rp.tree h (Qq 0)) q3;have I:=Own.sl (α:=List Int) (P:=λ_=>True) (k:=0) Z (by unfold S.PM;omega) U λ_ _=>trivial;refine⟨λ_=>True,a,pv,_,rfl,⟨a,rfl,?_⟩,⟨pv,rfl,?_⟩,?_⟩
  ·rw[F];exact ha.wide (Qq 0)
  ·rw[H];exact I
  ·rw[o];exact aG.2 rfl
section
variable {B:Nat}{lw:AV}
structure CutH (g:G) (gr:Int) (b:AV) (B:Nat) (out next:AV) (L N:List (List Int)):Prop where
 g0:g.h.get 0=Tq 2 [[T8 gr,b]]
 hL:SlR (λi=>i<B) 0 g.h L out
 hN:OwnT g 0 0 next N
 hv:∀i,vid next=some i->B<=i
 hB:1<=B/\B<=g.nx
theorem CutH.step{gr:Int}{b:AV}{next next':AV}{N N':List (List Int)}(h:CutH g gr b B out next L N)(hn:g.nx<=g'.nx)(hf:∀i,i<g.nx->vid next≠some i->g'.h.get i=g.h.get i)(hN:OwnT g' 0 0 next' N')(hv:vid next'=vid next\/∃i,vid next'=some i/\g.nx<=i):CutH g' gr b B out next' L N':=by
 have hB:=h.hB;have k:∀i,i<B->vid next≠some i:=λi hi e=>by have:=h.hv i e;omega
 refine⟨by rw[hf 0 (by omega) (k 0 (by omega)),h.g0],h.hL.far8 λi hi=>hf i (by omega) (k i hi),hN,λi hi=>?_,hB.1,by omega⟩;rcases hv with e|⟨j,e,a⟩
 ·exact h.hv i (by rw[<-e];exact hi)
 ·rw[e]at hi;injection hi with hi;omega
def LCt(u lw out:AV)(k i:Nat):List (Nat×AV):=[(1,u),(2,lw),(3,T9 0),(7,out),(8,T8 (k:Int)),(10,T8 (i:Int))]
theorem Nj[XOc]{kk:Nat}{b:AV}{N0:List (List Int)}{bl:List Int}{c:Nat}(hN:SlR NoP 0 .nil n.nodes b)(hu:SlR NoP kk .nil vars u)(hk:vars[k]?=some (p:Int))(hp:p<n.nodes.length)(hc:(S.Oz n)[p]?=some (c:Int))(hc4:c<=4)(hi:L[i]?=some bl)(hbl:bl.length<=8)(hN0:N0.length<=65536)
  (hH:CutH g n.grain b B out (tat t 9) L N0) (ht:St t (LCt u lw out k i)) (h11:tat t 11=T8 0)
  (fin:∀t g',St t (LCt u lw out k i)->CutH g' n.grain b B out (tat t 9) L (N0++(List.range c).map λx:Nat=>bl++[((x:Nat):Int)])->g.nx<=g'.nx->Q (.exit 4) t [] g') :
  wpL (wp C0 d none lP) Q t [] g:=by
 have rv:=λh=>(hu.tree (h':=h) (Qq _)).ints;have z1:k<(vars.map ci).length:=by rw[QA];exact (Qs.1 hk).1
 have z2:(vars.map ci)[k]?=some (ci (p:Int)):=by rw[Qv,hk];rfl
 obtain⟨pn,y,rows,pa,ra,E,P,W,X,Y,Z,-,r5⟩:=mN hN (show (0:Int)<=(p:Int) by omega) (by omega);have E:pn=p:=by omega
 subst E;have J:y.card=(c:Int):=by
  have:(S.Oz n)[pn]?=some y.card:=by simp[S.Oz,P]
  rw[hc]at this;injection this with this;exact this.symm
 unfold lP;refine Bz (m:=c) (λx t df g'=>df=[]/\St t (LCt u lw out k i)/\tat t 11=T8 (x:Int)/\CutH g' n.grain b B out (tat t 9) L (N0++(List.range x).map λx:Nat=>bl++[((x:Nat):Int)])/\g.nx<=g'.nx) ⟨rfl,ht,h11,by simpa using hH,Qq _⟩ ?_ ?_ ?_
 ·rintro x t df g' hx ⟨rfl,⟨h1,h2,h3,h7,h8,h10,-⟩,h11,f,r⟩;have g0:=f.g0;have hd:decide ((x:Int)<(c:Int))=decide (x<c):=by rw[decide_eq_decide];omega
  simp only[sz,simprocAttr,h1,h3,h8,h11,g0,rv,z1,z2,ci,W,X,Y,Z,J,hd];exact⟨by simp[St,LCt,sx,h1,h2,h3,h7,h8,h10],f,r⟩
 ·rintro x t df g' hx ⟨rfl,⟨h1,h2,h3,h7,h8,h10,-⟩,h11,f,r⟩;have A:=f.hL;have O:=A.1;have I:=(Qs.1 hi).1;obtain⟨rowsL,K,q2⟩:=A.rows;have K:am g'.h 1 out=some rowsL:=K;obtain⟨row,q3,V⟩:=q2.get hi;obtain⟨z,rfl,hz⟩:=ch.1 V;have D:i<rowsL.length:=by rw[<-q2.len];exact I
  have N:=f.hB;obtain⟨next,o⟩:∃next,next=tat t 9:=⟨_,rfl⟩
  rw[<-o]at f;have h9:tat t 9=next:=o.symm
  simp only[sz,simprocAttr,h9,h7,h10,K,D,q3];refine bg (b:=g'.nx) (v:=.nils) (rows:=[]) (new:=bl.map ci) (.inl ⟨rfl,rfl⟩) hz.ints (Qq _) (by simp[aS];omega) λv1 g1 hv1 n1 f1 vid1 _=>?_;rw[QU]at hv1;simp only[sz,simprocAttr,h11];have F:Own (g1.new (Tq 1 [[T8 (x:Int)]])) g'.nx v1 1 (bl.map ci):=hv1.step (Fr.new _ _);refine bg (b:=g'.nx) (v:=v1) (rows:=bl.map ci) (new:=[[T8 (x:Int)]]) F (by rw[ba];simp[OE];rfl) (by simp;omega) (by simp[aS];omega) λv2 g2 hv2 n2 f2 vid2 _=>?_;have q:=hv2.cell;simp only[sz,simprocAttr];rw[oW 1 [.nils] v2 g2 (by rw[q.1];rfl) q.2,q.1];simp only[sz,simprocAttr];have R:g1.nx+1<=g2.nx:=n2;have C:Fr g' (g2.new (Tq 1 [[v2]])):=by
   refine⟨by simp;omega,λi hi=>?_⟩;have e1:(g2.new (Tq 1 [[v2]])).h.get i=g2.h.get i:=by simp[OE,show ¬i=g2.nx by omega]
   rw[e1,f2 i (by simp;omega) (λe=>by have:=(hv1.lt e).1;omega)];have e2:(g1.new (Tq 1 [[T8 (x:Int)]])).h.get i=g1.h.get i:=by simp[OE,show ¬i=g1.nx by omega]
   rw[e2,f1 i hi (by simp[vid])]
  have w:bl.map ci++[[T8 (x:Int)]]=(bl++[(x:Int)]).map ci:=by simp[ci]
  rw[w]at hv2;have s:Own (g2.new (Tq 1 [[v2]])) g'.nx v2 1 ((bl++[(x:Int)]).map ci):=hv2.step (Fr.new _ _);refine vG (α:=List Int) (b:=0) (k:=0) (l:=N0++(List.range x).map λx:Nat=>bl++[((x:Nat):Int)]) (y:=bl++[(x:Int)]) (cs:=[v2]) (f.hN.step C) (by rw[show Rp.sz (List Int)=1 from rfl,ba];simp[OE];rfl) (ch.2 ⟨v2,rfl,s.sl (α:=Int) (by simp;omega) (Oz (λa=>aG.2 rfl) _) λi hi=>?_⟩) (Q_ _) (by simp[aS];omega) λv3 g3 hv3 n3 f3 vid3 _=>?_
  ·have:=s.lt hi;exact⟨Q_ _,this.2,λe=>by have:=(f.hN.lt e).2;omega⟩
  have U:g2.nx+1<=g3.nx:=n3;have H:CutH g3 n.grain b B out v3 L (N0++(List.range (x+1)).map λx:Nat=>bl++[((x:Nat):Int)]):=by
   refine f.step (by omega) (λi hi hv=>?_) ?_ ?_
   ·rw[f3 i (by simp;omega) hv,C.2 i hi]
   ·rw[Ry,Rx,<-Rj];exact hv3
   ·rcases vid3 with e|⟨j,e,M⟩
    ·exact .inl e
    ·exact .inr ⟨j,e,by have M:g2.nx+1<=j:=M;omega⟩
  have w1:IntKind.wrap .i64 ((x:Int)+1)=((x+1:Nat):Int):=by rw[aB (by omega) (by omega)];rfl
  simp only[sz,simprocAttr,h11,w1];exact⟨by simp[St,LCt,sx,h1,h2,h3,h7,h8,h10],H,by omega⟩
 ·rintro t df g' ⟨rfl,ht,-,f,r⟩;exact fin t g' ht f r
theorem Nk[XOc]{kk:Nat}{us:List UInt8}{b:AV}{c:Nat}(hN:SlR NoP 0 .nil n.nodes b)(hu:SlR NoP kk .nil vars u)(hus:SlR NoP kk .nil us lw)(hk:vars[k]?=some (p:Int))(hk8:k<8)(hp:p<n.nodes.length)(hc:(S.Oz n)[p]?=some (c:Int))(hc4:c<=4)(hL:∀bl∈L,bl.length<=k)(hL0:us=[]->∀bl∈L,bl.length=k)(hL4:L.length<=4 ^ k)
  (hH:CutH g n.grain b B out (tat t 9) L []) (ht:St t [(1,u),(2,lw),(3,T9 0),(7,out),(8,T8 (k:Int))]) (h10:tat t 10=T8 0)
  (fin:∀t g' N,St t [(1,u),(2,lw),(3,T9 0),(8,T8 (k:Int))]->CutH g' n.grain b B out (tat t 9) L N->N.length<=4*L.length->(∀bl∈N,bl.length<=k+1)->(us=[]->N=L.flatMap λbl=>(List.range c).map λx:Nat=>bl++[((x:Nat):Int)])->g.nx<=g'.nx->Q (.exit 2) t [] g') :
  wpL (wp C0 d none lQ) Q t [] g:=by
 have h4:4 ^ k<=4 ^ 7:=R4 (by decide) (by omega);obtain⟨ur,ur1,ur2,ur3,ur4⟩:=hus.all;have ur1:∀h',am h' 1 lw=some ur:=ur1;have lU:=(hus.tree (h':=.nil) (Qq _)).len;have hd:=hus.1;simp only[lQ,qT];refine d7 L.length (by omega) (λi t df g'=>df=[]/\St t [(1,u),(2,lw),(3,T9 0),(7,out),(8,T8 (k:Int))]/\(∃N,CutH g' n.grain b B out (tat t 9) L N/\N.length<=4*i/\(∀bl∈N,bl.length<=k+1)/\(us=[]->N=(L.take i).flatMap λbl=>(List.range c).map λx:Nat=>bl++[((x:Nat):Int)]))/\g.nx<=g'.nx)
  ⟨rfl,ht,⟨[],hH,by simp,by simp,by simp⟩,Qq _⟩ h10 (by decide)
  (by rintro j t df g v s (rfl|rfl|rfl) ⟨a1,⟨b1,b2,b3,b4,b5,-⟩,c1,J⟩<;>exact⟨a1,by simp[St,sx,b1,b2,b3,b4,b5],by simpa [sx] using c1,J⟩) ?_ ?_ ?_
 ·rintro i t df g' X ⟨rfl,⟨h1,h2,h3,h7,h8,-⟩,⟨N,a,C,o,m⟩,E⟩ h10;have Y:∀g:G,bY .slice out g=.val (T8 (L.length:Int)):=λg=>a.hL.len g;simp only[sz,simprocAttr,h7,h10,Y];exact⟨by simp[St,sx,h1,h2,h3,h7,h8],⟨N,a,C,o,m⟩,E⟩
 ·rintro i t df g' hi ⟨rfl,⟨h1,h2,h3,h7,h8,-⟩,⟨N,a,C,o,m⟩,E⟩ h10;obtain⟨bl,M,O,F⟩:=ae hi;have h6:=hL bl F;have W:=a.hL;obtain⟨rowsL,I,q2⟩:=W.rows;have I:am g'.h 1 out=some rowsL:=I;obtain⟨row,q3,q4⟩:=q2.get M;obtain⟨z,rfl,hz⟩:=ch.1 q4;have f:i<rowsL.length:=by rw[<-q2.len];exact hi
  have lz:∀g:G,bY .slice z g=.val (T8 (bl.length:Int)):=λg=>hz.len g;obtain⟨next,r⟩:∃next,next=tat t 9:=⟨_,rfl⟩
  rw[<-r]at a;have h9:tat t 9=next:=r.symm
  have hb:am g'.h 1 out=some rowsL:=I;rw[dt];refine jQ (P:=λt' df g2=>df=[]/\g2=g'/\∃D:Bool,(us=[]->D=false)/\St t' ((51,.bool D)::(9,next)::LCt u lw out k i)) ?_ ?_
  ·by_cases c1:bl.length<k
   ·have w:(bl.length:Int)<(k:Int):=by omega
    simp only[sz,simprocAttr,h7,h8,h10,I,f,q3,lz,w];exact⟨true,λh=>by have:=hL0 h bl F;omega,by simp[St,LCt,sx,h1,h2,h3,h7,h8,h9,h10]⟩
   ·have w:¬(bl.length:Int)<(k:Int):=by omega
    by_cases J:us=[]
    ·have A:¬(0:Int)<(us.length:Int):=by rw[J];simp
     simp only[sz,simprocAttr,h7,h8,h10,I,f,q3,lz,w,h2,lU,A];exact⟨false,λ_=>rfl,by simp[St,LCt,sx,h1,h2,h3,h7,h8,h9,h10]⟩
    ·have U:0<us.length:=List.length_pos_iff.2 J;have A:(0:Int)<(us.length:Int):=by omega
     have w1:IntKind.wrap .i64 (3*(k:Int))=((3*k:Nat):Int):=by rw[aB (by omega) (by omega)];omega
     have w2:IntKind.wrap .i64 ((i:Int)+((3*k:Nat):Int))=((i+3*k:Nat):Int):=by rw[aB (by omega) (by omega)];omega
     have rm:cx .rem (T8 ((i+3*k:Nat):Int)) (T8 (us.length:Int))=.val (T8 (((i+3*k) % us.length:Nat):Int)):=by rw[gQ .i64 (by omega) A,<-Ta]
     have R:=So (i+3*k) U;obtain⟨y,hy,-,-⟩:=ae R;obtain⟨row,ur5,ur6⟩:=ur3 _ y hy;have ur6:=di.1 ur6;subst ur6;have hlt:(i+3*k) % us.length<ur.length:=by rw[ur2];exact R
     have rm2:cx .rem (.int .u8 (y.toNat:Int)) (.int .u8 4)=.val (.int .u8 ((y.toNat:Int) % 4)):=gQ .u8 (by omega) (by decide);simp only[sz,simprocAttr,h7,h8,h10,I,f,q3,lz,w,h2,lU,A,w1,w2,rm,ur1,hlt,ur5,rm2];exact⟨decide ((y.toNat:Int) % 4=0),λh=>absurd h J,by simp[St,LCt,sx,h1,h2,h3,h7,h8,h9,h10]⟩
  rintro t df g2 ⟨rfl,rfl,D,hD,K,h9,h1,h2,h3,h7,h8,h10,-⟩;cases D with
  | true =>
   have H:=hz.cell;simp only[sz,simprocAttr,K,h9,h7,h10,I,f,q3];rw[oW 1 [.nils] z g2 (by rw[H.1];rfl) H.2,H.1];simp only[sz,simprocAttr];refine vG (α:=List Int) (b:=0) (k:=0) (l:=N) (y:=bl) (cs:=[z]) (a.hN.step (Fr.new _ _)) (by rw[show Rp.sz (List Int)=1 from rfl,ba];simp[OE];rfl) (ch.2 ⟨z,rfl,?_⟩) (Q_ _) (by simp[aS];omega) λv3 g3 hv3 n3 f3 vid3 _=>?_
   ·have h5:=a.hB;obtain⟨z',e,q⟩:=Rp.mono (P':=Els (g2.new (Tq 1 [[z]])) 0 next) (k':=0) (h':=(g2.new (Tq 1 [[z]])).h) (show Rp.rp (λi=>i<B) 0 g2.h bl [z] from ⟨z,rfl,hz⟩) (λi hi=>⟨⟨Q_ _,by have hi:i<B:=hi;simp;omega,λe=>by have:=a.hv i e;have hi:i<B:=hi;omega⟩,by have hi:i<B:=hi;simp[OE,show ¬i=g2.nx by omega]⟩) (Qq _);injection e with e;subst e;exact q
   simp only[sz,simprocAttr];have he:g2.nx+1<=g3.nx:=n3;have Z:¬us=[]:=λh=>by have:=hD h;cases this
   refine⟨⟨by simp[St,sx,h1,h2,h3,h7,h8],⟨N++[bl],a.step (by omega) (λi hi hv=>?_) hv3 ?_,by simp;omega,λx hx=>?_,λh=>absurd h Z⟩,by omega⟩,h10⟩
   ·rw[f3 i (by simp;omega) hv];simp[OE,show ¬i=g2.nx by omega]
   ·rcases vid3 with e|⟨j,e,X⟩
    ·exact .inl e
    ·exact .inr ⟨j,e,by have X:g2.nx+1<=j:=X;omega⟩
   ·rcases Q7.1 hx with h|h
    ·exact o x h
    ·have:x=bl:=by simpa using h
     rw[this];omega
  | false =>
   simp only[sz,simprocAttr,K];refine Nj (p:=p) (c:=c) (L:=L) (N0:=N) (bl:=bl) (n:=n) (b:=b) (B:=B) (out:=out) (i:=i) (k:=k) (u:=u) (lw:=lw) hN hu hk hp hc hc4 M (by omega) (by omega) (by simpa [sx,h9] using a) (by simp[St,LCt,sx,h1,h2,h3,h7,h8,h10]) (by simp[sx]) ?_;rintro t g3 ⟨h1,h2,h3,h7,h8,h10,-⟩ V ha;simp only[sz,simprocAttr];refine⟨⟨by simp[St,h1,h2,h3,h7,h8],⟨_,V,by simp;omega,λx hx=>?_,λh=>?_⟩,by omega⟩,h10⟩
   ·rcases Q7.1 hx with h|h
    ·exact o x h
    ·obtain⟨y,-,rfl⟩:=Rb.1 h;simp;omega
   ·rw[O,SD,m h];simp
 ·rintro t df g' ⟨rfl,⟨h1,h2,h3,h7,h8,-⟩,⟨N,a,C,o,m⟩,E⟩;rw[QV]at m;exact fin t g' N (by simp[St,h1,h2,h3,h8]) a C o m E
def LsV(p:List (List Int)->Prop):VS:=λP k h v=>∃L,p L/\SlR P k h L v
theorem KB(p:List (List Int)->Prop):Snb (LsV p) 0:=by
 refine⟨λ{P k h v n} d r hn=>?_,λ{k h v n} r hn=>?_⟩
 ·obtain⟨L,hp,r⟩:=r;obtain⟨v',e,w,hw,q⟩:=(bi L).snap d (show One L P k h v from ⟨v,rfl,r⟩) hn;injection hw with hw;subst hw;exact⟨v',e,L,hp,q⟩
 ·obtain⟨L,hp,r⟩:=r;exact (bi L).tag (show One L NoP k h v from ⟨v,rfl,r⟩) hn
theorem Bj[XOc]{us:List UInt8}(hd:0<d)(hm:Agg n NoP 0 g.h v)(hv:SlR P1 k1 g.h vars u)(hus:SlR P2 k2 g.h us lw)(hr:NR n)(hp:S.OF vars (n.nodes.length:Int)=true) :
  ∃r,ay C0 d 25 [v,u,lw] g=.val r/\LsV (λL=>(us=[]->L=S.Po (S.cv n vars) vars.length)/\L.length<=65536/\∀bl∈L,bl.length<=8) NoP 0 .nil r:=by
 obtain⟨b,rows,rfl,e1,R,hN,-⟩:=mc d hm;obtain⟨u',e2,y⟩:=bj hv d;obtain⟨lw',e3,w⟩:=bj hus d;obtain⟨D,Q⟩:=kJ hr hp;have P:=hr.l2;have U:=bH hp (by omega);have lu:∀g:G,bY .slice u' g=.val (T8 (vars.length:Int)):=λg=>(y .nil).len g;obtain⟨K,hK⟩:∃K,K=max (max k1 d) (max k2 d):=⟨_,rfl⟩;have F:SlR NoP K .nil vars u':=(y .nil).tree (by omega);have hl2:SlR NoP K .nil us lw':=(w .nil).tree (by omega);rw[xz];refine bK AQ (xs:=[.agg [T8 n.grain,b],u',lw']) (by simp only[aF,e1,e2,e3]) (by simp[qR]) (KB _) (by decide) hd ?_;simp only[sz,simprocAttr,qR,sL];unfold qS qV;refine d7 vars.length (by omega) (λk t df g=>df=[]/\St t [(1,u'),(2,lw'),(3,T9 0)]/\g.h.get 0=Tq 2 [[T8 n.grain,b]]/\1<=g.nx/\∃L,OwnT g 0 0 (tat t 7) L/\L.length<=4 ^ k/\(∀bl∈L,bl.length<=k)/\(us=[]->L=S.Po (S.cv n vars) k))
  ⟨rfl,by simp[St,sx],by simp[OE,show G.empty.nx=0 from rfl],by simp,[[]],?_,by simp,by simp,λ_=>rfl⟩ (by simp[sx]) (by decide)
  (by rintro j t df g v s (rfl|rfl|rfl) ⟨a1,⟨b1,b2,H,-⟩,c1,I,J⟩<;>exact⟨a1,by simp[St,sx,b1,b2,H],c1,I,by simpa [sx] using J⟩) ?_ ?_ ?_
 ·refine⟨[[.nils]],.inr ⟨1,0,false,Q_ _,by simp,by simp[sx],by simp[OE,show G.empty.nx=0 from rfl];rfl⟩,⟨ch.2 ⟨.nils,rfl,by simp,rfl⟩,trivial⟩⟩
 ·rintro k t df g W ⟨rfl,⟨h1,h2,h3,-⟩,g0,gn,L,o,l,f,a⟩ h8;simp only[sz,simprocAttr,h1,h8,lu];exact⟨by simp[St,sx,h1,h2,h3],g0,gn,L,o,l,f,a⟩
 ·rintro k t df g hk ⟨rfl,⟨h1,h2,h3,-⟩,g0,gn,L,o,l,f,a⟩ h8;obtain⟨p,x,-,E⟩:=ae hk;obtain⟨V,X⟩:=aZ hp p E;obtain⟨pn,rfl⟩:=QD V;obtain⟨c,hc⟩:∃c,(S.Oz n)[pn]?=some c:=⟨_,Qr (by rw[aw];omega)⟩;have q:(S.cv n vars)[k]?=some c:=by simp[S.cv,S.OA,x,hc]
  have O:=D.b c (Qx q);obtain⟨cn,rfl⟩:=QD (show 0<=c by omega);have z:4 ^ k<=4 ^ 7:=R4 (by decide) (by omega);simp only[sz,simprocAttr];refine Nk (L:=L) (B:=g.nx) (n:=n) (vars:=vars) (us:=us) (b:=b) (u:=u') (lw:=lw') (k:=k) (p:=pn) (c:=cn) (out:=tat t 7) hN F hl2 x (by omega) (by omega) hc (by omega) f (λh bl hb=>?_) l ⟨g0,?_,by simpa [sx] using OwnT.nils,by simp[sx,vid],gn,Qq _⟩ (by simp[St,sx,h1,h2,h3,h8]) (by simp[sx]) ?_
  ·rw[a h]at hb;exact (tQ k (by omega) bl hb).1
  ·have:=o.sl (by omega);have e:(λi=>0<=i/\i<g.nx)=λi=>i<g.nx:=by funext i;simp
   rwa [e]at this
  ·rintro t g3 N ⟨h1,h2,h3,h8,-⟩ m M C A T;simp only[sz,simprocAttr,qU];refine⟨⟨by simp[St,sx,h1,h2,h3],m.g0,by omega,N,m.hN,?_,C,λh=>?_⟩,h8⟩
   ·rw[Nat.pow_succ];omega
   ·rw[A h,a h,S.Po,q];simp
 ·rintro t df g ⟨rfl,⟨h1,h2,h3,-⟩,g0,gn,L,o,l,f,a⟩;have z:4 ^ vars.length<=4 ^ 8:=R4 (by decide) (by omega);simp only[sz,simprocAttr,qW];exact⟨_,L,⟨a,by omega,λbl hb=>by have:=f bl hb;omega⟩,o.sl (by omega)⟩
end
theorem Nu{b b':Nat}{sz:Nat}(h:Own g b v sz rows)(hb:b'<=b):Own g b' v sz rows:=by
 rcases h with h|⟨id,ep,lo,c,k,a,p4⟩
 ·exact .inl h
 ·exact .inr ⟨id,ep,lo,by omega,k,a,p4⟩
structure BnH (g:G) (out:AV) (L:List (List Int)) (zs:List AV):Prop where
 ho:Own g 1 out 1 (zs.map λz=>[z])
 hz:All2 (λl z=>Own g 1 z 1 (l.map ci)) L zs
 ne:∀z∈zs,∀i,vid z=some i->vid out≠some i
 nd:∀(i j:Nat) (x y:AV) (k:Nat),zs[i]?=some x->zs[j]?=some y->vid x=some k->vid y=some k->i=j
theorem tj(h:BnH g out L zs)(hz:z∈zs):∃l∈L,Own g 1 z 1 (l.map ci):=by obtain⟨i,hi⟩:=QN hz;obtain⟨l,hl,h⟩:=h.hz.get' hi;exact⟨l,Qx hl,h⟩
theorem Na[XOc]{w':AV}{cs:List AV}(hL:SlR NoP k .nil L w')(hL1:L.length<=65536)(hL8:∀l∈L,l.length<=8)(g0:g.h.get 0=Tq 4 [cs])(gn:1<=g.nx)
  (ht:St t [(1,w'),(2,T9 0)]) (h5:tat t 5=.nils) (h6:tat t 6=T8 0)
  (fin:∀t g' zs,St t [(1,w'),(2,T9 0)]->g'.h.get 0=Tq 4 [cs]->1<=g'.nx->BnH g' (tat t 5) L zs->Q (.exit 0) t [] g'):wpL (wp C0 d none gU) Q t [] g:=by
 obtain⟨rows,O,W,P,X⟩:=pJ hL;have lw:∀g:G,bY .slice w' g=.val (T8 (L.length:Int)):=λg=>hL.len g;unfold gU;refine d7 L.length hL.1 (λj t df g=>df=[]/\St t [(1,w'),(2,T9 0)]/\g.h.get 0=Tq 4 [cs]/\1<=g.nx/\∃zs,BnH g (tat t 5) (L.take j) zs) ⟨rfl,ht,g0,gn,[],.inl ⟨h5,rfl⟩,trivial,by simp,by simp⟩ h6 (by decide)
  (by rintro j t df g v s (rfl|rfl|rfl) ⟨a1,⟨b1,b2,-⟩,c1,H,I⟩<;>exact⟨a1,by simp[St,sx,b1,b2],c1,H,by simpa [sx] using I⟩) ?_ ?_ ?_
 ·rintro j t df g D ⟨rfl,⟨h1,h2,-⟩,g0,gn,zs,hB⟩ h6;simp only[sz,simprocAttr,h1,h6,lw];exact⟨by simp[St,sx,h1,h2],g0,gn,zs,hB⟩
 ·rintro j t df g D ⟨rfl,⟨h1,h2,-⟩,g0,gn,zs,hB⟩ h6;obtain⟨l,hl,hlt,A⟩:=ae D;have J:=hL8 l A;obtain⟨z,R,S,hz⟩:=P j l hl;obtain⟨out,m⟩:∃out,out=tat t 5:=⟨_,rfl⟩;rw[<-m]at hB;have h5:=m.symm;have C:=hB.hz.len;rw[QZ,RB (by omega)]at C;simp only[sz,simprocAttr,h1,h5,h6,O,R,S];refine bg (b:=g.nx) (v:=.nils) (rows:=[]) (new:=l.map ci) (.inl ⟨rfl,rfl⟩) (hz.tree (h':=g.h) (Qq _)).ints (Qq _) (by simp[aS];omega) λv1 g1 hv1 n1 f1 vid1 _=>?_;rw[QU]at hv1;have p:=hv1.cell;simp only[sz,simprocAttr];rw[oW 1 [.nils] v1 g1 (by rw[p.1];rfl) p.2,p.1];simp only[sz,simprocAttr];have n:Fr g (g1.new (Tq 1 [[v1]])):=⟨by simp;omega,λi hi=>by
   have:(g1.new (Tq 1 [[v1]])).h.get i=g1.h.get i:=by simp[OE,show ¬i=g1.nx by omega]
   rw[this,f1 i hi (by simp[vid])]⟩
  refine bg (b:=1) (v:=out) (rows:=zs.map λz=>[z]) (new:=[[v1]]) (hB.ho.step n) (by rw[ba];simp[OE];rfl) (by simp) (by simp[aS];omega) λv2 g2 hv2 n2 f2 vid2 _=>?_;have N:g1.nx+1<=g2.nx:=n2;simp only[sz,simprocAttr];have o:vid out≠some 0:=λe=>by have:=(hB.ho.lt e).1;omega
  have w1:IntKind.wrap .i64 ((j:Int)+1)=((j+1:Nat):Int):=by rw[aB (by omega) (by omega)];rfl
  refine⟨⟨by simp[St,sx,h1,h2],?_,by omega,zs++[v1],?_,?_,?_,?_⟩,h6⟩
  ·rw[f2 0 (by simp) o,n.2 0 (by omega),g0]
  ·rw[Rx];exact hv2
  ·rw[hlt];have B:g.nx<=g2.nx:=by omega
   refine All2.append (xg (by rw[QZ];omega) λi a b ha hb=>?_) ⟨?_,trivial⟩
   ·obtain⟨a',f,h⟩:=hB.hz.get' hb;rw[ha]at f;injection f with f;subst f;refine h.fr B λi hi=>?_;have q:=h.lt hi;rw[f2 i (by simp;omega) (hB.ne b (Qx hb) i hi),n.2 i q.2]
   ·refine (Nu hv1 (show 1<=g.nx by omega)).fr (by omega) λi hi=>?_;have q:=hv1.lt hi;rw[f2 i (by simp;omega) (λe=>by have:=(hB.ho.lt e).2;omega)];simp[OE,show ¬i=g1.nx by omega]
  ·intro z hz i hi e;have hv:∀x,vid v2=some x->vid out=some x\/g1.nx+1<=x:=λx hx=>by
    rcases vid2 with e2|⟨M,e2,r⟩
    ·exact .inl (by rw[<-e2];exact hx)
    ·rw[e2]at hx;injection hx with hx;have r:g1.nx+1<=M:=r;exact .inr (by omega)
   rcases Q7.1 hz with h|h
   ·obtain⟨l',-,h'⟩:=tj hB h;have:=(h'.lt hi).2;rcases hv i e with e3|e3
    ·exact hB.ne z h i hi e3
    ·omega
   ·have:z=v1:=by simpa using h
    subst this;have h3:=hv1.lt hi;rcases hv i e with e3|e3
    ·have:=(hB.ho.lt e3).2;omega
    ·omega
  ·intro E F x y k hx K u w;have lt1:∀(i:Nat) (x:AV),(zs++[v1])[i]?=some x->vid x=some k->(i<zs.length/\zs[i]?=some x/\k<g.nx)\/(i=zs.length/\g.nx<=k):=by
    intro i x hx hk
    by_cases c:i<zs.length
    ·rw[QK c]at hx;obtain⟨l',-,h'⟩:=tj hB (Qx hx);exact .inl ⟨c,hx,(h'.lt hk).2⟩
    ·have hi:=(Qs.1 hx).1;rw[Q3,R_]at hi;have:i=zs.length:=by omega
     subst this;rw[QL (by omega)]at hx;have:x=v1:=by simpa using hx.symm
     subst this;exact .inr ⟨rfl,(hv1.lt hk).1⟩
   rcases lt1 E x hx u with⟨a1,a2,U⟩|⟨a1,a2⟩<;>rcases lt1 F y K w with⟨b1,b2,V⟩|⟨b1,b2⟩
   ·exact hB.nd E F x y k a2 b2 u w
   ·omega
   ·omega
   ·omega
 ·rintro t df g ⟨rfl,ht,g0,gn,zs,hB⟩;rw[QV]at hB;exact fin t g zs ht g0 gn hB
section
variable {b:Nat}
def LsR(h:H)(v:AV):Prop:=∃M:List (List Int),SlR (λ_=>True) 0 h M v
def Gd(h:H)(z:AV):Prop:=∃l:List Int,SlR (λ_=>True) 0 h l z
theorem F7(hr:am h 1 v=some rows)(hv:v=.nils\/∃id ep off len lim,v=.hsl id ep off len lim)(hl:rows.length<9223372036854775808)(hg:∀row∈rows,∃z,row=[z]/\Gd h z):LsR h v:=by
 have key:∀rows:List (List AV),(∀row∈rows,∃z,row=[z]/\Gd h z)->∃M:List (List Int),All2 (Rp.rp (λ_=>True) 0 h) M rows:=by
  intro rows
  induction rows with
  |nil=>intro _;exact⟨[],trivial⟩
  | cons r rows ih =>
   intro hg;obtain⟨z,rfl,l,hl⟩:=hg r (by simp);obtain⟨M,k⟩:=ih λrow h=>hg row (Q9 _ h);exact⟨l::M,ch.2 ⟨z,rfl,hl⟩,k⟩
 obtain⟨M,k⟩:=key rows hg;refine⟨M,by rw[k.len];exact hl,?_⟩;rcases hv with rfl|⟨id,ep,off,len,lim,rfl⟩
 ·have:rows=[]:=by injection hr with hr;exact hr.symm
  subst this
  match M,k with
  |[],_=>rfl
 ·exact⟨trivial,rows,hr,k⟩
theorem EB(h:Own g b z 1 (l.map ci))(hl:l.length<9223372036854775808):Gd g.h z :=
 ⟨l,h.sl (α:=Int) hl (Oz (λa=>aG.2 rfl) _) λ_ _=>trivial⟩
theorem yy{sz:Nat}(h:Own g b v sz rows):v=.nils\/∃id ep off len lim,v=.hsl id ep off len lim:=by
 rcases h with⟨rfl,-⟩|⟨id,ep,lo,-,-,rfl,-⟩
 ·exact .inl rfl
 ·exact .inr ⟨_,_,_,_,_,rfl⟩
theorem Fx(hB:BnH g out L zs)(hL8:∀l∈L,l.length<=8)(hn:g.nx<=g'.nx){x:Option Nat}(hf:∀i,i<g.nx->vid out≠some i->x≠some i->g'.h.get i=g.h.get i)(hz:z∈zs)(hx:∀i,vid z=some i->x≠some i):Gd g'.h z:=by obtain⟨l,hl,h⟩:=tj hB hz;have:=hL8 l hl;exact EB (h.fr hn λi hi=>hf i (h.lt hi).2 (hB.ne z hz i hi) (hx i hi)) (by omega)
theorem GA{sz:Nat}(hu:Own g b u sz rows)(hne:rows≠[]){n:Nat}(hn:n<=rows.length) :
  ∃id ep lo,u=.hsl id ep 0 rows.length none/\g.h.get id=.cells sz rows ep lo false/\kG sz u none (some (T8 (n:Int))) g=.val (.hsl id ep 0 n none):=by
 rcases hu with⟨rfl,rfl⟩|⟨id,ep,lo,h1,h2,rfl,h3⟩
 ·exact absurd rfl hne
 ·refine⟨id,ep,lo,rfl,h3,?_⟩;simp only[kG,jj,h3,Q2,Q2,Rz,aq,Rn,aa,Q6,Qq,if_true,aQ,RT,R6];simp only[bN];rw[show ak (n.ble rows.length) (some n) none=some n from by rw[aa,Qw (by simpa using hn)]];dsimp only;have hb:rows.length.beq 0=false:=by cases rows with|nil=>exact absurd rfl hne|cons a l=>rfl
  rw[hb]
  rfl
def Ir:SC:=.feet [0,0,3,0,0,16,56,127,255] [oM 48 5,oM 49 8,o 50 (.slc 1 (.t 48) [] [.t 49]),oM 51 5,oM 52 8,oA 53 52,o 54 (.slc 1 (.t 51) [.t 53] []),TS 55 1 24 50 54,oM 5 55]
theorem Iw[XOc](hB:BnH g out L zs)(hL1:L.length<=65536)(hL8:∀l∈L,l.length<=8)(hi:i<zs.length)(h5:tat t 5=out)(h8:tat t 8=T8 (i:Int))
  (fin:∀t g',LsR g'.h (tat t 5)->Q .norm t [] g'):wp C0 d none Ir Q t [] g:=by
 have o:=hB.hz.len;obtain⟨id,ep,lo,e1,e2,e3⟩:=GA (n:=i) hB.ho (by intro h;rw[SX]at h;rw[h]at hi;cases hi) (by rw[QA];omega);obtain⟨y,r,s⟩:=yO (n:=i+1) hB.ho (by rw[QA];omega);have w1:IntKind.wrap .i64 ((i:Int)+1)=((i+1:Nat):Int):=by rw[aB (by omega) (by omega)];rfl
 unfold Ir;have m:∀g':G,g'.h=g.h->kG 1 out (some (T8 ((i+1:Nat):Int))) none g'=.val y:=λg' h=>by rw[<-r];unfold kG;rw[h]
 have k:∀g':G,g'.h=g.h->kG 1 out none (some (T8 (i:Int))) g'=.val (.hsl id ep 0 i none):=λg' h=>by rw[<-e3];unfold kG;rw[h]
 simp only[sz,simprocAttr,sf,h5,h8,Sn,Sd];rw[k _ (by simp[sy])];simp only[sz,simprocAttr,sf,h5,h8,Sn,Sd,w1];rw[m _ (by simp[sy])];simp only[sz,simprocAttr,sf];refine Im (rows:=zs.map λz=>[z]) (new:=(zs.map λz=>[z]).drop (i+1)) (lo:=lo) (by simp[e2]) (by rw[<-s];congr 1) (by simp;omega) (by simp[aS];omega) λg2 n2 q2 f2=>?_;simp only[sz,simprocAttr,sf];refine⟨?_,fin _ _ ?_⟩
 ·simp only[Q5,Q4,QU,QQ];exact aT (false::(TK (TJ (true::(false::[]))))) [] (by simp[All2,ah,aC]) (by decide) (λp hp=>by cases hp)
 ·simp only[b_,↓reduceIte];have c:vid out=some id:=by rw[e1];rfl
  have q:g2.nx=g.nx+7:=by rw[n2];simp[sy]
  have a:∀j,j≠id->g2.h.get j=g.h.get j:=λj hj=>by rw[f2 j hj];simp[sy]
  have b:am g2.h 1 (.hsl id ep 0 (i+((zs.map λz=>[z]).drop (i+1)).length) none)=some ((zs.take i++zs.drop (i+1)).map λz=>[z]):=by rw[ba,q2,cg,Qw (by simp;omega),Sa];congr 1;rw[<-Rj,List.take_append_of_le_length (by simp;omega),QF (by simp;omega),Rx,List.map_take,List.map_drop]
  refine F7 (rows:=(zs.take i++zs.drop (i+1)).map λz=>[z]) (by simpa [sy] using b) (.inr ⟨_,_,_,_,_,rfl⟩) (by simp;omega) λrow hrow=>?_;obtain⟨z,hz,rfl⟩:=Rb.1 hrow;have f:z∈zs:=by
   rcases Q7.1 hz with h|h
   ·exact Q8 h
   ·exact Sz h
  refine⟨z,rfl,?_⟩;have:=Fx (g':=g2) (x:=none) hB hL8 (by omega) (λj hj hv _=>a j λe=>hv (by rw[c,e])) f (λ_ _ h=>by cases h);simpa [sy] using this
def Iq:SC:=.ops [oM 39 5,oM 40 5,oM 41 8,oX 42 40 41,oL 43 42,T0 44 43,TS 45 1 24 39 44,oM 5 45]
theorem uC(h:zs[i]?=some z):(zs.map λz=>[z])[i]?=some [z]:=by rw[Qv,h];rfl
theorem Iv[XOc](hB:BnH g out L zs)(hL1:L.length<=65536)(hL8:∀l∈L,l.length<=8)(gn:1<=g.nx)(hi:i<zs.length)(h5:tat t 5=out)(h8:tat t 8=T8 (i:Int))
  (fin:∀t g',LsR g'.h (tat t 5)->Q .norm t [] g'):wp C0 d none Iq Q t [] g:=by
 have f:=hB.hz.len;obtain⟨z,hz,-,k⟩:=ae hi;obtain⟨l,hl,c⟩:=tj hB k;have zc:=c.cell;have n:i<(zs.map λz=>[z]).length:=by rw[QA];exact hi
 unfold Iq;simp only[sz,simprocAttr,h5,h8,hB.ho.rows,n,uC hz];rw[oW 1 [.nils] z g (by rw[zc.1];rfl) zc.2,zc.1];simp only[sz,simprocAttr];refine bg (b:=1) (v:=out) (rows:=zs.map λz=>[z]) (new:=[[z]]) (hB.ho.step (Fr.new _ _)) (by rw[ba];simp[OE];rfl) (by simp) (by simp[aS];omega) λv2 g2 hv2 n2 f2 vid2 _=>?_;have m:g.nx+1<=g2.nx:=n2;simp only[sz,simprocAttr];refine fin _ _ ?_;simp only[b_,↓reduceIte];refine F7 hv2.rows (yy hv2) (by simp;omega) λrow hrow=>?_;have e:∃y∈zs,row=[y]:=by
  rcases Q7.1 hrow with h|h
  ·obtain⟨y,a,rfl⟩:=Rb.1 h;exact⟨y,a,rfl⟩
  ·exact⟨z,k,by simpa using h⟩
 obtain⟨y,a,rfl⟩:=e;exact⟨y,rfl,Fx (x:=none) hB hL8 (by omega) (λj hj hv _=>by rw[f2 j (by simp;omega) hv];simp[OE,show ¬j=g.nx by omega]) a (λ_ _ h=>by cases h)⟩
def Is:SC:=sQ [oM 58 5,oM 59 8,oX 60 58 59,oL 61 60,oN 62 61,Tt 63 .gtr 62 0] (T6 63 (.feet [0,0,0,0,12,28,0,0,192,448,960,1984,4092,8191,16383] [oM 64 5,oM 65 8,oM 66 5,oM 67 8,oX 68 66 67,oL 69 68,oM 70 5,oM 71 8,oX 72 70 71,oL 73 72,oN 74 73,Tt 75 .sub 74 1,o 76 (.slc 1 (.t 69) [] [.t 75]),oX 77 64 65,Tw 1 77 76]) (.skip))
theorem IE(hB:BnH g out L zs)(hL1:L.length<=65536)(hL8:∀l∈L,l.length<=8):LsR g.h out:=by have a:=hB.hz.len;refine F7 hB.ho.rows (yy hB.ho) (by simp;omega) λrow hrow=>?_;obtain⟨y,k,rfl⟩:=Rb.1 hrow;exact⟨y,rfl,Fx (x:=none) hB hL8 (Qq _) (λ_ _ _ _=>rfl) k (λ_ _ h=>by cases h)⟩
theorem D7{y:AV}(hB:BnH g out L zs)(hL1:L.length<=65536)(hL8:∀l∈L,l.length<=8)(ho:Own g' 1 out 1 ((zs.map λz=>[z]).set i [y]))(hy:Gd g'.h y)(hn:g.nx<=g'.nx){x:Option Nat}(hf:∀i,i<g.nx->vid out≠some i->x≠some i->g'.h.get i=g.h.get i)(hx:∀(j:Nat) (z:AV),j≠i->zs[j]?=some z->∀k,vid z=some k->x≠some k):LsR g'.h out:=by
 have b:=hB.hz.len;refine F7 ho.rows (yy ho) (by simp;omega) λrow hrow=>?_;obtain⟨j,a⟩:=QN hrow;rw[Rq]at a
 by_cases c:i=j
 ·rw[Qw c]at a
  split at a
  ·injection a with a;exact⟨y,a.symm,hy⟩
  ·cases a
 ·rw[Qu c,Qv]at a;cases hz:zs[j]? with
  |none=>rw[hz]at a;cases a
  | some z =>
   rw[hz]at a;have a:row=[z]:=by injection a with a;exact a.symm
   exact⟨z,a,Fx hB hL8 hn hf (Qx hz) (hx j z (λe=>c e.symm) hz)⟩
theorem Ix[XOc](hB:BnH g out L zs)(hL1:L.length<=65536)(hL8:∀l∈L,l.length<=8)(gn:1<=g.nx)(hi:i<zs.length)(h5:tat t 5=out)(h8:tat t 8=T8 (i:Int))
  (fin:∀t g',LsR g'.h (tat t 5)->Q .norm t [] g'):wp C0 d none Is Q t [] g:=by
 have w:=hB.hz.len;obtain⟨z,hz,-,e⟩:=ae hi;obtain⟨l,hl,f⟩:=tj hB e;have u:=hL8 l hl;have s:i<(zs.map λz=>[z]).length:=by rw[QA];exact hi
 have lz:∀g':G,bY .slice z g'=.val (T8 (l.length:Int)):=λg'=>by have:=jH f.rows g';rwa [QA]at this
 unfold Is
 by_cases c:l=[]
 ·have c':¬(0:Int)<(l.length:Int):=by rw[c];simp
  simp only[sz,simprocAttr,h5,h8,hB.ho.rows,s,uC hz,lz,c'];exact fin _ _ (by simpa [sx,h5] using IE hB hL1 hL8)
 ·have hp:=List.length_pos_iff.2 c;have c':(0:Int)<(l.length:Int):=by omega
  have w1:IntKind.wrap .i64 ((l.length:Int) - 1)=((l.length - 1:Nat):Int):=by rw[aB (by omega) (by omega)];omega
  obtain⟨id,ep,lo,e1,e2,e3⟩:=GA (n:=l.length - 1) f (by intro h;rw[SX]at h;exact c h) (by rw[QA];omega);have m:∀g':G,g'.h=g.h->kG 1 z none (some (T8 ((l.length - 1:Nat):Int))) g'=.val (.hsl id ep 0 (l.length - 1) none):=λg' h=>by rw[<-e3];unfold kG;rw[h]
  simp only[sz,simprocAttr,sf,h5,h8,hB.ho.rows,s,uC hz,lz,c',w1,Sn,Sd];rw[m _ (by simp[sy])];simp only[sz,simprocAttr,sf,hB.ho.rows,s];refine ct (b:=1) (v:=out) (sz:=1) (n:=1) (i:=i) (off:=0) (x:=.hsl id ep 0 (l.length - 1) none) (row:=[z]) (row':=[.hsl id ep 0 (l.length - 1) none]) (rows:=zs.map λz=>[z]) (hB.ho.fr (by simp[sy];omega) λj _=>by simp[sy]) (uC hz) rfl rfl rfl λg2 o2 n2 f2=>?_;simp only[sz,simprocAttr];have r:g.nx<=g2.nx:=by rw[n2];simp[sy];omega
  have k:∀j,vid out≠some j->g2.h.get j=g.h.get j:=λj hj=>by rw[f2 j hj];simp[sy]
  refine⟨?_,fin _ _ ?_⟩
  ·simp only[Q5,Q4,QU,QQ];exact aT (TK (TJ (TH (true::[])))) [] (by simp[All2,ah,aC]) (by decide) (λp hp=>by cases hp)
  ·simp only[b_,h5];have q:vid out≠some id:=hB.ne z e id (by rw[e1];rfl);have o:Gd g2.h (.hsl id ep 0 (l.length - 1) none):=by refine⟨l.take (l.length - 1),by rw[QZ];omega,trivial,(l.take (l.length - 1)).map ci,?_,Oz (λa=>aG.2 rfl) _⟩;rw[show Rp.sz Int=1 from rfl,ba,k id q,e2,cg,Qw (by simp),Sa,List.map_take]
   have:=D7 (g':=g2) (x:=none) hB hL1 hL8 o2 o r (λj _ hv _=>k j hv) (λ_ _ _ _ _ _ h=>by cases h);simpa [sy] using this
theorem LV{sz:Nat}(hu:Own g b u sz rows)(hne:rows≠[]):∃id,af u=[id]/\vid u=some id/\id<g.nx/\∀i off,af (kX sz u i off)=[id]:=by
 rcases hu with⟨rfl,rfl⟩|⟨id,ep,lo,h1,h2,rfl,h3⟩
 ·exact absurd rfl hne
 ·exact⟨id,rfl,rfl,h2,λ_ _=>rfl⟩
def It:SC:=.feet [0,0,0,0,12,28,0,64,192,508,1023,2047] [oM 80 5,oM 81 8,oM 82 5,oM 83 8,oX 84 82 83,oL 85 84,oF 86 3 2,oL 87 86,TZ 88 87,TS 89 1 8 85 88,oX 90 80 81,Tw 1 90 89]
theorem Iy[XOc]{a b c:AV}(hB:BnH g out L zs)(hL1:L.length<=65536)(hL8:∀l∈L,l.length<=8)(gn:1<=g.nx)(g0:g.h.get 0=Tq 4 [[a,b,c,T8 x]])(h2:tat t 2=T9 0)(hi:i<zs.length)(h5:tat t 5=out)(h8:tat t 8=T8 (i:Int))
  (fin:∀t g',LsR g'.h (tat t 5)->Q .norm t [] g'):wp C0 d none It Q t [] g:=by
 have H:=hB.hz.len;obtain⟨z,hz,-,m⟩:=ae hi;obtain⟨l,hl,w⟩:=tj hB m;have F:=hL8 l hl;have E:i<(zs.map λz=>[z]).length:=by rw[QA];exact hi
 obtain⟨io,o1,o2,o3,J⟩:=LV hB.ho (by intro h;rw[SX]at h;rw[h]at hi;cases hi);have ld:bB (Tq 4 [[a,b,c,T8 x]]) 0 0 false 1 3=.val (T8 x):=rfl;unfold It;simp only[sz,simprocAttr,sf,h2,h5,h8,hB.ho.rows,E,uC hz,g0,ld];refine bg (b:=1) (v:=z) (rows:=l.map ci) (new:=[[T8 x]]) (w.fr (by simp[sy];omega) λj f=>?_) (by rw[ba];simp[sy]) (by simp[sy]) (by simp[aS];omega) λz2 g2 hv2 n2 f2 vid2 _=>?_
 ·have:=(w.lt f).2;simp[sy,show ¬j=g.nx+8 by omega]
 have I:g.nx+9<=g2.nx:=by simp[sy]at n2;omega
 have q:∀j,j<g.nx->vid z≠some j->g2.h.get j=g.h.get j:=λj f hv=>by rw[f2 j (by simp[sy];omega) hv];simp[sy,show ¬j=g.nx+8 by omega]
 have C:vid z≠vid out:=λe=>hB.ne z m io (by rw[e,o2]) o2;have o:=hv2.cell;have s:Own g2 1 out 1 (zs.map λz=>[z]):=hB.ho.fr (by omega) λj f=>q j (hB.ho.lt f).2 (λe=>hB.ne z m j e f);simp only[sz,simprocAttr,sf,s.rows,E];refine ct (b:=1) (v:=out) (sz:=1) (n:=1) (i:=i) (off:=0) (x:=z2) (row:=[z]) (row':=[z2]) (rows:=zs.map λz=>[z]) (s.fr (by simp[sy];omega) λj _=>by simp[sy]) (uC hz) (by rw[o.1];rfl) o.2 (by rw[o.1];rfl) λg3 o3' n3 f3=>?_;simp only[sz,simprocAttr];have D:g2.nx<=g3.nx:=by rw[n3];simp[sy];omega
 have r:∀j,vid out≠some j->g3.h.get j=g2.h.get j:=λj f=>by rw[f3 j f];simp[sy]
 have u:∀j,vid z2=some j->vid out≠some j:=λj f e=>by
  rcases vid2 with e2|⟨k,e2,hk⟩
  ·exact hB.ne z m j (by rw[<-e2];exact f) e
  ·rw[e2]at f;injection f with f;have:=(hB.ho.lt e).2;simp[sy]at hk;omega
 refine⟨?_,fin _ _ ?_⟩
 ·simp only[Q5,Q4,QU,QQ];refine aT (TH (true::(true::(false::(true::[]))))) [(0,8),(1,8),(2,8),(3,8),(4,8),(5,8),(0,9),(1,9)] (by simp[All2,ah,aC]) (by decide) ?_;rintro p hp x y hx A;simp only[Rh,QH,S9]at hp;rcases hp with rfl|rfl|rfl|rfl|rfl|rfl|rfl|rfl<;>(simp[o1,J]at hx A;subst hx;subst A;refine eO rfl rfl rfl rfl ?_ ?_ ?_<;>simp[ah,aC]<;>omega)
 ·simp only[b_,h5];have B:Gd g3.h z2:=by
   have e:l.map ci++[[T8 x]]=(l++[x]).map ci:=by simp[ci]
   rw[e]at hv2;refine EB (g:=g3) (b:=1) (l:=l++[x]) (hv2.fr D λj f=>r j (u j f)) (by simp;omega)
  have:=D7 (g':=g3) (x:=vid z) hB hL1 hL8 o3' B (by omega) (λj f hv hv2=>by rw[r j hv,q j f hv2]) (λj y hji A k hk e=>hji (hB.nd j i y z k A hz hk e));simpa [sy] using this
def Iu:SC:=sQ [oM 93 5,oM 94 8,oX 95 93 94,oL 96 95,oN 97 96,Tt 98 .gtr 97 0] (T6 98 (.feet [0,0,3,7,0,16,48,0,0,384,896,1920,4080,0,8192,32767,65535] [oM 99 5,oM 100 8,oX 101 99 100,oL 102 101,oF 103 2 2,oL 104 103,TX 105 .i64 104,oM 106 5,oM 107 8,oX 108 106 107,oL 109 108,oN 110 109,Ts 111 .rem 105 110,oF 112 3 2,oL 113 112,oX 114 102 111,Tw 1 114 113]) (.skip))
theorem Iz[XOc]{a b:AV}{kv:UInt8}(hB:BnH g out L zs)(hL1:L.length<=65536)(hL8:∀l∈L,l.length<=8)(gn:1<=g.nx)(g0:g.h.get 0=Tq 4 [[a,b,u8v kv,T8 x]])(h2:tat t 2=T9 0)(hi:i<zs.length)(h5:tat t 5=out)(h8:tat t 8=T8 (i:Int))
  (fin:∀t g',LsR g'.h (tat t 5)->Q .norm t [] g'):wp C0 d none Iu Q t [] g:=by
 have E:=hB.hz.len;obtain⟨z,hz,-,q⟩:=ae hi;obtain⟨l,hl,f⟩:=tj hB q;have D:=hL8 l hl;have B:i<(zs.map λz=>[z]).length:=by rw[QA];exact hi
 have lz:∀g':G,bY .slice z g'=.val (T8 (l.length:Int)):=λg'=>by have:=jH f.rows g';rwa [QA]at this
 have ld3:bB (Tq 4 [[a,b,u8v kv,T8 x]]) 0 0 false 1 3=.val (T8 x):=rfl;have ld2:bB (Tq 4 [[a,b,u8v kv,T8 x]]) 0 0 false 1 2=.val (.int .u8 (kv.toNat:Int)):=rfl;unfold Iu
 by_cases c:l=[]
 ·have c':¬(0:Int)<(l.length:Int):=by rw[c];simp
  simp only[sz,simprocAttr,h5,h8,hB.ho.rows,B,uC hz,lz,c'];exact fin _ _ (by simpa [sx,h5] using IE hB hL1 hL8)
 ·have hp:=List.length_pos_iff.2 c;have c':(0:Int)<(l.length:Int):=by omega
  have C:kv.toNat<256:=kv.toNat_lt;have w1:IntKind.wrap .i64 (kv.toNat:Int)=(kv.toNat:Int):=aB (by omega) (by omega);have rm:cx .rem (T8 (kv.toNat:Int)) (T8 (l.length:Int))=.val (T8 ((kv.toNat % l.length:Nat):Int)):=by rw[gQ .i64 (by omega) c',<-Ta]
  have o:=So kv.toNat hp;obtain⟨y,A,-,-⟩:=ae o;have F:kv.toNat % l.length<(l.map ci).length:=by rw[QA];exact o
  have H:(l.map ci)[kv.toNat % l.length]?=some (ci y):=by rw[Qv,A];rfl
  simp only[sz,simprocAttr,sf,h2,h5,h8,hB.ho.rows,B,uC hz,lz,c',g0,ld2,ld3,w1,rm,f.rows,F];refine ct (b:=1) (v:=z) (sz:=1) (n:=1) (i:=kv.toNat % l.length) (off:=0) (x:=T8 x) (row:=ci y) (row':=ci x) (rows:=l.map ci) (f.fr (by simp[sy];omega) λj _=>by simp[sy]) H rfl rfl rfl λg2 o2 n2 f2=>?_;simp only[sz,simprocAttr];have r:g.nx<=g2.nx:=by rw[n2];simp[sy];omega
  have m:∀j,vid z≠some j->g2.h.get j=g.h.get j:=λj hj=>by rw[f2 j hj];simp[sy]
  refine⟨?_,fin _ _ ?_⟩
  ·simp only[Q5,Q4,QU,QQ];exact aT (TH (TH (true::[]))) [] (by simp[All2,ah,aC]) (by decide) (λp hp=>by cases hp)
  ·simp only[b_,h5];rw[<-RX]at o2;have u:Gd g2.h z:=EB o2 (by simp;omega);have w:(zs.map λz=>[z]).set i [z]=zs.map λz=>[z]:=by
    refine RW λj=>?_;rw[Rq]
    by_cases e:i=j
    ·subst e;rw[Qw rfl,Qw B,uC hz]
    ·rw[Qu e]
   have s:Own g2 1 out 1 ((zs.map λz=>[z]).set i [z]):=by rw[w];exact hB.ho.fr r λj hj=>m j (λe=>hB.ne z q j e hj)
   have:=D7 (g':=g2) (x:=vid z) hB hL1 hL8 s u r (λj _ _ hv=>m j hv) (λj y hji A k hk e=>hji (hB.nd j i y z k A hz hk e));simpa [sy] using this
end
theorem NX:lO=T7 (sQ [oM 24 5,oN 25 24,Tt 26 .eql 25 0] (T6 26 (sQ [oM 27 5,oM 4 27] (.ret)) (.skip))) (sQ [oF 28 1 2,oL 29 28,TX 30 .i64 29,oM 31 5,oN 32 31,Ts 33 .rem 30 32,oM 8 33] (T7 (sQ [oF 34 0 2,oL 35 34,TV 36 .rem 35 .u8 6] (.blk 2 (sQ [TV 38 .eql 36 .u8 0,oM 37 38] (T6 37 Iq (sQ [TV 47 .eql 36 .u8 1,oM 46 47] (T6 46 Ir (sQ [TV 57 .eql 36 .u8 2,oM 56 57] (T6 56 Is (sQ [TV 79 .eql 36 .u8 3,oM 78 79] (T6 78 It (sQ [TV 92 .eql 36 .u8 4,oM 91 92] (T6 91 Iu (.ops [TU 5]))))))))))))) bo)):=rfl
theorem EK[XOc]{x:vD}(hd:0<d)(hx:Agg x NoP 0 g.h v)(hw:SlR P1 k1 g.h L w)(hL1:L.length<=65536)(hL8:∀l∈L,l.length<=8) :
  ∃r,ay C0 d 26 [v,w] g=.val r/\LsV (λ_=>True) NoP 0 .nil r:=by
 have e1:=tH d hx;obtain⟨cs,rfl,hc⟩:=hx;have hc:=Di.1 hc;subst hc;obtain⟨w',e2,b⟩:=bj hw d;rw[sW];refine bK uV (xs:=[.agg [u8v x.1,u8v x.2.1,u8v x.2.2.1,T8 x.2.2.2],w']) (by simp only[aF,e1,e2]) (by simp[ky]) (KB _) (by decide) hd ?_;simp only[sz,simprocAttr,ky,mJ];refine Na (cs:=[u8v x.1,u8v x.2.1,u8v x.2.2.1,T8 x.2.2.2]) (b .nil) hL1 hL8 (by simp[OE,show G.empty.nx=0 from rfl,u8v]) (by simp) (by simp[St,sx]) (by simp[sx]) (by simp[sx]) ?_;rintro t g1 zs ⟨h1,h2,-⟩ g0 gn hB;obtain⟨out,a⟩:∃out,out=tat t 5:=⟨_,rfl⟩;rw[<-a]at hB;have h5:=a.symm;have f:=hB.hz.len;have lo:∀g:G,bY .slice out g=.val (T8 (zs.length:Int)):=λg=>by have:=jH hB.ho.rows g;rwa [QA]at this
 simp only[sz,simprocAttr,NX,h5,lo]
 by_cases c:zs.length=0
 ·have c':(zs.length:Int)=0:=by omega
  simp only[sz,simprocAttr,c',h5];obtain⟨M,k⟩:=IE hB hL1 hL8;exact⟨_,M,trivial,k⟩
 have c':¬(zs.length:Int)=0:=by omega
 have ld1:bB (Tq 4 [[u8v x.1,u8v x.2.1,u8v x.2.2.1,T8 x.2.2.2]]) 0 0 false 1 1=.val (.int .u8 (x.2.1.toNat:Int)):=rfl;have ld0:bB (Tq 4 [[u8v x.1,u8v x.2.1,u8v x.2.2.1,T8 x.2.2.2]]) 0 0 false 1 0=.val (.int .u8 (x.1.toNat:Int)):=rfl;have e:x.2.1.toNat<256:=x.2.1.toNat_lt;have w1:IntKind.wrap .i64 (x.2.1.toNat:Int)=(x.2.1.toNat:Int):=aB (by omega) (by omega);have rm:cx .rem (T8 (x.2.1.toNat:Int)) (T8 (zs.length:Int))=.val (T8 ((x.2.1.toNat % zs.length:Nat):Int)):=by rw[gQ .i64 (by omega) (by omega),<-Ta]
 have rm6:cx .rem (.int .u8 (x.1.toNat:Int)) (.int .u8 6)=.val (.int .u8 ((x.1.toNat % 6:Nat):Int)):=by rw[gQ .u8 (by omega) (by decide)];rfl
 have hi:=So x.2.1.toNat (show 0<zs.length by omega);have h6:=So x.1.toNat (show 0<6 by decide);have cases:x.1.toNat % 6=0\/x.1.toNat % 6=1\/x.1.toNat % 6=2\/x.1.toNat % 6=3\/x.1.toNat % 6=4\/x.1.toNat % 6=5:=by omega
 rcases cases with hm|hm|hm|hm|hm|hm<;>rw[hm]at rm6<;>simp only[sz,simprocAttr,c',h2,h5,g0,ld1,w1,lo,rm,ld0,rm6]
 ·refine Iv hB hL1 hL8 gn hi (by simp[sx,h5]) (by simp[sx]) λt g' hLs=>?_;obtain⟨M,k⟩:=hLs;simp only[sz,simprocAttr,bo];exact⟨_,M,trivial,k⟩
 ·refine Iw hB hL1 hL8 hi (by simp[sx,h5]) (by simp[sx]) λt g' hLs=>?_;obtain⟨M,k⟩:=hLs;simp only[sz,simprocAttr,bo];exact⟨_,M,trivial,k⟩
 ·refine Ix hB hL1 hL8 gn hi (by simp[sx,h5]) (by simp[sx]) λt g' hLs=>?_;obtain⟨M,k⟩:=hLs;simp only[sz,simprocAttr,bo];exact⟨_,M,trivial,k⟩
 ·refine Iy hB hL1 hL8 gn g0 (by simp[sx,h2]) hi (by simp[sx,h5]) (by simp[sx]) λt g' hLs=>?_;obtain⟨M,k⟩:=hLs;simp only[sz,simprocAttr,bo];exact⟨_,M,trivial,k⟩
 ·refine Iz hB hL1 hL8 gn g0 (by simp[sx,h2]) hi (by simp[sx,h5]) (by simp[sx]) λt g' hLs=>?_;obtain⟨M,k⟩:=hLs;simp only[sz,simprocAttr,bo];exact⟨_,M,trivial,k⟩
 ·simp only[sz,simprocAttr,bo];exact⟨λ_=>True,[],trivial,by simp,rfl⟩
def dE:SC:=.ops [oM 78 17,oM 79 20,TZ 80 79,TS 81 1 8 78 80,oM 17 81]
def n9:SC:=.ops [oA 82 55,oM 55 82]
def dC:SC:=sQ [Ts 56 .lss 55 54] (T7 (T5 56 0) (T7 (.blk 1 (sQ [oM 57 55,oX 58 53 55,oL 59 58,oM 18 57,oM 19 59] (sQ [oK 20 0] (T7 (sQ [oM 60 4,oN 61 60,Tt 62 .gtr 61 0] (T6 62 (.quiet [oM 63 4,oM 64 18,oM 65 4,oN 66 65,Ts 67 .rem 64 66,oX 68 63 67,oL 69 68,TX 70 .i64 69,oF 71 1 11,oL 72 71,oM 73 19,TA 74 3 72 73,oF 75 0 74,oL 76 75,Ts 77 .rem 70 76,oM 20 77]) (.skip))) dE)))) n9))
def dD:SC:=sQ [Tt 96 .lss 95 3] (T7 (T5 96 2) (T7 (.blk 3 (sQ [o 97 (.ix false 3 1 (.t 94) (.t 95)),oM 23 97] (sQ [Tu 98 2 11,oM 99 12,oM 100 13,oM 101 17,oM 102 23,o 103 (.call 27 [.t 98,.t 99,.t 100,.t 101,.t 102]),Tt 104 .eql 103 0,oM 105 104,TB 106 105 true 17,TB 107 105 true 14,og 108 105 true (.call 18 [.t 106,.t 107]),og 109 105 true (.not (.t 108)),Tz 110 105 109] (T6 110 (sQ [TT 10 false] (.ret)) (.skip))))) (.ops [oA 111 95,oM 95 111])))
def ig:SC:=sQ [Tu 113 2 11,oM 114 12,oM 115 13,TP 116 23 113 114 115,oM 112 116,Tv 117 112 0,Tv 118 112 1,Tv 119 112 2,oM 24 117,oM 25 118,oM 26 119] (T7 (.quiet [oM 120 26,Tt 121 .eql 120 0,oM 122 121,og 123 122 true (.load true 2 (.t 11)),TB 124 122 true 12,TB 125 122 true 13,TB 126 122 true 14,og 127 122 true (.load true 2 (.t 11)),TB 128 122 true 13,og 129 122 true (.call 25 [.t 127,.t 128,.k (.nils)]),og 130 122 true (.call 27 [.t 123,.t 124,.t 125,.t 126,.t 129]),TF 131 122 true .eql 130 0,Tz 132 122 131,oM 133 132,og 134 133 true (.load true 2 (.t 11)),TB 135 133 true 12,TB 136 133 true 13,TB 137 133 true 14,TB 138 133 true 25,og 139 133 true (.call 27 [.t 134,.t 135,.t 136,.t 137,.t 138]),TF 140 133 true .eql 139 0,Tz 141 133 140,oM 10 141]) (.ret))
def il:SC:=sQ [Tu 83 2 11,oM 84 13,oM 85 2,TP 86 25 83 84 85,oM 21 86] (T7 (T7 (.quiet [oM 87 21,Tu 88 4 8,oM 89 21,TO 90 26 88 89,Tu 91 2 11,oM 92 13,o 93 (.call 25 [.t 91,.t 92,.k (.nils)]),o 94 (.build [.nils,.nils,.nils] [(0,1),(1,1),(2,1)] [.t 87,.t 90,.t 93]),oK 95 0]) (.blk 2 (.loop dD))) ig)
def iX:SC:=T7 (sQ [o 27 (.call 12 []),TW 28 27] (T6 28 (sQ [TT 10 false] (.ret)) (.skip))) (sQ [Tu 29 3 5,TN 30 15 29,o 11 (.alloc [T8 0,.nils]),Tw 2 11 30] (T7 (.quiet [oF 31 0 6,Tu 32 9 31,Tu 33 2 11,TO 34 31 32 33,oF 35 9 6,oL 36 35,oF 37 1 11,oL 38 37,oN 39 38,TO 40 32 36 39,oM 12 34,oM 13 40]) (sQ [Tu 42 2 11,oM 43 12,oM 44 13,TP 45 16 42 43 44,oM 41 45,Tv 46 41 0,Tv 47 41 1,Tv 48 41 2,o 15 (.alloc [T8 0,T8 0]),oM 14 46,Tw 2 15 47,oM 16 48] (T7 (sQ [oM 49 16,Tt 50 .neq 49 0] (T6 50 (sQ [oM 51 16,Tt 52 .eql 51 7,oM 10 52] (.ret)) (.skip))) (sQ [TU 17] (T7 (sQ [oM 53 13,oN 54 53,oK 55 0] (.blk 0 (.loop dC))) il))))))
def eU:SF:=⟨142,[.tm 10],sQ [T2 5 0,T2 6 1,T2 8 3,TT 10 false] iX⟩
theorem qg[XOc]:nFn C0 7=some eU:=by kernel_rfl
def AB[XOc]:Prop:=∀{d k1 k2 k3 k4:Nat} {P1 P2 P3 P4:Nat->Prop} {g:G} {n:Net} {e vars vals:List Int} {proof:List (List Int)} {v w u x z:AV},0<d->Agg n NoP 0 g.h v->SlR P1 k1 g.h e w->SlR P2 k2 g.h vars u->k2<=d->SlR P3 k3 g.h vals x->k3<=d->SlR P4 k4 g.h proof z->k4<=d ->
 ay C0 d 27 [v,w,u,x,z] g=.val (T8 (S.Pk n e vars vals proof))
theorem uY(h:S.OO n e vars=0):(NR n/\S.Pc n e=true)/\S.OF vars (n.nodes.length:Int)=true:=by
 unfold S.OO at h
 split at h
 ·rename_i c;exact j7.1 c
 ·rename_i c;exact absurd h c
theorem EN(h:S.OO n e vars=0):S.Pk n e vars (S.O0 n e vars) (S.Py n e vars)=0:=by
 obtain⟨⟨hr,a⟩,hp⟩:=uY h;have c:=j7.2 ⟨⟨hr,a⟩,hp⟩;obtain⟨d,b⟩:=kJ hr hp;have hb:=nJ (e:=e) hr hp;have k:(S.ON n e vars).length=vars.length:=by rw[<-b];exact hb.len
 rw[S.O0,Qw h,S.Py,Qw h,S.Pk,Qw c,Qw ⟨k,sT hr hp (by rwa [QF (by omega)]) (by omega)⟩,Qw (HJ hr hp)]
theorem IA{bl:List Int}(hb:S.OM n vars bl=true)(hj:vars[bl.length]?=some (p:Int))(hc:(S.Oz n)[p]?=some c)(h0:0<=x)(h1:x<c):S.OM n vars (bl++[x])=true:=by
 rw[S.OM,Qt]at hb ⊢;have hl:=(Qs.1 hj).1;refine⟨Rf (by simp;omega),QB.2 λi hi=>?_⟩;have hi:=QE.1 hi;rw[Q3,R_]at hi
 by_cases e:i<bl.length
 ·have:=QB.1 hb.2 i (QE.2 e);simpa [S.Pv,QK e] using this
 ·have:i=bl.length:=by omega
  subst this;simp[S.Pv,S.OA,hj,hc,h0,h1]
end
end Hx
