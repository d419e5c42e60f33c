/- A part of the proof: what the functions of the chapter compute. -/
import Derived.OpenShut
import Derived.DataReads
import Derived.Test.YteaikmdilmfbeaaGreatHx9
set_option linter.all false
set_option maxRecDepth 20000
set_option maxHeartbeats 8000000
namespace Hx
open Go
noncomputable section
variable {n:Net}{vars e:List Int}
def LSd(p8 p11:Nat)(lw vlw ew vw best:AV):List (Nat×AV):=[(2,lw),(4,vlw),(8,T9 p8),(11,T9 p11),(12,ew),(13,vw),(14,best)]
theorem N5[XOc]{p8 p11 B:Nat}{vl:List UInt8}{b7 lw vlw ew vw best:AV}{Q:QT}{t:T}{g:G}(hr:NR n)(hN:SlR NoP 0 .nil n.nodes b7)(hvl:SlR NoP 0 .nil vl vlw)(hv:SlR NoP 0 .nil vars vw)(hp:S.OF vars (n.nodes.length:Int)=true)(hvn:vars.length<=8)
  (g11:g.h.get p11=Tq 2 [[T8 n.grain,b7]]) (hB:p11<B) (hBn:B<=g.nx)
  (ht:St t ((17,.nils)::(53,vw)::LSd p8 p11 lw vlw ew vw best)) (h55:tat t 55=T8 0) (h54:tat t 54=T8 (vars.length:Int))
  (fin:∀t g' bl u,St t ((17,u)::LSd p8 p11 lw vlw ew vw best)->S.OM n vars bl=true->bl.length=vars.length->Own g' B u 1 (bl.map ci)->g.nx<=g'.nx->(∀i,i<B->g'.h.get i=g.h.get i)->Q (.exit 0) t [] g'):wpL (wp C0 1 none dC) Q t [] g:=by
 have rv:=λh=>(hv.tree (h':=h) (Qq _)).ints;have lU:=(hvl.tree (h':=.nil) (Qq 0)).len;obtain⟨ur,ur1,ur2,ur3,ur4⟩:=hvl.all;have ur1:∀h',am h' 1 vlw=some ur:=ur1;simp only[dC];refine aM (m:=vars.length) (by omega) (λj t df g'=>df=[]/\∃(bl:List Int) (u:AV),St t ((17,u)::(53,vw)::LSd p8 p11 lw vlw ew vw best)/\S.OM n vars bl=true/\bl.length=j/\Own g' B u 1 (bl.map ci)/\(∀i,i<B->g'.h.get i=g.h.get i)/\g.nx<=g'.nx)
  ⟨rfl,[],.nils,ht,by simp[S.OM],rfl,.inl ⟨rfl,rfl⟩,λ_ _=>rfl,Qq _⟩ h55 h54 (by decide) ?_ ?_ ?_
 ·rintro j t df g v s (rfl|rfl|rfl) ⟨a1,bl,u,⟨b1,b2,J,K,L,M,b7,N,O,-⟩,c⟩<;>exact⟨a1,bl,u,by simp[St,LSd,sx,b1,b2,J,K,L,M,b7,N,O],c⟩
 ·clear ht h55 h54;rintro j t df g2 R ⟨rfl,bl,u,⟨k,a,h2,h4,h8,b,d,e,f,-⟩,hb,p,ho,hf,E⟩ h55 h54;have o:g2.h.get p11=Tq 2 [[T8 n.grain,b7]]:=by rw[hf _ hB,g11]
  obtain⟨y,F,-,C⟩:=ae R;obtain⟨y0,y1⟩:=aZ hp y C;obtain⟨pn,nd,rows,pa,ra,rfl,U,Y,Z,r3,r4,D,r5⟩:=mN hN y0 y1;have A:=hr.card nd D;have H:j<(vars.map ci).length:=by rw[QA];omega
  have I:(vars.map ci)[j]?=some (ci (pn:Int)):=by rw[Qv,F];rfl
  have app:∀(x:Int) (t:T) (Q':QT),0<=x->x<nd.card->St t ((20,T8 x)::(17,u)::(53,vw)::(54,T8 (vars.length:Int))::(55,T8 (j:Int))::LSd p8 p11 lw vlw ew vw best) ->
    (∀t g',(∃(bl:List Int) (u:AV),St t ((17,u)::(53,vw)::LSd p8 p11 lw vlw ew vw best)/\S.OM n vars bl=true/\bl.length=j+1/\Own g' B u 1 (bl.map ci)/\(∀i,i<B->g'.h.get i=g.h.get i)/\g.nx<=g'.nx)->tat t 55=T8 (j:Int)->tat t 54=T8 (vars.length:Int)->Q' .norm t [] g') ->
    wp C0 1 none dE Q' t [] g2:=by
   rintro x t Q' h0 h1 ⟨w,k,a,h54,h55,h2,h4,h8,b,d,e,f,-⟩ P;simp only[dE,sz,simprocAttr,k,w];refine bg (ho.fr (g':=_) (by simp<;>omega) (λi hi=>?_)) (new:=[[T8 x]]) ?_ (by simp<;>omega) (by simp[aS]<;>omega) λv5 g5 o5 n5 f5 w5 _=>?_
   ·have:=ho.lt hi;simp[OE];omega
   ·simp[am,OE];rfl
   ·simp only[sz,simprocAttr];refine P _ _ ⟨bl++[x],v5,by simp[St,LSd,sx,h2,h4,h8,b,d,e,f,a],IA hb (by rw[p];exact F) r5 h0 h1,by simp[p],?_,λi hi=>?_,?_⟩ (by simp[sx,h55]) (by simp[sx,h54])
    ·rw[Rx];exact o5
    ·rw[f5 i (by simp;omega) λh=>by have:=ho.lt h;omega];rw[G.new_h,ax _ _ _ (by omega),hf i hi]
    ·simp at n5;omega
  by_cases cu:0<vl.length
  ·have cu':(0:Int)<(vl.length:Int):=by omega
   have r:=So j cu;obtain⟨q,hq,-,-⟩:=ae (l:=vl) (j:=j % vl.length) r;obtain⟨row,ur5,ur6⟩:=ur3 (j % vl.length) q hq;have ur6:=di.1 ur6;subst ur6;have u1:j % vl.length<ur.length:=by omega
   have V:q.toNat<256:=q.toNat_lt;have w0:cx .rem (T8 (j:Int)) (T8 (vl.length:Int))=.val (T8 ((j % vl.length:Nat):Int)):=wT cu;have w1:IntKind.wrap .i64 (q.toNat:Int)=(q.toNat:Int):=aB (by omega) (by omega);have w2:cx .rem (T8 (q.toNat:Int)) (T8 nd.card)=.val (T8 ((q.toNat:Int) % nd.card)):=ID (by omega) (by omega) (by omega);have W:0<=(q.toNat:Int) % nd.card:=Tf _ (by omega);have X:(q.toNat:Int) % nd.card<nd.card:=SY _ (by omega);simp only[sz,simprocAttr,h4,b,a,h55,lU,cu',o,ur1,u1,ur5,w0,w1,w2,rv,H,I,ci,Y,Z,r3,r4];refine app _ _ _ W X (by simp[St,LSd,sx,k,a,h54,h55,h2,h4,h8,b,d,e,f]) ?_;rintro t g' h1 h2 h3;simp only[sz,simprocAttr];exact⟨h1,h2,h3⟩
  ·have cu':¬(0:Int)<(vl.length:Int):=by omega
   simp only[sz,simprocAttr,h4,a,h55,lU,cu',rv,H,I,ci];refine app _ _ _ (SQ 0) (by omega) (by simp[St,LSd,sx,k,a,h54,h55,h2,h4,h8,b,d,e,f]) ?_;rintro t g' h1 h2 h3;simp only[sz,simprocAttr];exact⟨h1,h2,h3⟩
 ·rintro t df g' ⟨rfl,bl,u,⟨k,-,ht⟩,hb,z,ho,hf,E⟩;exact fin t g' bl u ⟨k,ht⟩ hb z ho E hf
theorem Ls{p q r:AV}(hp:p.cells=[p]/\p.isTup=false)(hq:q.cells=[q]/\q.isTup=false)(hr:r.cells=[r]/\r.isTup=false):ef [.nils,.nils,.nils] [((0,1),p),((1,1),q),((2,1),r)]=some [p,q,r]:=by simp[ef,hp,hq,hr,iF,a7]
theorem z_(h:S.OO n e vars=0):S.O0 n e vars=S.ON n e vars:=by rw[S.O0,Qw h]
theorem E1{bl:List Int}{Y:List (List Int)}(h:S.OO n e vars=0)(hb:S.OM n vars bl=true)(hl:bl.length=vars.length)(hz:S.Pk n e vars bl Y=0):bl=S.O0 n e vars:=by
 obtain⟨⟨hr,a⟩,hp⟩:=uY h;obtain⟨f,b⟩:=kJ hr hp;have k:=(wD hb).2;rw[QF (by have:(S.cv n vars).length=_:=b;unfold S.cv at this;omega)]at k;rw[z_ h];have d:S.Pa n e vars bl Y=true:=by
  unfold S.Pk at hz;rw[Qw (j7.2 ⟨⟨hr,a⟩,hp⟩),Qw ⟨hl,hb⟩]at hz
  by_cases c:S.Pa n e vars bl Y=true
  ·exact c
  ·rw[Qu c]at hz;exact absurd hz (by decide)
 exact Dh hr hp k d
theorem HO(h:S.OO n e vars=0):S.Pk n e vars (S.O0 n e vars) (S.Po (S.cv n vars) vars.length)=0:=by
 obtain⟨⟨hr,a⟩,hp⟩:=uY h;have c:=j7.2 ⟨⟨hr,a⟩,hp⟩;obtain⟨d,b⟩:=kJ hr hp;have hb:=nJ (e:=e) hr hp;have k:(S.ON n e vars).length=vars.length:=by rw[<-b];exact hb.len
 rw[z_ h,S.Pk,Qw c,Qw ⟨k,sT hr hp (by rwa [QF (by omega)]) (by omega)⟩,Qw (Hc hr hp)]
theorem N6[XOc](hR:AB){p8 p11 B:Nat}{bl:List Int}{Y1 Y2 Y3:List (List Int)}{b7 lw vlw ew vw best u y1 y2 y3:AV}{Q:QT}{t:T}{g:G}(hm:∀h,Agg n NoP 0 h (.agg [T8 n.grain,b7]))(he:SlR NoP 0 .nil e ew)(hv:SlR NoP 0 .nil vars vw)(hbv:SlR NoP 0 .nil (S.O0 n e vars) best)(h1:SlR NoP 0 .nil Y1 y1)(h2:SlR NoP 0 .nil Y2 y2)(h3:SlR NoP 0 .nil Y3 y3)
  (hE:S.OO n e vars=0) (hb:S.OM n vars bl=true) (hbl:bl.length=vars.length) (hvn:vars.length<=8) (ho:Own g B u 1 (bl.map ci))
  (g11:g.h.get p11=Tq 2 [[T8 n.grain,b7]])
  (ht:St t ((17,u)::(94,.agg [y1,y2,y3])::LSd p8 p11 lw vlw ew vw best)) (h95:tat t 95=T8 0)
  (fin:∀t,St t (LSd p8 p11 lw vlw ew vw best)->Q (.exit 2) t [] g):wpL (wp C0 1 none dD) Q t [] g:=by
 simp only[dD];refine DH (m:=3) rfl (by omega) (λj t df g'=>df=[]/\g'=g/\St t ((17,u)::(94,.agg [y1,y2,y3])::LSd p8 p11 lw vlw ew vw best)) ⟨rfl,rfl,ht⟩ h95 (by decide) ?_ ?_ ?_
 ·rintro j t df g v s (rfl|rfl|rfl) ⟨a1,a2,b1,b2,C,D,E,F,b7,I,J,-⟩<;>exact⟨a1,a2,by simp[St,LSd,sx,b1,b2,C,D,E,F,b7,I,J]⟩
 ·clear ht h95;rintro j t df g' L ⟨rfl,rfl,o,p,w,h4,h8,k,b,f,q,-⟩ h95;obtain⟨Y,y,K,z⟩:∃(Y:List (List Int)) (y:AV),SlR NoP 0 .nil Y y/\ixV false 3 1 (.agg [y1,y2,y3]) (T8 (j:Int))=.val y:=by
   have:j=0\/j=1\/j=2:=by omega
   rcases this with rfl|rfl|rfl
   ·exact⟨Y1,y1,h1,rfl⟩
   ·exact⟨Y2,y2,h2,rfl⟩
   ·exact⟨Y3,y3,h3,rfl⟩
  have x:SlR (λi=>vid u=some i) 0 g'.h bl u:=ho.sl (α:=Int) (by omega) (Oz (λa=>aG.2 rfl) _) λi hi=>hi;have wd:∀{l:List Int} {v:AV} (h:H),SlR NoP 0 .nil l v->SlR NoP 0 h l v:=λh r=>r.tree (Qq 0);have A:=hR (d:=1) (g:=g') (n:=n) (e:=e) (vars:=vars) (vals:=bl) (proof:=Y) (by decide) (hm g'.h) (wd g'.h he) (wd g'.h hv) (by decide) x (by decide) (K.tree (h':=g'.h) (Qq 0)) (by decide);have kq:=qG (d:=1) (g:=g') (l:=bl) (l2:=S.O0 n e vars) (by decide) x (wd g'.h hbv)
  by_cases c:S.Pk n e vars bl Y=0
  ·have hq:=E1 hE hb hbl c;rw[c]at A;have kq':ay C0 1 18 [u,best] g'=.val (.bool true):=by rw[kq,Rf hq]
   simp only[sz,simprocAttr,p,h95,z,k,g11,b,f,o,A,q,kq'];simp[St,LSd,sx,o,p,w,h4,h8,k,b,f,q]
  ·simp only[sz,simprocAttr,p,h95,z,k,g11,b,f,o,A,c];simp[St,LSd,sx,o,p,w,h4,h8,k,b,f,q]
 ·rintro t df g' ⟨rfl,rfl,-,-,ht⟩;exact fin t ht
theorem mD[XOc](hR:AB){x:uD}{y:vD}{u1 u4 lw vlw ew ow:AV}{vs us vl:List UInt8}{s:UInt8}{E O:List Int}(hx:Agg x NoP 0 .nil u1)
  (hv:vs.length=9) (hE:SlR NoP 0 .nil E ew) (hEr:Raw ew) (hO:SlR NoP 0 .nil O ow) (hOr:Raw ow) (hl:SlR NoP 0 .nil us lw) (hy:Agg y NoP 0 .nil u4) (hvl:SlR NoP 0 .nil vl vlw) :
  ∃g',(I C0).call 1 7 [u1,.agg (vs.map u8v++[u8v s,ew,ow]),lw,u4,vlw] G.empty=.ok (.bool true) g':=by
 obtain⟨xs,rfl,qx⟩:=hx;obtain⟨ys,rfl,qy⟩:=hy;obtain⟨h3,h5,e1,-⟩:=Al.1 qx;have Z:xs.length=3:=by rw[e1];rfl
 have hg:=Di.1 qy;have h1:ys.length=4:=by rw[hg];rfl
 clear e1 h3 h5;obtain⟨AA,A⟩:∃AA,AA=vs.map u8v++[u8v s,ew,ow]:=⟨_,rfl⟩;have h7:AA.length=12:=by rw[A];simp[hv]
 have ldA:bB (Tq 12 [AA]) 0 0 true 9 0=.val (.agg (vs.map u8v)):=by
  rw[A]
  match vs,hv with
  |[v0,v1,v2,v3,v4,v5,v6,v7,v8],_=>rfl
 have ldS:bB (Tq 12 [AA]) 0 0 false 1 9=.val (u8v s):=by
  rw[A]
  match vs,hv with
  |[v0,v1,v2,v3,v4,v5,v6,v7,v8],_=>rfl
 rw[<-A];have key:=o9 (C:=C0) (d:=1) (f:=7) («as»:=[.agg xs,.agg AA,lw,.agg ys,vlw]) (g:=G.empty) (K:=λv g'=>v=.bool true) qg (by simp[eU]) ?_
 ·cases hc:(I C0).call 1 7 [.agg xs,.agg AA,lw,.agg ys,vlw] G.empty with
  |fail=>rw[hc]at key;exact key.elim
  |ok v g'=>rw[hc]at key;exact⟨g',by rw[show v=.bool true from key]⟩
 simp only[sz,simprocAttr,eU,mO];obtain⟨g0,hg0⟩:∃g0,g0=((G.empty.new (Tq xs.length [xs])).new (Tq AA.length [AA])).new (Tq ys.length [ys]):=⟨_,rfl⟩;rw[<-hg0];have f0:g0.h.get 0=Tq 3 [xs]:=by rw[hg0,Z];simp[sx,OE]
 have f1:g0.h.get 1=Tq 12 [AA]:=by rw[hg0,h7];simp[sx,OE]
 have f2:g0.h.get 2=Tq 4 [ys]:=by rw[hg0,h1];simp[sx]
 have F:g0.nx=3:=by rw[hg0];simp[sx]
 clear hg0;have ld0:bB (Tq 3 [xs]) 0 0 true 3 0=.val (.agg xs):=by
  match xs,Z with
  |[a,b,c],_=>rfl
 have ld2:bB (Tq 4 [ys]) 0 0 true 4 0=.val (.agg ys):=by
  match ys,h1 with
  |[a,b,c,d],_=>rfl
 simp only[sz,simprocAttr,iX,Fd,f0,ld0];refine bL (Ln (by decide) (wB (P:=NoP) qx _)) ?_;rintro r ⟨n,Q,cn,rfl,N⟩;obtain⟨b,rfl,hN⟩:=jK.1 N;have hm:∀h,Agg n NoP 0 h (.agg [T8 n.grain,b]):=λh=>wB N h;have lN:=(hN.tree (h':=.nil) (Qq 0)).len;have hh:=Q.l;have hr:=Q.nr;have M:∀x∈n.nodes,0<x.card:=λx hx=>by rcases Q.c x hx with h|h<;>omega
 simp only[sz,simprocAttr,f1,ldA,F,show ¬1=3 by omega];refine bL (JM (m:=n) (by decide) hv (wB (P:=NoP) N _) (by omega) M) ?_;rintro z ⟨ev,hd,hz⟩;have hz:SlR NoP 0 .nil ev z:=IT.sl (k:=0) hz .nil;simp only[sz,simprocAttr,f1,ldS,lN,F,show ¬1=3 by omega];refine bL (JV (m:=n.nodes.length) (by decide) (by omega)) ?_;rintro y ⟨vars,p,i,-⟩;have D:vars.length<=8:=by have:(vars.length:Int)<=_:=bH p (by omega);omega
 simp only[sz,simprocAttr,F];refine bL (Mx (n:=n) (e:=ev) (vars:=vars) (by decide) (hm _) (hz.tree (Qq 0)) (i.tree (Qq 0)) (by decide)) λr hr1=>?_;obtain⟨x1,rfl,R⟩:=HA hr1;simp only[sz,simprocAttr,F]
 by_cases c0:S.OO n ev vars=0
 rotate_left
 ·have c7:S.OO n ev vars=7:=by
   have he:S.O2 n ev vars=0:=j7.2 ⟨⟨hr,hd⟩,p⟩;rw[S.OO,Qw he]at c0 ⊢
   split
   ·rfl
   ·rename_i h;rw[Qu h]at c0;exact absurd rfl c0
  simp only[sz,simprocAttr,c7]
 have ly:=i.len;simp only[sz,simprocAttr,c0,ly];obtain⟨G,U⟩:∃G,G=((((g0.new (Tq 2 [[T8 0,.nils]])).put 3 (Tq 2 [[T8 n.grain,b]])).new (Tq 2 [[T8 0,T8 0]])).put 4 (Tq 2 [[T8 (S.Px n ev vars).1,T8 (S.Px n ev vars).2]])):=⟨_,rfl⟩;have g2:G.h.get 2=Tq 4 [ys]:=by rw[U];simp[OE,F,f2]
 have g3:G.h.get 3=Tq 2 [[T8 n.grain,b]]:=by rw[U];simp[OE,F]
 have gn:G.nx=5:=by rw[U];simp[F]
 rw[<-U];clear U;refine N5 (p8:=2) (p11:=3) (B:=5) (n:=n) (vars:=vars) (vl:=vl) (b7:=b) (lw:=lw) (vlw:=vlw) (ew:=z) (vw:=y) (best:=x1) hr hN hvl i p D g3 (by decide) (by omega) (by simp[St,LSd,sx]) (by simp[sx]) (by simp[sx]) ?_;rintro t g' bl u ⟨h6,h2,h4,h8,j,q,o,w,-⟩ hb ha ho n' f';have k2:g'.h.get 2=Tq 4 [ys]:=by rw[f' 2 (by decide),g2]
 have T:g'.h.get 3=Tq 2 [[T8 n.grain,b]]:=by rw[f' 3 (by decide),g3]
 have wd:∀{l:List Int} {v:AV} (h:H),SlR NoP 0 .nil l v->SlR NoP 0 h l v:=λh r=>r.tree (Qq 0);simp only[sz,simprocAttr,il,j,T,o,h2];refine bL (Bj (n:=n) (vars:=vars) (us:=us) (by decide) (hm _) (wd _ i) (hl.tree (Qq 0)) hr p) ?_;rintro rc ⟨L1,⟨-,L1b,L1c⟩,J⟩;simp only[sz,simprocAttr,h8,k2,ld2];refine bL (EK (L:=L1) (by decide) (wB (P:=NoP) qy _) (J.tree (Qq 0)) L1b L1c) ?_;rintro rb ⟨M0,-,Y⟩;simp only[sz,simprocAttr,j,T,o];refine bL (Bj (n:=n) (vars:=vars) (us:=[]) (P2:=NoP) (k2:=0) (by decide) (hm _) (wd _ i) ⟨by simp,rfl⟩ hr p) ?_;rintro rn ⟨L2,⟨L2e,-,-⟩,V⟩;have W:=L2e rfl;subst W;simp only[sz,simprocAttr,Ls J.cell Y.cell V.cell];refine N6 hR (p8:=2) (p11:=3) (B:=5) (n:=n) (e:=ev) (vars:=vars) (bl:=bl) (b7:=b) (lw:=lw) (vlw:=vlw) (best:=x1) hm hz i R J Y V c0 hb ha D ho T (by simp[St,LSd,sx,h6,h2,h4,h8,j,q,o,w]) (by simp[sx]) ?_;rintro t ⟨-,-,-,j,q,o,w,-⟩;simp only[sz,simprocAttr,ig,j,T,q,o];refine bL (Ig (n:=n) (e:=ev) (vars:=vars) (by decide) (hm _) (wd _ hz) (wd _ i) (by decide)) λr hr2=>?_;obtain⟨x2,x3,rfl,hi,hf⟩:=HI hr2;have kr:=λg:Hx.G=>hR (d:=1) (g:=g) (n:=n) (e:=ev) (vars:=vars) (vals:=S.O0 n ev vars) (proof:=S.Py n ev vars) (by decide) (hm g.h) (wd g.h hz) (wd g.h i) (by decide) (wd g.h R) (by decide) (hf.tree (h':=g.h) (Qq 0)) (by decide);rw[EN c0]at kr;simp only[sz,simprocAttr,c0,j,T,q,o,w];refine bL (Bj (n:=n) (vars:=vars) (us:=[]) (P2:=NoP) (k2:=0) (by decide) (hm _) (wd _ i) ⟨by simp,rfl⟩ hr p) ?_;rintro rm ⟨L3,⟨L3e,-,-⟩,h9⟩;have X:=L3e rfl;subst X;have kc:=λg:Hx.G=>hR (d:=1) (g:=g) (n:=n) (e:=ev) (vars:=vars) (vals:=S.O0 n ev vars) (proof:=S.Po (S.cv n vars) vars.length) (by decide) (hm g.h) (wd g.h hz) (wd g.h i) (by decide) (wd g.h R) (by decide) (h9.tree (h':=g.h) (Qq 0)) (by decide);rw[HO c0]at kc;simp only[sz,simprocAttr,kc,kr,j,T,q,o,w]
end
end Hx
section
namespace Hx
open Go Go.Proofs.YteaikmdilmfbeaaGreat
noncomputable section
@[reducible] def iN:XOc:=⟨none⟩
@[reducible] def iR:XOc:=⟨some (vO (@C0 iN) 27)⟩
theorem NY:@C0 iN=Gen.cfg1:=by
 have a:Gen.cfg1.ext 27=none:=by kernel_rfl
 have he:(@C0 iN).ext=Gen.cfg1.ext:=by
  funext k;show ak (Nat.beq k 27) none (Gen.cfg1.ext k)=Gen.cfg1.ext k;rw[aa]
  split
  ·rename_i h;rw[Ro h,a]
  ·rfl
 show ({ Gen.cfg1 with ext:=(@C0 iN).ext }:Cfg)=Gen.cfg1;rw[he]
theorem Nc:CfgOk (@C0 iN):=by rw[NY];exact Gen.cfg1Ok
theorem Nd:CfgOk (@C0 iR):=by have h:@C0 iR=Gen.cfg1.add 27 (vO (@C0 iN) 27):=rfl;rw[h];exact Gen.cfg1Ok.add (ExtOk.cfg (C:=@C0 iN) (C':=Gen.cfg1) rfl rfl (JD Nc))
theorem Ki:@AB iR:=λ{d k1 k2 k3 k4 P1 P2 P3 P4 g n e vars vals proof v w u x z} h1 h2 h3 h4 h5 h6 h7 h8 h9=>by
 have h:@ay (@C0 iR) d 27 [v,w,u,x,z] g=vO (@C0 iN) 27 d [v,w,u,x,z] g:=by kernel_rfl
 rw[h];exact (letI:=iN;HQ h1 h2 h3 h4 h5 h6 h7 h8 h9)
end
end Hx
end
namespace Hx
open Go
noncomputable section
variable {n:Net}{vars e:List Int}
end
end Hx
section
namespace Hx
open Go Go.RowKit Go.ChangeShapes Go.WideShapes
def sZ(P:Program):List Field->Nat->Option Nat
 |[],k=>some k
 |f::fs,k=>if f.offset=k then sZ P fs (k+P.cellsOf f.type) else none
def tp(P:Program):Nat->TypeId->Bool
 |0,_=>false
 | n+1,t=>match P.underlying t with
  |some .bool=>true
  |some (.int _)=>true
  |some (.slice e)=>decide (0<P.cellsOf e)&&tp P n e
  |some (.struct fs)=>(sZ P fs.toList 0 == some (P.cellsOf t))&&fs.toList.all (λf=>tp P n f.type)
  |some (.array m e)=>decide (m*P.cellsOf e=P.cellsOf t)&&tp P n e
  |_=>false
def Sh(P:Program):Nat->TypeId->List AV->Prop
 |0,_,_=>False
 | n+1,t,xs=>match P.underlying t with
  |some .bool=>∃b,xs=[.bool b]
  |some (.int k)=>∃z,xs=[.int k z]/\(Lit.int k z).wf=true
  |some (.slice e)=>xs=[.nils]\/∃rows,xs=[.tsl 0 (P.cellsOf e) rows]/\rows.length<9223372036854775808/\∀row∈rows,Sh P n e row
  |some (.struct fs)=>∃xss,xs=xss.flatten/\All2 (λ(f:Field) ys=>Sh P n f.type ys) fs.toList xss
  |some (.array m e)=>∃xss:List (List AV),xs=xss.flatten/\xss.length=m/\∀ys∈xss,Sh P n e ys
  |_=>False
def BH(P:Program)(w:World)(n:Nat)(t:TypeId)(xs:List AV)(cs:List Value):Prop :=
 RVs0 w xs cs/\(∀y∈xs,y.one=true/\Closed y)/\Sh P n t xs
theorem RVs0.append{w:World}{xs ys:List AV}{cs ds:List Value}(h:RVs0 w xs cs)(h':RVs0 w ys ds):RVs0 w (xs++ys) (cs++ds):=by
 refine⟨by rw[Q3,Q3,h.1,h'.1],λi x v hx hv=>?_⟩;rcases Se i xs.length with hi|hi
 ·rw[QK hi]at hx;rw[QK (by rw[<-h.1];exact hi)]at hv;exact h.2 i x v hx hv
 ·rw[QL hi]at hx;rw[QL (by rw[<-h.1];exact hi),<-h.1]at hv;exact h'.2 _ x v hx hv
theorem Fj(b o n:Nat):(⟨b,o,none⟩:Addr).add n=adr b (o+n):=by
 unfold Addr.add
 split
 ·rename_i h;subst h;rfl
 ·rfl
variable {H:Type}{enc:TypeId×Value->H}{P:Program}{w:World}
theorem zI:∀{fl:List Field} {k K:Nat},sZ P fl k=some K->k<=K
 |[],k,K,h=>by injection h with h;omega
 | f::fl,k,K,h=>by
  unfold sZ at h
  split at h
  ·have:=zI h;omega
  ·cases h
theorem Kb{n:Nat}{cs:List Value}:∀{fl:List Field} {k K:Nat},sZ P fl k=some K ->
  (∀f∈fl,∃xs,BH P w n f.type xs ((cs.drop f.offset).take (P.cellsOf f.type))) ->
  ∃xss,All2 (λ(f:Field) ys=>Sh P n f.type ys) fl xss/\RVs0 w xss.flatten ((cs.drop k).take (K - k))/\∀y∈xss.flatten,y.one=true/\Closed y
 | [],k,K,h,_=>by injection h with h;subst h;exact⟨[],trivial,by rw[Rm,Tm];exact⟨rfl,λi x v hx=>by simp at hx⟩,λy hy=>by simp at hy⟩
 | f::fl,k,K,h,hg=>by
  unfold sZ at h
  split at h
  ·rename_i ho;subst ho;obtain⟨xs,h1,h2,h3⟩:=hg f (by simp);obtain⟨xss,a1,a2,a⟩:=Kb h λf' hf'=>hg f' (by simp[hf']);have b:=zI h;refine⟨xs::xss,⟨h3,a1⟩,?_,λy hy=>?_⟩
   ·have e:(cs.drop f.offset).take (K - f.offset)=(cs.drop f.offset).take (P.cellsOf f.type)++(cs.drop (f.offset+P.cellsOf f.type)).take (K - (f.offset+P.cellsOf f.type)):=by rw[show K - f.offset=P.cellsOf f.type+(K - (f.offset+P.cellsOf f.type)) by omega,List.take_add,RF]
    rw[e,R9];exact h1.append a2
   ·rw[R9,Q7]at hy;rcases hy with hy|hy
    ·exact h2 y hy
    ·exact a y hy
  ·cases h
theorem Fk{n:Nat}{e:TypeId}{cs:List Value}:∀{m k:Nat},
  (∀i,i<m->∃xs,BH P w n e xs ((cs.drop ((k+i)*P.cellsOf e)).take (P.cellsOf e))) ->
  ∃xss:List (List AV),xss.length=m/\(∀ys∈xss,Sh P n e ys)/\RVs0 w xss.flatten ((cs.drop (k*P.cellsOf e)).take (m*P.cellsOf e))/\∀y∈xss.flatten,y.one=true/\Closed y
 |0,k,_=>⟨[],rfl,λy hy=>by simp at hy,by rw[To,Tm];exact⟨rfl,λi x v hx=>by simp at hx⟩,λy hy=>by simp at hy⟩
 | m+1,k,hg=>by
  obtain⟨xs,h1,h2,h3⟩:=hg 0 (by omega);rw[RY]at h1;obtain⟨xss,a0,a1,a2,h⟩:=Fk (m:=m) (k:=k+1) λi hi=>by have:=hg (i+1) (by omega);rwa [show k+(i+1)=k+1+i by omega]at this
  refine⟨xs::xss,by simp[a0],λys hy=>?_,?_,λy hy=>?_⟩
  ·rcases Rh.1 hy with rfl|hy
   ·exact h3
   ·exact a1 ys hy
  ·have e:(cs.drop (k*P.cellsOf e)).take ((m+1)*P.cellsOf e)=(cs.drop (k*P.cellsOf e)).take (P.cellsOf e)++(cs.drop ((k+1)*P.cellsOf e)).take (m*P.cellsOf e):=by rw[show (m+1)*P.cellsOf e=P.cellsOf e+m*P.cellsOf e by rw[QX];omega,List.take_add,RF,QX,RH]
   rw[e,R9];exact h1.append a2
  ·rw[R9,Q7]at hy;rcases hy with hy|hy
   ·exact h2 y hy
   ·exact h y hy
theorem Cy:∀(n:Nat) (t:TypeId),tp P n t=true->∀(fuel:Nat) (cs:List Value) (x:DataW H×List MemPlace),DataW.trod enc P w 0 (λ_=>true) true fuel t cs=some x->∃xs,BH P w n t xs cs:=by
 intro n
 induction n with
 |zero=>intro t h;simp[tp]at h
 | succ n ih =>
  intro t h fuel cs x hx;unfold tp at h
  split at h
  ·rename_i hu;obtain⟨b,rfl,-⟩:=DataW.trod_bool hu hx;refine⟨[.bool b],⟨rfl,λi x v h1 h2=>?_⟩,λy hy=>?_,?_⟩
   ·cases i with
    |zero=>simp at h1 h2;subst h1;subst h2;exact .bool _ _
    |succ i=>simp at h1
   ·simp at hy;subst hy;exact⟨rfl,.bool _⟩
   ·unfold Sh;rw[hu];exact⟨b,rfl⟩
  ·rename_i k hu;obtain⟨z,rfl,-,N⟩:=DataW.trod_int hu hx;refine⟨[.int k z],⟨rfl,λi x v h1 h2=>?_⟩,λy hy=>?_,?_⟩
   ·cases i with
    |zero=>simp at h1 h2;subst h1;subst h2;exact .int _ _ _
    |succ i=>simp at h1
   ·simp at hy;subst hy;exact⟨rfl,.int _ _⟩
   ·unfold Sh;rw[hu];exact⟨z,rfl,N⟩
  ·rename_i e hu;rw[Qt,QM]at h;obtain⟨B,hp⟩:=h;rcases DataW.trod_slice hu hx with⟨rfl,-⟩|⟨a,len,cap,elems,rest,m,-,rfl,-,-,L,U,R,r,-,-⟩
   ·refine⟨[.nils],⟨rfl,λi x v h1 h2=>?_⟩,λy hy=>?_,?_⟩
    ·cases i with
     |zero=>simp at h1 h2;subst h1;subst h2;exact .nils _
     |succ i=>simp at h1
    ·simp at hy;subst hy;exact⟨rfl,.nils⟩
    ·unfold Sh;rw[hu];exact .inl rfl
   ·have each:∀i,i<len->∃xs vs,w.cells? 0 (a.add (i*P.cellsOf e)) (P.cellsOf e)=some vs/\BH P w n e xs vs:=by intro i hi;have:=r i hi;rw[Qr (show i<elems.length by omega),Option.bind_eq_some_iff]at this;obtain⟨vs,h1,h2⟩:=this;obtain⟨xs,hg⟩:=ih e hp _ _ _ h2;exact⟨xs,vs,h1,hg⟩
    let rowf:Nat->List AV:=λi=>if hi:i<len then Classical.choose (each i hi) else []
    let valf:Nat->List Value:=λi=>if hi:i<len then Classical.choose (Classical.choose_spec (each i hi)) else []
    have c:∀i,i<len->w.cells? 0 (a.add (i*P.cellsOf e)) (P.cellsOf e)=some (valf i)/\BH P w n e (rowf i) (valf i):=by intro i hi;have:=Classical.choose_spec (Classical.choose_spec (each i hi));simpa only[rowf,valf,dif_pos hi] using this
    have d:∀(i:Nat) (row:List AV),((List.range len).map rowf)[i]?=some row->i<len/\row=rowf i:=by
     intro i row h1;rw[Qv]at h1;rcases Se i len with hi|hi
     ·rw[SE hi]at h1;injection h1 with h1;exact⟨hi,h1.symm⟩
     ·rw[Ri (by simpa using hi)]at h1;cases h1
    refine⟨[.tsl 0 (P.cellsOf e) ((List.range len).map rowf)],⟨rfl,λi x v h1 h2=>?_⟩,λy hy=>?_,?_⟩
    ·cases i with
     |succ i=>simp at h1
     | zero =>
      simp at h1 h2;subst h1;subst h2;rcases Nat.eq_zero_or_pos len with h0|h0
      ·subst h0;exact .tnil 0 0 _ a cap (Qq _)
      ·obtain⟨b,o,spot⟩:=a;have E:=World.cells?_some (c 0 h0).1;have M:(valf 0)[0]?=some (valf 0)[0]:=Qr (by rw[E.2.1];exact B);have C:=E.2.2 0 B;rw[M]at C;have D:spot=none:=by simpa [Addr.add] using World.cell?_spot C
       subst D;have cellat:∀i j row x,((List.range len).map rowf)[i]?=some row->row[j]?=some x->∃v,(valf i)[j]?=some v/\w.cell? (adr b (o+i*P.cellsOf e+j))=some v/\RV w gm0 av0 0 x v:=by
        intro i j row x hr l;obtain⟨hi,rfl⟩:=d i row hr;obtain⟨O,q2⟩:=c i hi;have V:j<(rowf i).length:=(Qs.1 l).1;have u:j<(valf i).length:=by rw[<-q2.1.1];exact V
        have F:=World.cells?_some O;have p:=F.2.2 j (by rw[<-F.2.1];exact u);rw[Qr u]at p;refine⟨_,Qr u,?_,q2.1.2 j x _ l (Qr u)⟩;rw[Fj,show adr b (o+i*P.cellsOf e)=(⟨b,o+i*P.cellsOf e,none⟩:Addr) from rfl,Fj]at p;exact p
       have hb:b<w.heap.size:=by have:=Et C;simpa [Addr.add] using this
       have G:((List.range len).map rowf).length=len:=by simp
       have key:=RV.tsl (w:=w) (γ:=gm0) (A:=av0) 0 0 (P.cellsOf e) ((List.range len).map rowf) b o cap (λi j=>(valf i)[j]?.getD undef) (Qq _) (by rw[G];exact L) hb (N8 b) (λh=>h)
        (λi row hr=>by
         obtain⟨hi,rfl⟩:=d i row hr;obtain⟨O,q2⟩:=c i hi;rw[q2.1.1,(World.cells?_some O).2.1])
        (λi j row x hr l=>by
         obtain⟨hi,rfl⟩:=d i row hr;exact ((c i hi).2.2.1 x (Qx l)).1)
        (λi j row x hr l=>by
         obtain⟨v,Q,S,T⟩:=cellat i j row x hr l;rw[S,Q];rfl)
        (λi j row x hr l=>by
         obtain⟨v,Q,S,T⟩:=cellat i j row x hr l;rw[Q];exact T)
        (λrow hr x hx=>by
         obtain⟨i,hi⟩:=QN hr;obtain⟨s,rfl⟩:=d i row hi;exact ((c i s).2.2.1 x hx).2)
       rw[G]at key;exact key
    ·simp only[RR]at hy;subst hy;refine⟨rfl,.tsl _ _ _ λrow hr x hx=>?_⟩;obtain⟨i,hi⟩:=QN hr;obtain⟨s,rfl⟩:=d i row hi;exact ((c i s).2.2.1 x hx).2
    ·unfold Sh;rw[hu];refine .inr ⟨_,rfl,?_,λrow hr=>?_⟩
     ·rw[QA,List.length_range];have:maxLen<9223372036854775808:=by decide
      omega
     ·obtain⟨i,hi⟩:=QN hr;obtain⟨s,rfl⟩:=d i row hi;exact (c i s).2.2.2
  ·rename_i fs hu;rw[Qt]at h;obtain⟨hc,hp⟩:=h;have hc:sZ P fs.toList 0=some (P.cellsOf t):=eq_of_beq hc;obtain⟨ys,m,-,-,hl,I,r⟩:=DataW.trod_struct hu hx;obtain⟨xss,a1,a2,J⟩:=Kb (w:=w) (n:=n) (cs:=cs) hc λf hf=>by
    obtain⟨i,hi,e⟩:=RP.1 hf;have K:fs[i]?=some f:=by rw[<-S5,Qr hi,e]
    have:=r i f K;rw[Qr (show i<ys.length by rw[I];simpa using hi)]at this;exact ih f.type (QB.1 hp f hf) _ _ _ this
   rw[Sa,R6,<-hl,QV]at a2;refine⟨xss.flatten,a2,J,?_⟩;unfold Sh;rw[hu];exact⟨xss,rfl,a1⟩
  ·rename_i m e hu;rw[Qt,QM]at h;obtain⟨hc,hp⟩:=h;obtain⟨ys,q,-,-,hl,I,r⟩:=DataW.trod_array hu hx;obtain⟨xss,a0,a1,a2,J⟩:=Fk (w:=w) (n:=n) (e:=e) (cs:=cs) (m:=m) (k:=0) λi hi=>by have:=r i hi;rw[Qr (show i<ys.length by omega)]at this;rw[Rn];exact ih e hp _ _ _ this
   rw[To,Sa,hc,<-hl,QV]at a2;refine⟨xss.flatten,a2,J,?_⟩;unfold Sh;rw[hu];exact⟨xss,rfl,a0,a1⟩
  ·cases h
theorem Kv{n:Nat}{t:TypeId}{xs:List AV}(hu:P.underlying t=some (.int .i64))(h:Sh P n t xs):∃x:Int,Rp.rp NoP 0 .nil x xs:=by
 cases n with
 |zero=>exact h.elim
 | succ n =>
  unfold Sh at h;rw[hu]at h;obtain⟨z,rfl,-⟩:=h;exact⟨z,aG.2 rfl⟩
theorem ji{n:Nat}{t:TypeId}{xs:List AV}(hu:P.underlying t=some (.int .u8))(h:Sh P n t xs):∃x:UInt8,Rp.rp NoP 0 .nil x xs:=by
 cases n with
 |zero=>exact h.elim
 | succ n =>
  unfold Sh at h;rw[hu]at h;obtain⟨z,rfl,hw⟩:=h;simp only[Lit.wf,IntKind.min,IntKind.max,IntKind.signed,IntKind.bits,Qt]at hw;refine⟨UInt8.ofNat z.toNat,di.2 ?_⟩;have h1:0<=z:=by simpa using hw.1
  have h2:z<=255:=by simpa using hw.2
  have h3:(UInt8.ofNat z.toNat).toNat=z.toNat:=UInt8.toNat_ofNat_of_lt' (by show z.toNat<256;omega);rw[h3,Int.toNat_of_nonneg h1]
theorem um{α:Type} [Rp α]{n:Nat}{t e:TypeId}{xs:List AV}(hu:P.underlying t=some (.slice e))(hsz:P.cellsOf e=Rp.sz α)(hel:∀ys,Sh P n e ys->∃y:α,Rp.rp NoP 0 .nil y ys)(h:Sh P (n+1) t xs) :
  ∃l:List α,Rp.rp NoP 0 .nil l xs:=by
 unfold Sh at h;rw[hu]at h;rcases h with rfl|⟨rows,rfl,hl,hr⟩
 ·exact⟨[],.nils,rfl,by simp,rfl⟩
 ·have:∀rows:List (List AV),(∀row∈rows,Sh P n e row)->∃l:List α,All2 (Rp.rp NoP 0 .nil) l rows:=by
   intro rows
   induction rows with
   |nil=>intro _;exact⟨[],trivial⟩
   | cons r rows ih =>
    intro h;obtain⟨y,k⟩:=hel r (h r (by simp));obtain⟨l,hl⟩:=ih λrow hrow=>h row (by simp[hrow]);exact⟨y::l,k,hl⟩
  obtain⟨l,ha⟩:=this rows hr;exact⟨l,_,rfl,by rw[ha.len];exact hl,Qq _,.inl hsz,ha⟩
theorem Ku{n m:Nat}{t e:TypeId}{xs:List AV}(hu:P.underlying t=some (.array m e))(h:Sh P (n+1) t xs):∃xss:List (List AV),xs=xss.flatten/\xss.length=m/\∀ys∈xss,Sh P n e ys:=by unfold Sh at h;rw[hu]at h;exact h
theorem oR{n:Nat}{t:TypeId}{fs:Array Field}{xs:List AV}(hu:P.underlying t=some (.struct fs))(h:Sh P (n+1) t xs):∃xss,xs=xss.flatten/\All2 (λ(f:Field) ys=>Sh P n f.type ys) fs.toList xss:=by unfold Sh at h;rw[hu]at h;exact h
end Hx
end
namespace Hx
open Go
noncomputable section
variable {n:Net}{vars e:List Int}
end
end Hx
