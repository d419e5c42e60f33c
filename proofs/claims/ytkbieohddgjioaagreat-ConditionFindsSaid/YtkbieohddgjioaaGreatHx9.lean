/- A part of the proof: what the functions of the chapter compute. -/
import Derived.Test.YtkbieohddgjioaaGreatHx8
set_option linter.all false
set_option maxRecDepth 20000
set_option maxHeartbeats 8000000
namespace Hx
open Go
noncomputable section
variable {n:Net}{g g0:G}{i d pq v a pm j m s pv c B6 B S0 ab:Nat}{w e:List Int}{l:List Sp}{t:T}{Q:QT}{st:MSt}{lv b xv:AV}{size gr:Int}{k:Key}{K:AV->G->Prop}{D:ADf->Prop}{x:Sp}{V:List Nat}{rd:Option Nat}{L:Mem}
theorem Be(hr:NR n)(s:Nat):CsOk (S.T0 n (S.Tz n s)):=by
 refine⟨λc hc=>?_,?_⟩
 ·obtain⟨v,k,rfl⟩:=Wk.1 hc;have h:=(lF.1 k).1;rw[Vt (by rw[aH];exact h),VB];exact hr.cs _ (Wy _)
 ·have:=Ew s n.nodes.length;have:=hr.l2;simp[S.T0,NV];omega
theorem RK{yi b1 b2:Nat}{cv':AV}(hr:NR n)(hN:SlR NoP 0 .nil n.nodes b)(hs:s<2 ^ n.nodes.length)(hbn:b1<g0.nx/\b2<g0.nx/\pv<g0.nx)(hw1:∀v∈S.Tz n s,w[v]?=some (-1))
  (J:Nat->G->Prop) (hJH:∀j g,J j g->AsH n size b lv (.hsl pv 0 0 n.nodes.length none) cv' xv pq pm b1 b2 s g) (hne:b1≠pv/\b2≠pv/\pq≠pv/\pq<g0.nx)
  (hJ:∀j g g',g.nx<=g'.nx->(∀i,i<g0.nx->i≠pv->g'.h.get i=g.h.get i)->(∀i∈g'.lg,i∈g.lg\/i=pv\/g0.nx<=i)->J j g->J j g')
  (step:∀(j:Nat) (g:G) (K':AV->G->Prop) (D:ADf->Prop),j<S.TS n (S.Tz n s)->J j g->Vs n pv (S.TE n w (S.Tz n s) j) g->g0.nx<=g.nx ->
   (∀g',J (j+1) g'->Vs n pv (S.TE n w (S.Tz n s) j) g'->g.nx<=g'.nx->(∀i,g0.nx<=i->i<g.nx->g'.h.get i=g.h.get i)->K' (.bool true) g')->(cL (I C0) d yi [ZJ (j:Int)] g).sat K' g D)
  (h0:J 0 g0) (hV:Vs n pv w g0) (fin:∀g',J (S.TS n (S.Tz n s)) g'->Vs n pv w g'->g0.nx<=g'.nx->K (.tup []) g') :
  wp C0 d none aR.code (fnQ C0 d aR.res K) (cD 0 [.yld yi,ZK b1,ZK b2] .nil) [] g0:=by
 have h6:=hr.l2;obtain⟨p,q,C⟩:=hbn;obtain⟨ne1,ne2,ne3,A⟩:=hne;have nl:=λg:G=>hN.len g;have r:=Be hr s;obtain⟨W1,W2,W3⟩:=r.nc;have x:∀v∈S.Tz n s,v<n.nodes.length:=λv hv=>(lF.1 hv).1;have y:(S.Tz n s).length<=8:=by have:=Ew s n.nodes.length;rw[NV];omega
 have Q:∀g:G,Ah (.yld yi) g=.upd (ZK g.nx) (g.new (Y6 1 [[.yld yi]])):=λg=>rfl;obtain⟨Qf,o⟩:∃Qf,Qf=fnQ C0 d aR.res K:=⟨_,rfl⟩;rw[<-o];simp only[sz,simprocAttr,aR,Q];simp only[eg];refine aL (P:=λt' df g'=>df=[]/\g'.h.get g0.nx=Y6 1 [[.yld yi]]/\g'.h.get (g0.nx+1)=Y6 1 [[.nils]]/\g0.nx+2<=g'.nx/\Fx (λ_=>False) g0 g'/\St t' (LAs b1 b2 g0.nx)/\tat t' 5=.nils) ?_ ?_
 ·simp only[sz,simprocAttr];refine⟨by simp[TA],by simp,(Fx.new _ _ _).trans (Fx.new _ _ _),by simp[St,LAs,sx]⟩
 rintro t df g1 ⟨rfl,kB,kB1,n1,F1,⟨h1,h2,f,h4,-⟩,h5⟩;have A1:=hJH 0 g0 h0;obtain⟨ab1,ab2,c,aq⟩:=A1;refine bB (P:=λt g=>λg'=>g=[]/\∃nv cv,St t (LAs b1 b2 g0.nx)/\tat t 5=cv/\g'.h.get g0.nx=Y6 1 [[.yld yi]]/\g'.h.get (g0.nx+1)=Y6 1 [[nv]]/\Own g' (g0.nx+2) nv 1 ((S.Tz n s).map cn)/\Own g' (g0.nx+2) cv 1 ((S.T0 n (S.Tz n s)).map ci)/\g0.nx+2<=g'.nx/\Fx (λ_=>False) g0 g') ?_ ?_
 ·have e1:g1.h.get b1=Y6 1 [[ZK pq]]:=by rw[F1.fr b1 p id,ab1]
  have e2:g1.h.get pq=srO n.grain size c b lv (.hsl pv 0 0 n.nodes.length none) cv' xv pm:=by rw[F1.fr pq A id,aq]
  simp only[sz,simprocAttr,h1,e1,e2,srO,aI,nl];refine RH (b1:=b1) (b2:=b2) (yi:=yi) (g0:=g0) (s:=s) hr hN hs ab2 q kB kB1 n1 F1 (by simp[St,LAs,sx,h1,h2,f,h4]) (by simp[sx,h5]) (by simp[sx]) (by simp[sx]) (by simp[sx]) λt g nv cv hL h5 k0 k1 oN oC z hF=>?_;simp only[sz,simprocAttr];exact⟨nv,cv,hL,h5,k0,k1,oN,oC,z,hF⟩
 clear h1 h2 f h4 h5 kB kB1 n1 F1 g1;rintro t df g1 ⟨rfl,nv,cv,⟨h1,h2,f,h4,-⟩,h5,kB,kB1,oN,oC,n1,F1⟩;obtain⟨cc1,cc2⟩:=oC.cell;simp only[dR];simp only[sz,simprocAttr,h5];refine Ms cc1 cc2 ?_;simp only[sz,simprocAttr];obtain⟨g2,k⟩:∃g2,g2=g1.new (Y6 1 [[cv]]):=⟨_,rfl⟩;rw[<-k];have n2:g2.nx=g1.nx+1:=by rw[k];simp
 have kx:g2.h.get g1.nx=Y6 1 [[cv]]:=by rw[k];simp[TA]
 have f2:∀i,i<g1.nx->g2.h.get i=g1.h.get i:=λi hi=>by rw[k];simp[TA,show ¬i=g1.nx by omega]
 have F2:Fx (λ_=>False) g0 g2:=by rw[k];exact F1.trans (Fx.new _ _ _)
 clear k;have kB2:g2.h.get g0.nx=Y6 1 [[.yld yi]]:=by rw[f2 _ (by omega),kB]
 have kB12:g2.h.get (g0.nx+1)=Y6 1 [[nv]]:=by rw[f2 _ (by omega),kB1]
 have oN2:Own g2 (g0.nx+2) nv 1 ((S.Tz n s).map cn):=oN.fr (by omega) λi hi=>f2 i (oN.lt hi).2;have oC2:Own g2 (g0.nx+2) cv 1 ((S.T0 n (S.Tz n s)).map ci):=oC.fr (by omega) λi hi=>f2 i (oC.lt hi).2;have nlN:∀g:G,dH .slice nv g=.val (ZJ ((S.Tz n s).length:Int)):=λg=>by have:=oN2.sat_len g;rwa [VF]at this
 have J2:J 0 g2:=hJ 0 g0 g2 F2.nx (λi hi _=>F2.fr i hi id) (λi hi=>(F2.lg i hi).imp id λh=>h.elim False.elim .inr) h0;have V2:Vs n pv w g2:=hV.fr (F2.fr pv C id);refine Lt (bx:=g1.nx) (w:=cv) (cs:=S.T0 n (S.Tz n s)) r (by simp[sx]) (by decide) (by decide)
  (λj g=>J j g/\(∃w',Vs n pv w' g/\Pk (S.Tz n s) w' w)/\(∀i,g0.nx<=i->i<g2.nx->g.h.get i=g2.h.get i)/\g2.nx<=g.nx) (λ_=>False) ?_ ?_ (λ_ _ _ h=>h) ⟨J2,⟨w,V2,rfl,λ_ _=>rfl⟩,λ_ _ _=>rfl,Vu _⟩ ?_ ?_ (λ_ h=>h.elim)
 ·rintro j g ⟨-,-,hf,z⟩;have oC3:=oC2.fr z λi hi=>hf i (by have:=(oC2.lt hi).1;omega) (oC2.lt hi).2;exact⟨by rw[hf _ (by omega) (by omega),kx],oC3.rows,λg'=>by have:=oC3.sat_len g';rwa [VF]at this⟩
 ·rintro j g3 W ⟨F,z,-⟩ ⟨a1,⟨w',a2,m⟩,a4,H⟩;exact⟨hJ j g3 W z (λi hi _=>F.1 i (by omega)) (λi hi=>(F.2 i hi).imp id λh=>.inr (by omega)) a1,⟨w',a2.fr (F.1 pv (by omega)),m⟩,λi h1 h2=>by rw[F.1 i h2,a4 i h1 h2],by omega⟩
 ·rintro j u g3 Z ⟨a1,⟨w',a2,m⟩,a4,H⟩ T hu;simp only[sz,simprocAttr,dM];refine⟨Fr.refl _,λg5 n5 f5 u5=>?_⟩;have J5:J j g5:=hJ j g3 g5 (by omega) (λi hi _=>u5.1 i (by omega)) (λi hi=>(u5.2 i hi).imp id λh=>.inr (by omega)) a1;have V5:Vs n pv w' g5:=a2.fr (u5.1 pv (by omega));have a:∀i,g0.nx<=i->i<g2.nx->g5.h.get i=g2.h.get i:=λi h1 h2=>by rw[u5.1 i h2,a4 i h1 h2]
  have kB5:g5.h.get g0.nx=Y6 1 [[.yld yi]]:=by rw[a _ (by omega) (by omega),kB2]
  have kB15:g5.h.get (g0.nx+1)=Y6 1 [[nv]]:=by rw[a _ (by omega) (by omega),kB12]
  have oN5:=oN2.fr (g':=g5) (by omega) λi hi=>a i (by have:=(oN2.lt hi).1;omega) (oN2.lt hi).2;have U:SlR (λi=>g2.nx+2<=i/\i<g3.nx) 0 g5.h (S.TK (S.T0 n (S.Tz n s)) (j:Int)) u:=hu.far8 λi hi=>f5 i (by omega);have E:(S.TK (S.T0 n (S.Tz n s)) (j:Int)).length=(S.Tz n s).length:=by rw[rM];simp[S.T0]
  simp only[sz,simprocAttr,dN,h4,kB15,nlN];refine RI (b1:=b1) (b2:=b2) (B:=g0.nx) (j:=j) (pq:=pq) (pv:=pv) (pm:=pm) (s:=s) (size:=size) (w:=w') (b:=b) (lv:=lv) (cv:=cv') (xv:=xv) (l:=S.Tz n s) (xs:=S.TK (S.T0 n (S.Tz n s)) (j:Int)) (u:=u) (nv:=nv) x y E ?_ V5 (by omega) (by simp[St,LB3,sx,h1,f]) (by simp[sx]) (by simp[sx]) ?_
  ·intro g hg;have Y:=hJH j g5 J5;obtain⟨c1,L,M,N⟩:=Y;refine⟨⟨by rw[hg _ ne1,c1],by rw[hg _ ne2,L],M,by rw[hg _ ne3,N]⟩,?_,?_⟩
   ·exact (oN5.fr (g':=⟨g.h,g5.nx,[]⟩) (Vu _) λi hi=>hg i (by have:=(oN5.lt hi).1;omega)).rows
   ·exact (U.far8 λi hi=>hg i (by omega)).ints
  rintro V O ⟨h1,f,h8,h9,X,-⟩ V6 F6 e;rw[G0 E m]at V6;have F6n:=F6.nx;simp only[sz,simprocAttr,dP,f,e _ (show g0.nx≠pv by omega),kB5,h8];show (cL (I C0) d yi [ZJ (j:Int)] _).sat _ _ _;refine step j _ _ _ Z (hJ j g5 O F6.nx (λi _ hi=>e i hi) (λi hi=>(F6.lg i hi).imp id λh=>h.imp id λh=>by omega) J5) V6 (by omega) λg8 J8 V8 n8 f8=>?_;simp only[sz,simprocAttr];refine⟨by omega,λi h1 h2=>by rw[f8 i (by omega) (by omega),e i (by omega)],.inl ⟨rfl,J8,⟨_,V8,LY⟩,λi h1 h2=>by rw[f8 i h1 (by omega),e i (by omega),a i h1 h2],by omega⟩⟩
 ·rintro g3 ⟨a1,⟨w',a2,m⟩,a4,H⟩ T R;have kB3:g3.h.get (g0.nx+1)=Y6 1 [[nv]]:=by rw[a4 _ (by omega) (by omega),kB12]
  have oN3:=oN2.fr (g':=g3) H λi hi=>a4 i (by have:=(oN2.lt hi).1;omega) (oN2.lt hi).2;simp only[sz,simprocAttr,dQ,h4,kB3,nlN];refine RJ (b1:=b1) (b2:=b2) (pq:=pq) (pv:=pv) (pm:=pm) (s:=s) (size:=size) (w:=w') (b:=b) (lv:=lv) (cv:=cv') (xv:=xv) (l:=S.Tz n s) (nv:=nv) x y ?_ a2 (by omega) (by simp[sx,h1]) (by simp[sx]) (by simp[sx]) (by simp[sx]) ?_
  ·intro g hg;obtain⟨c1,L,M,N⟩:=hJH _ g3 a1;refine⟨⟨by rw[hg _ ne1,c1],by rw[hg _ ne2,L],M,by rw[hg _ ne3,N]⟩,?_⟩;exact (oN3.fr (g':=⟨g.h,g3.nx,[]⟩) (Vu _) λi hi=>hg i (by have:=(oN3.lt hi).1;omega)).rows
  rintro V O V6 F6 e;rw[I_ m,Fu hw1]at V6;have F6n:=F6.nx;simp only[sz,simprocAttr];rw[o];show DU C0 d [] V [.mark g2.nx] O K;refine pG (by rw[e _ (by omega),R]) ?_;exact fin _ (hJ _ g3 _ (by simpa using F6n) (λi hi hp=>by rw[G.put_h,af _ _ _ (by omega),e i hp]) (λi hi=>by
   simp at hi;rcases hi with rfl|hi
   ·exact .inr (.inr (by omega))
   ·exact (F6.lg i hi).imp id λh=>h.imp id λh=>by omega) a1) (V6.fr (by rw[G.put_h,af _ _ _ (by omega)])) (by simp;omega)
theorem CD
  (kk:K (.clo 85 [] [ZK g.nx,ZK (g.nx+1)]) ((g.new (Y6 1 [[ZK pq]])).new (Y6 1 [[ZL (s:Int)]]))) :
  (am C0 d 59 [ZK pq,ZL (s:Int)] g).sat K g D:=by
 rw[kX];refine fX mz (by simp[c_]) ?_;have h:∀g:G,Ah (ZK pq) g=.upd (ZK g.nx) (g.new (Y6 1 [[ZK pq]])):=λg=>rfl;simp only[sz,simprocAttr,c_,e_,h];exact kk
theorem PK:C0.ext 85=none:=by kernel_rfl
theorem J6{nt p r b1 b2:Nat}{cv:AV}{cb:SC}{df:List ADf}(hr:NR n)(hN:SlR NoP 0 .nil n.nodes b)(hs:s<2 ^ n.nodes.length)
  (hv:tat t r=.clo 85 [] [ZK b1,ZK b2]) (hp:p<nt) (hbn:b1<g.nx/\b2<g.nx/\pv<g.nx) (hw1:∀v∈S.Tz n s,w[v]?=some (-1))
  (J:Nat->G->Prop) (hJH:∀j g,J j g->AsH n size b lv (.hsl pv 0 0 n.nodes.length none) cv xv pq pm b1 b2 s g) (hne:b1≠pv/\b2≠pv/\pq≠pv/\pq<g.nx)
  (hJ:∀j g1 g2,g1.nx<=g2.nx->(∀i,i<g.nx->i≠pv->g2.h.get i=g1.h.get i)->(∀i∈g2.lg,i∈g1.lg\/i=pv\/g.nx<=i)->J j g1->J j g2)
  (h0:J 0 g) (hV:Vs n pv w g)
  (step:∀(j:Nat) (g2:G),j<S.TS n (S.Tz n s)->J j g2->Vs n pv (S.TE n w (S.Tz n s) j) g2->g.nx+2<=g2.nx ->
   wp C0 d (some (g.nx+1)) cb (λe _ df g3=>df=[]/\e=.norm/\g2.nx<=g3.nx/\(∀i,g.nx<=i->i<g2.nx->g3.h.get i=g2.h.get i)/\J (j+1) g3/\Vs n pv (S.TE n w (S.Tz n s) j) g3) (eQ t p (ZJ (j:Int))) [] g2)
  (fin:∀g',J (S.TS n (S.Tz n s)) g'->Vs n pv w g'->g.nx+2<=g'.nx->g'.h.get g.nx=.dfr true->Q .norm t (.mark g.nx::df) g') :
  wp C0 d none (.rng nt (.t r) [p] .skip cb) Q t df g:=by
 obtain⟨z,A,c⟩:=hbn;obtain⟨ne1,ne2,ne3,B⟩:=hne;refine vR (fn:=85) (first:=[]) (cap:=[ZK b1,ZK b2]) (s:=aR) hv PK li (by simp[aR]) ?_;intro assign body ha x;obtain⟨ga,k⟩:∃ga,ga=(g.new (.dfr true)).new (.loop nt t [p] assign body g.nx .ready none):=⟨_,rfl⟩;rw[<-k];have na:ga.nx=g.nx+2:=by rw[k];simp
 have fa:∀i,i<g.nx->ga.h.get i=g.h.get i:=λi hi=>by rw[k];simp[TA,show ¬i=g.nx by omega,show ¬i=g.nx+1 by omega]
 have ga1:ga.h.get g.nx=.dfr true:=by rw[k];simp[TA]
 have ga2:ga.h.get (g.nx+1)=.loop nt t [p] assign body g.nx .ready none:=by rw[k];simp[TA]
 have la:∀i∈ga.lg,i∈g.lg\/g.nx<=i:=λi hi=>by
  rw[k]at hi;simp at hi;rcases hi with rfl|rfl|hi
  ·exact .inr (by omega)
  ·exact .inr (Vu _)
  ·exact .inl hi
 clear k;refine RK (g0:=ga) (yi:=g.nx+1) (pq:=pq) (pv:=pv) (pm:=pm) (s:=s) (size:=size) (w:=w) (b:=b) (lv:=lv) (cv':=cv) (xv:=xv) hr hN hs ⟨by omega,by omega,by omega⟩ hw1
  (λj g'=>J j g'/\g'.h.get g.nx=.dfr true/\g'.h.get (g.nx+1)=.loop nt t [p] assign body g.nx .ready none) (λj g' h=>hJH j g' h.1) ⟨ne1,ne2,ne3,by omega⟩ ?_ ?_ ⟨hJ 0 g ga (by omega) (λi hi _=>fa i hi) (λi hi=>(la i hi).imp id .inr) h0,ga1,ga2⟩ (hV.fr (fa pv c)) ?_
 ·rintro j g1 g2 y hf hl ⟨a1,a2,a⟩;exact⟨hJ j g1 g2 y (λi hi hp=>hf i (by omega) hp) (λi hi=>(hl i hi).imp id λh=>h.imp id λh=>by omega) a1,by rw[hf _ (by omega) (by omega),a2],by rw[hf _ (by omega) (by omega),a]⟩
 ·rintro j g1 K' D E ⟨a1,a2,a⟩ u y kk;refine Di a ha x (t':=eQ t p (ZJ (j:Int))) ?_ ?_
  ·simp only[dm,aa,WN,VC hp];rfl
  ·rw[z0];refine⟨rfl,rfl,a,?_⟩;have o:=hJ j g1 (g1.put (g.nx+1) (.loop nt t [p] assign body g.nx .busy none)) (by simp) (λi hi _=>by rw[G.put_h,af _ _ _ (by omega)]) (λi hi=>by simp at hi;rcases hi with rfl|hi;exact .inr (.inr (by omega));exact .inl hi) a1;refine bX _ (step j _ E o (u.fr (by rw[G.put_h,af _ _ _ (by omega)])) (by simp;omega)) ?_;rintro e H df2 g3 ⟨rfl,rfl,n3,m,f,l⟩;have F:g1.nx<=g3.nx:=by simpa using n3
   have C:g3.h.get (g.nx+1)=.loop nt t [p] assign body g.nx .busy none:=by rw[m _ (by omega) (by simp;omega)];simp[TA]
   have b5:g3.h.get g.nx=.dfr true:=by rw[m _ (by omega) (by simp;omega)];simp[TA,a2]
   refine⟨rfl,C,.inl ⟨rfl,kk _ ⟨hJ _ g3 _ (by simp) (λi hi _=>by rw[G.put_h,af _ _ _ (by omega)]) (λi hi=>by simp at hi;rcases hi with rfl|hi;exact .inr (.inr (by omega));exact .inl hi) f,?_,?_⟩ (l.fr (by rw[G.put_h,af _ _ _ (by omega)])) (by simp;omega) λi h1 h2=>?_⟩⟩
   ·simp[TA,b5]
   ·simp[TA]
   ·have hne:¬i=g.nx+1:=by omega
    have:=m i (by omega) (by simp;omega);simp[TA,hne]at this ⊢;rw[this]
 ·rintro g' ⟨a1,a2,a⟩ q y;refine⟨_,_,_,_,_,_,.inl ⟨a,fin _ (hJ _ g' _ (by simp) (λi hi _=>by rw[G.put_h,af _ _ _ (by omega)]) (λi hi=>by simp at hi;rcases hi with rfl|hi;exact .inr (.inr (by omega));exact .inl hi) a1) (q.fr (by rw[G.put_h,af _ _ _ (by omega)])) (by simp;omega) ?_⟩⟩;simp[TA,a2]
theorem CW(e l:List Int)(p:Int):S.T8 e (l++[p])=if e[p.toNat]?.getD 0 = -1 then S.T8 e l ||| S.TT p.toNat else S.T8 e l:=by simp[S.T8]
theorem zI:∀{l:List Int},(∀p∈l,p.toNat<64)->∀v,(S.T8 e l).testBit v=true↔∃p∈l,p.toNat=v/\e[v]?.getD 0 = -1:=by
 have key:∀(l:List Int) (s:Nat),(∀p∈l,p.toNat<64)->∀v,(l.foldl (λs p=>if e[p.toNat]?.getD 0 = -1 then s ||| S.TT p.toNat else s) s).testBit v=true↔s.testBit v=true\/∃p∈l,p.toNat=v/\e[v]?.getD 0 = -1:=by
  intro l
  induction l with
  |nil=>intro s _ v;simp
  | cons p l ih =>
   intro s h v;rw[XY,ih _ (λq hq=>h q (by simp[hq])) v];have hp:=h p (by simp)
   by_cases c:e[p.toNat]?.getD 0 = -1
   ·rw[VC c,dJ,sO hp,Wh,VK];constructor
    ·rintro ((h1|h1)|⟨q,h1,h2⟩)
     ·exact .inl h1
     ·exact .inr ⟨p,by simp,h1,by rw[<-h1];exact c⟩
     ·exact .inr ⟨q,by simp[h1],h2⟩
    ·rintro (h1|⟨q,h1,h2,k⟩)
     ·exact .inl (.inl h1)
     ·rcases VP.1 h1 with rfl|h1
      ·exact .inl (.inr h2)
      ·exact .inr ⟨q,h1,h2,k⟩
   ·rw[Vz c];constructor
    ·rintro (h1|⟨q,h1,h2⟩)
     ·exact .inl h1
     ·exact .inr ⟨q,by simp[h1],h2⟩
    ·rintro (h1|⟨q,h1,h2,k⟩)
     ·exact .inl h1
     ·rcases VP.1 h1 with rfl|h1
      ·exact absurd (by rw[h2];exact k) c
      ·exact .inr ⟨q,h1,h2,k⟩
 intro l hl v;have:=key l 0 hl v;simpa [S.T8] using this
theorem jX(hr:NR n)(hv:v<n.nodes.length):∀p∈S.TV n v,0<=p/\p<(n.nodes.length:Int):=λp hp=>by
 rw[S.TV,Vt hv]at hp;simp only[WM,VB,V7,VY]at hp;rcases hp with hp|rfl
 ·have:=hr.pin (Wy hv) p hp;rwa [aH]at this
 ·omega
theorem FP(hr:NR n)(hv:v<n.nodes.length):(S.TV n v).length<=9:=by rw[S.TV,Vt hv];have:=fS (hr.places _ (Wy hv)) (by omega);have:=hr.l2;simp;omega
theorem ym{n:Nat}(h:∀v,s.testBit v=true->v<n):s<2 ^ n:=Nat.lt_pow_two_of_testBit s λi hi=>by
 cases hb:s.testBit i with
 |false=>rfl
 |true=>have:=h i hb;omega
theorem Jn(hr:NR n)(hv:v<n.nodes.length)(e:List Int):S.TG n e v<2 ^ n.nodes.length:=by have hl:=hr.l2;refine ym λu hu=>?_;obtain⟨p,h1,h2,-⟩:=(zI (λp hp=>by have:=jX hr hv p hp;omega) u).1 hu;have:=jX hr hv p h1;omega
theorem jY(hr:NR n)(hv:v<n.nodes.length)(e:List Int)(u:Nat):(S.TG n e v).testBit u=true↔(u:Int)∈S.TV n v/\e[u]?.getD 0 = -1:=by
 have hl:=hr.l2;rw[S.TG,zI (λp hp=>by have:=jX hr hv p hp;omega)];constructor
 ·rintro⟨p,h1,h2,h⟩;have:=jX hr hv p h1;exact⟨by rw[show (u:Int)=p by omega];exact h1,h⟩
 ·rintro⟨h1,h2⟩;exact⟨_,h1,by omega,h2⟩
theorem Kg{cs:List Int}{m:Nat}:∀{l:List Nat} {w xs:List Int},l.Nodup->(∀v∈l,v<w.length)->InC (l.map λv=>cs[v]?.getD 0) xs->∀v∈l,∃x,(S.TM w l xs)[v]?=some x/\0<=x/\x<cs[v]?.getD 0
 |[],_,_,_,_,_,v,hv=>by simp at hv
 |u::r,w,[],_,_,h,_,_=>h.elim
 | u::r,w,x::xs,hn,hl,h,v,hv=>by
  rw[Yx]at hn;rw[S.TM]
  by_cases e:v∈r
  ·exact Kg (m:=m) hn.2 (λy hy=>by rw[XH];exact hl y (by simp[hy])) h.2 v e
  ·rcases VP.1 hv with rfl|hv
   ·refine⟨x,?_,h.1⟩;rw[qy e,WH (hl v (by simp))]
   ·exact absurd hv e
theorem Lh(n:Net)(s:Nat):(S.Tz n s).Nodup:=List.Pairwise.filter _ YJ
def Wv(n:Net)(w:List Int):Prop:=w.length=n.nodes.length/\∀v,v<n.nodes.length->w[v]?.getD 0 = -1\/0<=w[v]?.getD 0/\w[v]?.getD 0<(S.Tx n)[v]?.getD 0
theorem Qd(hr:NR n)(s:Nat)(j:Int):InC (S.T0 n (S.Tz n s)) (S.TK (S.T0 n (S.Tz n s)) j):=vQ (λc hc=>((Be hr s).b c hc).1) j
theorem Ic(hr:NR n)(hw:w.length=n.nodes.length)(hv:v∈S.Tz n s):∃x,(S.TE n w (S.Tz n s) j)[v]?=some x/\0<=x/\x<(S.Tx n)[v]?.getD 0 :=
 Kg (m:=0) (Lh n s) (λu hu=>by rw[hw];exact (lF.1 hu).1) (Qd hr s j) v hv
theorem xg(hv:v ∉ S.Tz n s):(S.TE n w (S.Tz n s) j)[v]?=w[v]?:=qy hv
theorem EL(hr:NR n)(hw:Wv n w)(s j:Nat):Wv n (S.TE n w (S.Tz n s) j):=by
 refine⟨by rw[S.TE,tP];exact hw.1,λv hv=>?_⟩
 by_cases h:v∈S.Tz n s
 ·obtain⟨x,h1,h2⟩:=Ic hr hw.1 (j:=j) h;rw[h1];exact .inr h2
 ·rw[xg h];exact hw.2 v hv
theorem AM(h:NR n){vals:List Int}{x:Node}(hx:n.nodes[v]?=some x)(hf:∀p∈S.TV n v,0<=vals[p.toNat]?.getD 0/\vals[p.toNat]?.getD 0<(S.Tx n)[p.toNat]?.getD 0) :
  InC (S.TA (S.Tx n) x.parents) (S.TA vals x.parents)/\∃(i:Nat) (r:List Int) (c y:Int),S.TC (S.TA (S.Tx n) x.parents) (S.TA vals x.parents)=(i:Int)/\i<x.rows.length/\x.rows[i]?=some r/\vals[v]?.getD 0=c/\0<=c/\r[c.toNat]?=some y/\S.TL n vals v=y/\0<=y/\y<=60:=by
 have hm:=VA hx;have a:S.TV n v=x.parents++[(v:Int)]:=by simp[S.TV,hx]
 have hC:InC (S.TA (S.Tx n) x.parents) (S.TA vals x.parents):=by refine AX (by simp[S.TA]) λi c y h1 h2=>?_;simp only[S.TA,Vw,Option.map_eq_some_iff]at h1 h2;obtain⟨p,d,rfl⟩:=h1;obtain⟨p',h4,rfl⟩:=h2;rw[d]at h4;injection h4 with h4;subst h4;exact hf p (by rw[a];simp[VA d])
 have hi:=iG (eG h.cs (h.pin hm)) hC;rw[<-h.rows x hm]at hi;obtain⟨i,he⟩:=Vy hi.1;have k:i<x.rows.length:=by omega
 have b:=hf (v:Int) (by rw[a];simp);rw[VU]at b;have hc:(S.Tx n)[v]?.getD 0=x.card:=by simp[S.Tx,hx]
 rw[hc]at b;obtain⟨f,e,-⟩:=h.row x hm x.rows[i] (Wy k);have hcl:(vals[v]?.getD 0).toNat<(x.rows[i]).length:=by omega
 have hg:=h.g2;have hb:=e _ (Wy hcl);refine⟨hC,i,x.rows[i],_,(x.rows[i])[(vals[v]?.getD 0).toNat],he,k,Vt k,rfl,b.1,Vt hcl,?_,hb.1,by omega⟩;simp only[S.TL,hx,he,VU,Vt k,VB,Vt hcl]
theorem A7(hr:NR n)(hw:Wv n w)(hv:v<n.nodes.length):∀p∈S.TV n v,0<=(S.TE n w (S.Tz n (S.TG n w v)) j)[p.toNat]?.getD 0/\(S.TE n w (S.Tz n (S.TG n w v)) j)[p.toNat]?.getD 0<(S.Tx n)[p.toNat]?.getD 0:=λp hp=>by
 have h1:=jX hr hv p hp
 by_cases h:p.toNat∈S.Tz n (S.TG n w v)
 ·obtain⟨x,h2,k⟩:=Ic hr hw.1 (j:=j) h;rw[h2];exact k
 ·rw[xg h];have h2:=hw.2 p.toNat (by omega);rcases h2 with h2|h2
  ·refine absurd (lF.2 ⟨by omega,(jY hr hv w p.toNat).2 ⟨by rw[Yq h1.1];exact hp,h2⟩⟩) h
  ·exact h2
theorem ua{n:Net}(hr:NR n){w:List Int}(hw:Wv n w){v:Nat}(hv:v<n.nodes.length):∀k:Nat,0<=S.sm (λj=>S.TL n (S.TE n w (S.Tz n (S.TG n w v)) j) v) k/\S.sm (λj=>S.TL n (S.TE n w (S.Tz n (S.TG n w v)) j) v) k<=60*k
 |0=>by simp[S.sm]
 | k+1=>by have h1:=ua hr hw hv k;obtain⟨-,i,r,c,y,-,-,-,-,-,-,h2,h,h4⟩:=AM hr (Vt hv) (A7 hr hw (j:=k) hv);rw[S.sm,h2];omega
noncomputable section
theorem K4{f:Nat}{xs:List AV}{K':AV->G->Prop}{D2:ADf->Prop}(h0:xs.flatMap (aD g.h aE)=[])(hs:(orF ((I LR).call d f xs ⟨.nil,g.nx,[]⟩)).sat K' ⟨.nil,g.nx,[]⟩ D2)
  (hk:∀v g'' g',K' v g''->Fr g g'->g'.nx=g''.nx->(∀k,g''.h.get k≠.none->g'.h.get k=g''.h.get k)->(∀k∈g'.lg,k∈g.lg\/g.nx<=k/\k<g'.nx)->K v g'):(Cp LR f d xs g).sat K g D:=by
 refine PU RD (K':=K') (D2:=D2) (by rw[h0];simp) (by rw[h0];exact hs) λv g'' hv hn hl ho=>?_;rw[h0]at hl ho;have hl2:∀k∈g''.lg,g.nx<=k:=λk hk=>by have:=(hl k hk).2;simp at this;omega
 refine hk v g'' _ hv ⟨hn,λi hi=>?_⟩ rfl (λk hk=>?_) λk hk=>?_
 ·show (fQ _ _ _).get i=_;rw[eF,Vz];intro h;have:=hl2 i h;omega
 ·show (fQ _ _ _).get k=_;rw[eF,VC]
  by_cases h:k∈g''.lg
  ·exact h
  ·exact absurd (by rw[ho k h];exact JS k) hk
 ·rcases V7.1 hk with h|h
  ·exact .inr ⟨hl2 k h,(hl k h).1⟩
  ·exact .inl h
theorem xQ{k:Nat}{l:List Int}{v:AV}(hv:SlR NoP k .nil l v)(hl2:l.length<=1000)(kk:∀u g',CloneR g.nx l u g'->Fr g g'->(∀i∈g'.lg,i∈g.lg\/g.nx<=i/\i<g'.nx)->K u g') :
  (am C0 d 55 [v] g).sat K g D:=by
 rw[pC];refine K4 (K':=λu g''=>CloneR g.nx l u g'') (D2:=λ_=>True) ?_ ?_ λv g'' g' hv hf hn hg hlg=>kk v g' ?_ hf hlg
 ·rw[Ww,EN (hv.tree (h':=g.h) (Vu k))];rfl
 ·refine fX qM (by simp[dy]) ?_
  by_cases hn:v=.nils
  ·subst hn;have hl:l=[]:=by have h:=hv.2;unfold SlV at h;exact h
   have a:D6 false .slice .nils .nils=.val (.bool true):=rfl;simp only[sz,simprocAttr,dy,a];exact .inl ⟨hl,rfl⟩
  ·have a:D6 false .slice v .nils=.val (.bool false):=by
    have h:=hv.2;unfold SlV at h
    split at h
    ·exact absurd rfl hn
    ·rfl
    ·rfl
    ·exact h.1.elim
    ·exact h.elim
   simp only[sz,simprocAttr,dy,a];refine DE (l:=l) ((hv.tree (Vu _)).ints) (by simp[TA]) (by simp) hl2 λu g1 hu f1=>?_;simp only[sz,simprocAttr];exact hu
 ·rcases hv with h|⟨id,lo,h1,h2,b,h4,h5⟩
  ·exact .inl h
  ·exact .inr ⟨id,lo,h1,by omega,b,by rw[hg id (by rw[h4];simp),h4],h5⟩
theorem CloneR.own{b:Nat}{l:List Int}{u:AV}(h:CloneR b l u g):Own g b u 1 (l.map ci):=by
 rcases h with⟨rfl,rfl⟩|⟨id,lo,h1,h2,rfl,h4,-⟩
 ·exact .inl ⟨rfl,rfl⟩
 ·exact .inr ⟨id,0,lo,h1,h2,by rw[VF],h4⟩
end
theorem GE{b b' sz:Nat}{v:AV}{rows:List (List AV)}(h:Own g b v sz rows)(hb:b'<=b):Own g b' v sz rows:=by
 rcases h with h|⟨id,ep,lo,h1,h2,k,h4⟩
 ·exact .inl h
 ·exact .inr ⟨id,ep,lo,by omega,h2,k,h4⟩
theorem PY{fam:List Int}{fv:AV}(hfm:∀p∈fam,0<=p/\p<(n.nodes.length:Int))(hfl:fam.length<=9)(hn8:n.nodes.length<=8)(hB:g.h.get B=Y6 1 [[ZK pq]])
  (hq:∃gr size c b lv cv xv pm,g.h.get pq=srO gr size c b lv (.hsl pv 0 0 n.nodes.length none) cv xv pm) (hV:Vs n pv w g) (hpv:pv<g.nx) (hF:ak g.h 1 fv=some (fam.map ci))
  (h2:tat t 2=ZK B) (h3:tat t 3=ZK (B+1)) (h5:tat t 5=ZL 0) (h21:tat t 21=fv) (h22:tat t 22=ZJ (fam.length:Int)) (h23:tat t 23=ZJ 0)
  (fin:∀t,St t [(2,ZK B),(3,ZK (B+1)),(5,ZL (S.T8 w fam:Int))]->Q (.exit 0) t [] g) :
  wpL (wp C0 d none cQ) Q t [] g:=by
 obtain⟨gr,size,c,b,lv,cv,xv,pm,hq⟩:=hq;have rv:=(hV.own hpv).rows;have f:=hV.1;have key:∀l:List Int,(∀p∈l,0<=p/\p<(n.nodes.length:Int))->S.T8 w l<256:=λl hl=>by
  have:S.T8 w l<2 ^ 8:=ym λu hu=>by obtain⟨p,h1,h2,-⟩:=(zI (λp hp=>by have:=hl p hp;omega) u).1 hu;have:=hl p h1;omega
  exact this
 simp only[cQ,fB];refine bD (m:=fam.length) (by omega) (λk t df g'=>df=[]/\g'=g/\St t [(2,ZK B),(3,ZK (B+1)),(5,ZL (S.T8 w (fam.take k):Int)),(21,fv)])
  ⟨rfl,rfl,by simp[St,h2,h3,h5,h21,S.T8]⟩ h23 h22 (by decide) (by rintro j t df g v s (rfl|rfl|rfl)<;>simp[sx,St]) ?_ ?_
 ·clear h2 h3 h5 h21 h22 h23;rintro k t df g' hk ⟨rfl,rfl,h2,h3,h5,h21,-⟩ h23 h22;obtain⟨p,hp,e,a⟩:=ae hk;obtain⟨o,x⟩:=hfm p a;obtain⟨v,rfl⟩:=Vy o;have a1:k<(fam.map ci).length:=by simpa using hk
  have a2:(fam.map ci)[k]?=some (ci (v:Int)):=by rw[Vw,hp];rfl
  obtain⟨b1,b2⟩:=I9 (l:=w) (i:=v) (by omega);have r:=key (fam.take k) λq hq=>hfm q (WL hq);have k2:=key (fam.take (k+1)) λq hq=>hfm q (WL hq);have e1:=CW w (fam.take k) (v:Int);rw[<-e,VU]at e1
  by_cases c1:w[v]?.getD 0 = -1
  ·rw[VC c1]at e1;have or1:=mo (S.T8 w (fam.take k)) (S.TT v) (by omega) (oD v);rw[<-e1]at or1;simp only[sz,simprocAttr,h2,h5,h21,h23,hB,hq,srO,aI,hF,a1,a2,rv,b1,b2,ci,c1,fu,or1]
   and_intros<;>simp[St,sx,h2,h3,h21,h22,h23]
  ·rw[Vz c1]at e1;simp only[sz,simprocAttr,h2,h5,h21,h23,hB,hq,srO,aI,hF,a1,a2,rv,b1,b2,ci,c1];rw[e1]
   and_intros<;>simp[St,sx,h2,h3,h5,h21,h22,h23]
 ·rintro t df g' ⟨rfl,rfl,h2,h3,h5,-⟩;rw[Wa]at h5;exact fin t (by simp[St,h2,h3,h5])
theorem P4{pc px:Nat}{cut ctx:List Nat}(hC:Srs n l cut ctx b lv pq pv pm pc px)(hS:Srh n cut ctx size b lv pq pv pm pc px st g)(hv:v<n.nodes.length)
  (hB:g.h.get B=Y6 1 [[ZK pq]]) (hB1:g.h.get (B+1)=Y6 1 [[ZJ (v:Int)]]) (hn:B+2<=g.nx) (ht:St t [(2,ZK B),(3,ZK (B+1)),(5,ZL 0)]) :
  wp C0 d none (.feet [0,1,3,7,15,0,63,127,255,511,0,1024,4095,8191,0] [oL 9 2,Zb 10 9,oF 11 0 10,oF 12 1 11,oL 13 12,oL 14 3,Ze 15 3 13 14,oF 16 1 15,oL 17 16,Zq 18 55 17,oL 19 3,ZB 20 19,Zu 21 1 8 18 20,oN 22 21,oK 23 0])
   (λe t df g'=>e=.norm/\df=[]/\∃fv,St t [(2,ZK B),(3,ZK (B+1)),(5,ZL 0),(21,fv),(22,ZJ ((S.TV n v).length:Int)),(23,ZJ 0)]/\Own g' g.nx fv 1 ((S.TV n v).map ci)/\Fx (λ_=>False) g g') t [] g:=by
 have hr:=hC.nr;obtain⟨h2,j,h5,-⟩:=ht;obtain⟨rows,r,F,D,E⟩:=hC.nb.all;have r:∀h',ak h' 3 b=some rows:=r;obtain⟨x,hx,-,m⟩:=ae hv;obtain⟨row,C,q2⟩:=D v x hx;obtain⟨pa,ra,rfl,a,-⟩:=bM.1 q2;have hlt:v<rows.length:=by omega
 have c:=E (by omega);have A:=fS (hr.places x m) (by omega);have w:=hr.l2;have k:S.TV n v=x.parents++[(v:Int)]:=by simp[S.TV,hx]
 have hq:=hS.q;simp only[sz,simprocAttr,sf,h2,j,hB,hB1,hq,srO,aI,r,hlt,C,c];refine xQ a (by omega) λu g1 hu hf hlg=>?_;have oU:=hu.own;have n1:g.nx+9<=g1.nx:=by have:=hf.1;simp at this;omega
 have f1:∀i,i<g.nx+9->g1.h.get i=g.h.get i:=λi hi=>by have:=hf.2 i (by simp;omega);simpa using this
 have l1:∀i∈g1.lg,g.nx+9<=i/\i<g1.nx:=λi hi=>by have:=hlg i hi;simp at this;omega
 have oU:Own g1 (g.nx+9) u 1 (x.parents.map ci):=by simpa using oU
 clear hf hlg hu;have f:g1.h.get (B+1)=Y6 1 [[ZJ (v:Int)]]:=by rw[f1 _ (by omega),hB1]
 simp only[sz,simprocAttr,sf,j,f,zG];refine nL (new:=[ci (v:Int)]) (oU.fr (by simp;omega) λi hi=>?_) (by simp[sx,sy,ci]) (by simp;omega) (by simp[aT];omega) λv2 g2 hv2 n2 f2 c2 l2=>?_
 ·have:=(oU.lt hi).2;simp[TA];omega
 simp only[sz,simprocAttr]at n2 f2 l2;have o:∀i∈g2.lg,vid u=some i\/g1.nx+1+1+1+1<=i/\i<g2.nx:=λi hi=>by simpa using l2 i hi
 have vl:=hv2.sat_len;have rb:=hC.nb.refs;have pn:=hS.nx.1;have rp1:∀i,aw (eJ 3 b v i)=[]:=λi=>by rw[fT c,rb]
 have rpa:=a.refs;have spa:=λh:H=>EN (a.tree (h':=h) (Vu 0));simp only[sz,simprocAttr,sf,vl,dW];refine⟨?_,?_⟩
 ·simp only[VJ,VN,VH,VE];refine aA (false::(Zl (true::(false::(true::(true::(Zn []))))))) [(0,11),(1,11),(2,11),(3,11),(4,11),(5,11),(6,11),(7,11),(8,11),(9,11),(9,10),(9,14),(11,14),(12,14)] (by simp[All2,ah,ay]) (by decide) ?_;intro p hp y z hx s;simp only[VP,VG,Xh]at hp;rcases hp with rfl|rfl|rfl|rfl|rfl|rfl|rfl|rfl|rfl|rfl|rfl|rfl|rfl|rfl<;>(simp only[VZ,Wn,Wj]at hx s;subst hx;subst s;refine bI rfl rfl rfl rfl ?_ ?_ ?_<;>simp[ah,ay,cO,rE,rb,rp1,rpa,spa])
  all_goals first|omega|exact λi hi=>by have:=l1 i hi;omega
 ·have e1:(((x.parents.map ci++[ci (v:Int)]).length:Nat):Int)=((S.TV n v).length:Int):=by rw[k];simp
  refine⟨v2,by simp[St,sx,h2,j,h5];rw[k];simp,?_,?_⟩
  ·rw[k,WJ];exact GE (hv2.fr (by simp;omega) λi hi=>by simp) (by omega)
  ·refine⟨by simp;omega,λi hi _=>?_,λi hi=>?_⟩
   ·have h2:=f2 i (by omega) (λe=>by have:=oU.lt e;omega);rw[Vz (by omega)]at h2;simp[h2,f1 i (by omega)]
   ·simp at hi;rcases hi with hi|rfl|hi|hi
    ·rcases o i hi with h|h
     ·have:=oU.lt h;exact .inr (.inr (by omega))
     ·exact .inr (.inr (by omega))
    ·exact .inr (.inr (by omega))
    ·have:=l1 i hi;exact .inr (.inr (by omega))
    ·exact .inl hi
theorem PZ{pc px:Nat}{cut ctx:List Nat}(hd:0<d)(hC:Srs n l cut ctx b lv pq pv pm pc px)(hS:Srh n cut ctx size b lv pq pv pm pc px st g)(hv:v<n.nodes.length)(hW:Wv n w)
  (hB:g.h.get B=Y6 1 [[ZK pq]]) (hB1:g.h.get (B+1)=Y6 1 [[ZJ (v:Int)]]) (hs:g.h.get S0=Y6 1 [[ZJ (S.sm (λj=>S.TL n (S.TE n w (S.Tz n (S.TG n w v)) j) v) j)]]) (hj:j<=65536)
  (hV:Vs n pv (S.TE n w (S.Tz n (S.TG n w v)) j) g) (h2:tat t 2=ZK B) (h3:tat t 3=ZK (B+1)) (h8:tat t 8=ZK S0) 
  (fin:∀t g',g'.h=g.h.put S0 (Y6 1 [[ZJ (S.sm (λj=>S.TL n (S.TE n w (S.Tz n (S.TG n w v)) j) v) (j+1))]])->g.nx<=g'.nx->(∀i∈g'.lg,i∈g.lg\/i=S0)->Q .norm t [] g') :
  wp C0 d rd bN Q t [] g:=by
 have hr:=hC.nr;obtain⟨rows,p,r2,R,U⟩:=hC.nb.all;have p:∀h',ak h' 3 b=some rows:=p;obtain⟨x,hx,-,N⟩:=ae hv;obtain⟨row,I,q2⟩:=R v x hx;obtain⟨pa,ra,rfl,M,s⟩:=bM.1 q2;have hlt:v<rows.length:=by omega
 have m:=U (by omega);have L:=hr.l2;have hq:=hS.q;have pn:=hS.nx;obtain⟨vals,k⟩:∃vals,vals=S.TE n w (S.Tz n (S.TG n w v)) j:=⟨_,rfl⟩;obtain⟨f,i,r,c,y,E,Z,P,F,i5,D,H,i9,O⟩:=AM hr hx (A7 hr hW (j:=j) hv);rw[<-k]at hV f E F H;have hb:=ua hr hW hv j;have u:S.sm (λj=>S.TL n (S.TE n w (S.Tz n (S.TG n w v)) j) v) (j+1)=S.sm (λj=>S.TL n (S.TE n w (S.Tz n (S.TG n w v)) j) v) j+y:=by rw[S.sm,<-k,H]
 rw[u]at fin;obtain⟨A,K⟩:∃A,A=S.sm (λj=>S.TL n (S.TE n w (S.Tz n (S.TG n w v)) j) v) j:=⟨_,rfl⟩;rw[<-K]at hs hb fin;obtain⟨cn,rfl⟩:=Vy i5;rw[VU]at D;obtain⟨rr,s1,s2,s3,s4⟩:=xh s;obtain⟨z,t1,V,hz⟩:=s3 i r P;have o:=s4 (by omega);have rz:=λh=>(hz.tree (h':=h) (Vu 0)).ints;have rv:=(hV.own pn.2.1).rows;have C:=hV.1;obtain⟨W,J⟩:=I9 (l:=vals) (i:=v) (by omega);rw[F]at J;have X:cn<(r.map ci).length:=by rw[VF];exact (Vv.1 D).1
 have Y:(r.map ci)[cn]?=some (ci y):=by rw[Vw,D];rfl
 have hsl:∀g':G,g'.h=g.h->SlR (λ_=>True) 0 g'.h vals (.hsl pv 0 0 n.nodes.length none):=λg' e=>by rw[e];exact Own.sl (α:=Int) (hV.own pn.2.1) (by omega) (Tx (λa=>aW.2 rfl) _) λ_ _=>trivial
 have kr:=λ(g':G) (e:g'.h=g.h)=>Pi (d:=d) (i:=v) (g:=g') (k2:=0) (v:=b) (w:=.hsl pv 0 0 n.nodes.length none) (x:=x) (vals:=vals) hd hC.nb hr hx (hsl g' e) C f;rw[E]at kr;have w1:IntKind.wrap .i64 (A+y)=A+y:=ap (by omega) (by omega);simp only[sz,simprocAttr,sf,bN,h2,h3,h8,hB,hB1,hs,hq,srO,aI,p,hlt,I,m];rw[kr _ (by simp)];simp only[sz,simprocAttr,sf,bN,h2,h3,h8,hB,hB1,hs,hq,srO,aI,p,hlt,I,m,s1,t1,V,o,rv,W,J,ci,rz,X,Y,w1,AR];refine⟨?_,?_⟩
 ·simp only[VJ,VN,VH,VE];exact aA (false::(Zl (Zl (Zl (Zl (true::[])))))) [] (by simp[All2,ah,ay]) (by decide) (by simp)
 ·refine fin _ _ ?_ ?_ ?_
  ·simp
  ·simp;omega
  ·intro i hi;simp at hi;exact hi.symm
theorem P5{pc px:Nat}{cut ctx:List Nat}(hd:0<d)(hC:Srs n l cut ctx b lv pq pv pm pc px)(hS:Srh n cut ctx size b lv pq pv pm pc px st g)(hW:Wv n w)(hV:Vs n pv w g)(hv:v<n.nodes.length)
  (kk:∀g',Srh n cut ctx size b lv pq pv pm pc px st g'->Vs n pv w g'->Fx (λi=>i=pv) g g'->K (ZJ (S.UW n w v)) g'):(am C0 d 57 [ZK pq,ZJ (v:Int)] g).sat K g D:=by
 have hr:=hC.nr;have Q:=hr.l2;obtain⟨n1,n2,n3,n4,n5⟩:=hS.nx;obtain⟨f,T,U,V⟩:=hC.d1;obtain⟨p,r,x⟩:=hC.d2;have J:∀g:G,Ah (ZK pq) g=.upd (ZK g.nx) (g.new (Y6 1 [[ZK pq]])):=λg=>rfl;have o:∀g:G,Ah (ZJ (v:Int)) g=.upd (ZK g.nx) (g.new (Y6 1 [[ZJ (v:Int)]])):=λg=>rfl;rw[mu];refine fX oI (by simp[dS]) ?_;simp only[dS];refine aL (P:=λt' df g'=>df=[]/\g'.nx=g.nx+2/\g'.h.get g.nx=Y6 1 [[ZK pq]]/\g'.h.get (g.nx+1)=Y6 1 [[ZJ (v:Int)]]/\Fx (λ_=>False) g g'/\St t' [(2,ZK g.nx),(3,ZK (g.nx+1))]) ?_ ?_
 ·simp only[sz,simprocAttr,J,o];exact⟨by simp[TA],(Fx.new _ _ _).trans (Fx.new _ _ _),by simp[St,sx]⟩
 rintro t df g1 ⟨rfl,k1,kB,kB1,F1,h2,c,-⟩;simp only[gk];refine aL (P:=λt' df g'=>df=[]/\g'=g1/\St t' [(2,ZK g.nx),(3,ZK (g.nx+1)),(5,ZL 0)]) ?_ ?_
 ·simp only[sz,simprocAttr];simp[St,sx,h2,c]
 clear h2 c;rintro t df g1 ⟨rfl,rfl,ht⟩;have F:Srh n cut ctx size b lv pq pv pm pc px st g1:=hS.fr F1.nx λi hi=>F1.fr i (by rcases hi with rfl|rfl|rfl|rfl<;>assumption) id;have N:=jX hr hv;refine bB (P:=λt' df g'=>df=[]/\Fx (λ_=>False) g g'/\g1.nx<=g'.nx/\g'.h.get g.nx=Y6 1 [[ZK pq]]/\g'.h.get (g.nx+1)=Y6 1 [[ZJ (v:Int)]]/\St t' [(2,ZK g.nx),(3,ZK (g.nx+1)),(5,ZL (S.TG n w v:Int))]) ?_ ?_
 ·refine bB (P:=λt df g'=>df=[]/\∃fv,St t [(2,ZK g.nx),(3,ZK (g.nx+1)),(5,ZL 0),(21,fv),(22,ZJ ((S.TV n v).length:Int)),(23,ZJ 0)]/\Own g' g1.nx fv 1 ((S.TV n v).map ci)/\Fx (λ_=>False) g1 g') ?_ ?_
  ·exact P4 hC F hv kB kB1 (by omega) ht
  rintro t df g2 ⟨rfl,fv,⟨h2,c,h5,A,C,E,-⟩,oF,F2⟩;have F12:=F1.trans F2;have F2n:=F2.nx;have kB2:g2.h.get g.nx=Y6 1 [[ZK pq]]:=by rw[F2.fr _ (by omega) id,kB]
  have kB12:g2.h.get (g.nx+1)=Y6 1 [[ZJ (v:Int)]]:=by rw[F2.fr _ (by omega) id,kB1]
  have q2:=(F12.fr pq n1 id).trans hS.q;have V2:Vs n pv w g2:=hV.fr (F12.fr pv n2 id);simp only[sz,simprocAttr];refine PY (B:=g.nx) (pq:=pq) (pv:=pv) (w:=w) (fam:=S.TV n v) (fv:=fv) N (FP hr hv) Q kB2 ⟨_,_,_,_,_,_,_,_,q2⟩ V2 (by omega) oF.rows h2 c h5 A C E λt ht=>?_;simp only[sz,simprocAttr];exact⟨F12,F2n,kB2,kB12,ht⟩
 clear ht t kB kB1;rintro t df g2 ⟨rfl,F2,Y,kB,kB1,h2,c,h5,-⟩;have W:=F1.nx;simp only[fD];refine aL (P:=λt' df g'=>df=[]/\g'.nx=g2.nx+1/\g'.h.get g2.nx=Y6 1 [[ZJ 0]]/\Fx (λ_=>False) g2 g'/\St t' [(2,ZK g.nx),(3,ZK (g.nx+1)),(5,ZL (S.TG n w v:Int)),(8,ZK g2.nx)]) ?_ ?_
 ·simp only[sz,simprocAttr];exact⟨(Fx.new _ _ _).put (.inr (Vu _)) _,by simp[St,sx,h2,c,h5]⟩
 clear h2 c h5;rintro t df g3 ⟨rfl,k3,kS,F3,h2,c,h5,h8,-⟩;have kB3:g3.h.get g.nx=Y6 1 [[ZK pq]]:=by rw[F3.fr _ (by omega) id,kB]
 have kB13:g3.h.get (g.nx+1)=Y6 1 [[ZJ (v:Int)]]:=by rw[F3.fr _ (by omega) id,kB1]
 have F03:Fx (λ_=>False) g g3:=F2.trans F3;simp only[sz,simprocAttr,h2,h5,kB3];refine CD ?_;simp only[sz,simprocAttr,fA];obtain⟨a,k⟩:∃a,a=(g3.new (Y6 1 [[ZK pq]])).new (Y6 1 [[ZL (S.TG n w v:Int)]]):=⟨_,rfl⟩;rw[<-k];have Z:a.nx=g3.nx+2:=by rw[k];simp
 have y:∀i,i<g3.nx->a.h.get i=g3.h.get i:=λi hi=>by rw[k];simp[TA,show ¬i=g3.nx by omega,show ¬i=g3.nx+1 by omega]
 have e1:a.h.get g3.nx=Y6 1 [[ZK pq]]:=by rw[k];simp[TA]
 have e2:a.h.get (g3.nx+1)=Y6 1 [[ZL (S.TG n w v:Int)]]:=by rw[k];simp[TA]
 have F04:Fx (λ_=>False) g a:=by rw[k];exact F03.trans ((Fx.new _ _ _).trans (Fx.new _ _ _))
 clear k;have H:Srh n cut ctx size b lv pq pv pm pc px st a:=hS.fr F04.nx λi hi=>F04.fr i (by rcases hi with rfl|rfl|rfl|rfl<;>assumption) id;have L:=Be hr (S.TG n w v);obtain⟨W1,W2,W3⟩:=L.nc;refine J6 (b1:=g3.nx) (b2:=g3.nx+1) (pq:=pq) (pv:=pv) (pm:=pm) (s:=S.TG n w v) (size:=size) (w:=w) (b:=b) (lv:=lv) (cv:=.hsl pc 0 0 cut.length none) (xv:=.hsl px 0 0 ctx.length none) hr hC.nb (Jn hr hv w) (by simp[sx]) (by decide) ⟨by omega,by omega,by omega⟩ (λu hu=>?_)
  (λj g'=>Srh n cut ctx size b lv pq pv pm pc px st g'/\(∀i,i=g3.nx\/i=g3.nx+1\/i=g.nx\/i=g.nx+1->g'.h.get i=a.h.get i)/\g'.h.get g2.nx=Y6 1 [[ZJ (S.sm (λj=>S.TL n (S.TE n w (S.Tz n (S.TG n w v)) j) v) j)]]/\Fx (λi=>i=pv) g g') ?_ ⟨by omega,by omega,WD f,by omega⟩ ?_ ⟨H,λ_ _=>rfl,by rw[y _ (by omega),kS];rfl,F04.mono λ_ h=>h.elim⟩ (hV.fr (F04.fr pv n2 id)) ?_ ?_
 ·obtain⟨h1,z⟩:=lF.1 hu;have:=((jY hr hv w u).1 z).2;rw[Vt (by rw[hW.1];exact h1)]at this ⊢;rw[VB]at this;rw[this]
 ·rintro j g' ⟨a1,a2,e,a4⟩;exact⟨by rw[a2 _ (.inl rfl),e1],by rw[a2 _ (.inr (.inl rfl)),e2],_,a1.q⟩
 ·rintro j ga gb R hf hl ⟨a1,a2,e,a4⟩;refine⟨a1.fr R λi hi=>?_,λi hi=>by rw[hf i (by omega) (by omega),a2 i hi],by rw[hf _ (by omega) (by omega),e],⟨by have:=a4.nx;omega,λi hi hp=>by rw[hf i (by omega) hp,a4.fr i hi hp],λi hi=>?_⟩⟩
  ·rcases hi with rfl|rfl|rfl|rfl
   ·exact hf _ (by omega) (WD f)
   ·exact hf _ (by omega) p
   ·exact hf _ (by omega) r
   ·exact hf _ (by omega) x
  ·rcases hl i hi with h|h|h
   ·exact a4.lg i h
   ·exact .inr (.inl h)
   ·exact .inr (.inr (by omega))
 ·rintro j ga X ⟨a1,a2,e,a4⟩ m R;have O:j<=65536:=by unfold S.TS at X;unfold S.nc at W2;omega
  refine PZ (B:=g.nx) (S0:=g2.nx) (v:=v) (j:=j) hd hC a1 hv hW (by rw[a2 _ (.inr (.inr (.inl rfl))),y _ (by omega),kB3]) (by rw[a2 _ (.inr (.inr (.inr rfl))),y _ (by omega),kB13]) e O m (by simp[sx,h2]) (by simp[sx,c]) (by simp[sx,h8]) λt' gb hh hn2 hl2=>?_;have fb:∀i,i≠g2.nx->gb.h.get i=ga.h.get i:=λi hi=>by rw[hh,af _ _ _ (by omega)]
  refine⟨rfl,rfl,hn2,λi h1 h2=>fb i (by omega),⟨a1.fr hn2 λi hi=>fb i (by rcases hi with rfl|rfl|rfl|rfl<;>omega),λi hi=>by rw[fb i (by omega),a2 i hi],by rw[hh,aJ],⟨by have:=a4.nx;omega,λi hi hp=>by rw[fb i (by omega),a4.fr i hi hp],λi hi=>?_⟩⟩,m.fr (fb pv (by omega))⟩;rcases hl2 i hi with h|rfl
  ·exact a4.lg i h
  ·exact .inr (.inr (by omega))
 ·rintro g' ⟨a1,a2,e,a4⟩ I R M;simp only[sz,simprocAttr,fC,h8,e];refine pG M ?_;simp only[sz,simprocAttr];refine kk _ (a1.fr (by simp) λi hi=>by rw[G.put_h,af _ _ _ (by rcases hi with rfl|rfl|rfl|rfl<;>omega)]) (I.fr (by rw[G.put_h,af _ _ _ (by omega)])) (a4.put (.inr (by omega)) _)
section
variable {b ty:Nat}{C:Cfg}
theorem wH:∀{a b:List Int},a.length=b.length->dK (a.map λx=>ZJ x) (b.map λx=>ZJ x)=some (decide (a=b))
 |[],[],_=>rfl
 |[],_::_,h=>by simp at h
 |_::_,[],h=>by simp at h
 | x::a,y::b,h=>by
  have ih:=wH (a:=a) (b:=b) (by simpa using h);rw[W4,W4];show (match qL (ZJ x) (ZJ y),dK (a.map λx=>ZJ x) (b.map λx=>ZJ x) with|some x,some y=>some (aB x y false)|_,_=>none)=_;rw[ih];show some (aB (F7 x y) (decide (a=b)) false)=_;rw[q_]
  by_cases h1:x=y<;>by_cases h2:a=b<;>simp[h1,h2,aB]
def K8(k:Key):Prop:=k.2.length=8
theorem Mk{a b:Key}(ha:K8 a)(hb:K8 b):yQ (ck9 a) (ck9 b)=some (decide (a=b)):=by have h:=wH (a:=a.1::a.2) (b:=b.1::b.2) (by unfold K8 at ha hb;simp[ha,hb]);rw[W4,W4]at h;show dK _ _=_;rw[h];obtain⟨a1,a2⟩:=a;obtain⟨b1,b2⟩:=b;simp
def Mok(L:Mem):Prop:=∀p∈L,K8 p.1
theorem Jp{k:Key}(hk:K8 k):∀{L:Mem},Mok L->wR (ck9 k) (uC L)=some (if cK L k then some (ZJ (mgt L k)) else none)
 |[],_=>rfl
 | (a,w)::r,h=>by
  rw[uC,W4,wR,Mk hk (h (a,w) (by simp))]
  by_cases e:k=a
  ·subst e;simp[mgt,cK]
  ·have ih:=Jp hk (L:=r) λp hp=>h p (by simp[hp]);rw[uC]at ih;simp only[We e];rw[ih,cK,cK,List.any_cons,mgt,Vz e,We e,Bool.false_or]
theorem OJ{k:Key}(hk:K8 k)(x:Int):∀{L:Mem},Mok L->GZ (ck9 k) (ZJ x) (uC L)=some (uC (mst k x L))
 |[],_=>rfl
 | (a,w)::r,h=>by
  rw[uC,W4,GZ,Mk hk (h (a,w) (by simp)),mst]
  by_cases e:k=a
  ·subst e;simp[uC]
  ·have ih:=OJ hk x (L:=r) λp hp=>h p (by simp[hp]);rw[uC]at ih;simp only[We e,Vz e,ih]
   rfl
theorem JQ{k:Key}(hk:K8 k)(x:Int):∀{L:Mem},Mok L->Mok (mst k x L)
 |[],_,p,hp=>by rw[mst,VY]at hp;rw[hp];exact hk
 | (a,w)::r,h,p,hp=>by
  rw[mst]at hp
  split at hp
  ·rcases VP.1 hp with rfl|hp
   ·exact hk
   ·exact h p (by simp[hp])
  ·rcases VP.1 hp with rfl|hp
   ·exact h _ (by simp)
   ·exact JQ hk x (L:=r) (λp hp=>h p (by simp[hp])) p hp
theorem Nw(i:Int)(w:List Int)(s:Nat):K8 (i,S.TU w s):=by simp[K8,S.TU]
def ktC:Nat:=match C0.P.underlying 88 with|some (.map k _)=>k|_=>0
def etC:Nat:=match C0.P.underlying 88 with|some (.map _ e)=>e|_=>0
theorem Ry:C0.P.underlying 88=some (.map ktC etC):=by kernel_rfl
theorem Tq:cJ C0.P ktC=.flat [.int .i64,.int .i64,.int .i64,.int .i64,.int .i64,.int .i64,.int .i64,.int .i64,.int .i64]:=by kernel_rfl
theorem SV(hk:K8 k):C8 (cJ C0.P ktC) (ck9 k)=true:=by
 rw[Tq];obtain⟨i,l⟩:=k;have hk:l.length=8:=hk
 match l,hk with
 |[_,_,_,_,_,_,_,_],_=>rfl
theorem z_c:uP C0.P etC=some (ZJ 0):=by kernel_rfl
theorem R6(d:Nat)(rd:Option Nat)(t:T)(g:G):(SO.raw (.makeMap 88 none)).run C0 d rd t g=.upd (.hmap g.nx) (g.new (.map [])):=by kernel_rfl
theorem H_{kt et:Nat}{z:AV}{ok:Bool}(hu:C.P.underlying ty=some (.map kt et))(hz:uP C.P et=some z)(d:Nat)(rd:Option Nat)(t:T)(g:G):(SO.raw (.lookup ty (.tmp a) (.tmp b) ok)).run C d rd t g=dL (cJ C.P kt) z ok (λt=>tat t a) (λt=>tat t b) t g:=by obtain⟨s1,e1,h⟩:=bg (C:=C) (x:=.tmp a) (o:=.t a) rfl;obtain⟨s2,e2,k⟩:=bg (C:=C) (x:=.tmp b) (o:=.t b) rfl;show (dC C _).run (I C) d rd t g=_;rw[bH (s:=⟨dL (cJ C.P kt) z ok s1.run s2.run⟩) rfl (by simp only[cq,e1,e2,hu,hz])];rw[show s1.run=λt=>tat t a from funext h,show s2.run=λt=>tat t b from funext k]
theorem Ia{kt et:Nat}(hu:C.P.underlying ty=some (.map kt et))(d:Nat)(rd:Option Nat)(t:T)(g:G):(SO.raw (.mapUpdate ty (.tmp a) (.tmp b) (.tmp c))).run C d rd t g=cT (cJ C.P kt) (λt=>tat t a) (λt=>tat t b) (λt=>tat t c) t g:=by obtain⟨s1,e1,k⟩:=bg (C:=C) (x:=.tmp a) (o:=.t a) rfl;obtain⟨s2,e2,e⟩:=bg (C:=C) (x:=.tmp b) (o:=.t b) rfl;obtain⟨s3,h,f⟩:=bg (C:=C) (x:=.tmp c) (o:=.t c) rfl;show (dC C _).run (I C) d rd t g=_;rw[bH (s:=⟨cT (cJ C.P kt) s1.run s2.run s3.run⟩) rfl (by simp only[cq,e1,e2,h,hu])];rw[show s1.run=λt=>tat t a from funext k,show s2.run=λt=>tat t b from funext e,show s3.run=λt=>tat t c from funext f]
theorem K1(t:T)(g:G):SO.foot C t g (.raw (.mapUpdate ty (.tmp a) (.tmp b) (.tmp c)))=ah (aw (tat t a)):=by
 obtain⟨s1,e1,h⟩:=bg (C:=C) (x:=.tmp a) (o:=.t a) rfl;show (aO C _).run t g=_;simp only[aO,e1,h]
 rfl
theorem NI{id:Nat}(hk:K8 k)(hL:Mok L)(h1:tat t a=.hmap id)(h2:tat t b=ck9 k)(hg:g.h.get id=.map (uC L)) :
  (SO.raw (.lookup 88 (.tmp a) (.tmp b) true)).run C0 d rd t g=.val (.tup [ZJ (mgt L k),.bool (cK L k)]):=by
 rw[H_ Ry z_c];unfold dL;simp only[h1,h2,SV hk,G.get_eq,hg,Jp hk hL];have hz:∀{L:Mem},cK L k=false->mgt L k=0:=by
  intro L
  induction L with
  |nil=>intro _;rfl
  | cons p r ih =>
   intro h;obtain⟨a,w⟩:=p;rw[cK,List.any_cons,Bool.or_eq_false_iff]at h;rw[mgt,Vz (Xr h.1),ih h.2]
 cases h:cK L k with
 |true=>simp[aB]
 |false=>simp[aB,hz h]
theorem Tg{id:Nat}{x:Int}(hk:K8 k)(hL:Mok L)(h1:tat t a=.hmap id)(h2:tat t b=ck9 k)(h3:tat t c=ZJ x)(hg:g.h.get id=.map (uC L)) :
  (SO.raw (.mapUpdate 88 (.tmp a) (.tmp b) (.tmp c))).run C0 d rd t g=.upd .undef (g.put id (.map (uC (mst k x L)))):=by
 rw[Ia Ry];unfold cT;simp only[h1,h2,h3,SV hk,G.get_eq,hg,OJ hk x hL]
theorem zR{rec:Rec}(hr:∀i w ab st,Mok st.1->Mok (rec i w ab st).2.1){n:Net}{w:List Int}{cu:List Nat}{a b ab:Nat}{st:MSt}(h:Mok st.1):∀j,Mok (S.Us rec n w cu a b ab st j).2.1
 |0=>h
 | j+1=>by rw[S.Us];exact hr _ _ _ _ (hr _ _ _ _ (zR hr h j))
theorem zQ{n:Net}{l:List Sp}{vr:List Nat}{size:Int}:∀f i w ab st,Mok st.1->Mok (S.TD n l vr size f i w ab st).2.1
 |0,_,_,_,_,h=>h
 | f+1,i,w,ab,st,h=>by
  rw[S.TD]
  split
  ·split
   ·exact h
   ·have:=zR (rec:=S.TD n l vr size f) (λi w ab st h=>zQ f i w ab st h) (n:=n) (w:=w) (cu:=S.Tz n (S.TF (vr[(S.sp l i).2.1.toNat]?.getD 0 &&& vr[(S.sp l i).2.2.toNat]?.getD 0) ab)) (a:=(S.sp l i).2.1.toNat) (b:=(S.sp l i).2.2.toNat) (ab:=ab ||| S.TF (vr[(S.sp l i).2.1.toNat]?.getD 0 &&& vr[(S.sp l i).2.2.toNat]?.getD 0) ab) (st:=(st.1,w64 (st.2+1))) h (S.TS n (S.Tz n (S.TF (vr[(S.sp l i).2.1.toNat]?.getD 0 &&& vr[(S.sp l i).2.2.toNat]?.getD 0) ab)));dsimp only
    split
    ·exact JQ (Nw _ _ _) _ this
    ·exact this
  ·exact h
end
def Mm(b1 b2:Nat):AV:=.clo 56 [] [ZK b1,ZK b2]
theorem Jj(d b1 b2:Nat)(v:AV)(g:G):j8 C0 (I C0) d (Mm b1 b2) [v] g=orF ((I C0).call d 56 [v,ZK b1,ZK b2] g):=by kernel_rfl
structure LOk (n:Net) (l:List Sp) (vr:List Nat):Prop where
 j:∀i,i<l.length->(S.sp l i).1 = -1->0<=(S.sp l i).2.1/\(S.sp l i).2.1<(i:Int)/\0<=(S.sp l i).2.2/\(S.sp l i).2.2<(i:Int)
 f:∀i,i<l.length->(S.sp l i).1≠-1->0<=(S.sp l i).1/\(S.sp l i).1<(n.nodes.length:Int)
 u:∀i,i<l.length->(S.sp l i).1 = -1->vr[i]?.getD 0=vr[(S.sp l i).2.1.toNat]?.getD 0 ||| vr[(S.sp l i).2.2.toNat]?.getD 0
 b:∀x∈vr,x<2 ^ n.nodes.length
structure NH (n:Net) (cut ctx:List Nat) (size:Int) (b lv:AV) (pq pv pm pc px b1 b2:Nat) (st:MSt) (w:List Int) (g:G):Prop where
 s:Srh n cut ctx size b lv pq pv pm pc px st g
 v:Vs n pv w g
 e1:g.h.get b1=Y6 1 [[ZK pq]]
 e2:g.h.get b2=Y6 1 [[Mm b1 b2]]
 l:b1<g.nx/\b2<g.nx
def Wo(vr ab:List Nat)(w:List Int)(i:Nat):Prop:=∀v,(vr[i]?.getD 0).testBit v=true->(ab[i]?.getD 0).testBit v=false->w[v]?=some (-1)
theorem yB{l:List Sp}(h:i<l.length):i<(l.map cs3).length/\(l.map cs3)[i]?=some (cs3 (S.sp l i)):=by refine⟨by simpa using h,?_⟩;rw[Vw,Vt h,S.sp,Vt h];rfl
theorem Dp(gr size c c':Int)(b lv vv cv xv:AV)(pm:Nat)(g:G)(pq:Nat):ch (srO gr size c b lv vv cv xv pm) g pq 0 0 1 8 (ZJ c')=.upd .undef (g.put pq (srO gr size c' b lv vv cv xv pm)):=by
 unfold srO;rw[bf 9 _ 0 false g pq 0 1 8 (ZJ c') rfl rfl,VZ];rw[show (ZJ c').cells=[ZJ c'] from rfl];dsimp only;rw[eH (by simp)]
 rfl
theorem Tu(gr size c:Int)(b lv vv cv xv:AV)(pm:Nat):be (srO gr size c b lv vv cv xv pm) 0 0 false 1 1=.val b:=rfl
theorem Sw(gr size c:Int)(b lv vv cv xv:AV)(pm:Nat):be (srO gr size c b lv vv cv xv pm) 0 0 false 1 2=.val lv:=rfl
theorem Sx(gr size c:Int)(b lv vv cv xv:AV)(pm:Nat):be (srO gr size c b lv vv cv xv pm) 0 0 false 1 4=.val cv:=rfl
theorem QP(gr size c:Int)(b lv vv cv xv:AV)(pm:Nat):be (srO gr size c b lv vv cv xv pm) 0 0 false 1 6=.val (.hmap pm):=rfl
theorem Tw(gr size c:Int)(b lv vv cv xv:AV)(pm:Nat):be (srO gr size c b lv vv cv xv pm) 0 0 false 1 7=.val (ZJ size):=rfl
theorem Tc(gr size c:Int)(b lv vv cv xv:AV)(pm:Nat):be (srO gr size c b lv vv cv xv pm) 0 0 false 1 8=.val (ZJ c):=rfl
theorem Srh.call{n:Net}{cut ctx:List Nat}{size:Int}{b lv:AV}{pq pv pm pc px:Nat}{g':G}{l:List Sp}(hC:Srs n l cut ctx b lv pq pv pm pc px)(h:Srh n cut ctx size b lv pq pv pm pc px st g){c:Int}(hn:g.nx<=g'.nx)(hg:g'.h=g.h.put pq (srO n.grain size c b lv (.hsl pv 0 0 n.nodes.length none) (.hsl pc 0 0 cut.length none) (.hsl px 0 0 ctx.length none) pm)):Srh n cut ctx size b lv pq pv pm pc px (st.1,c) g':=by obtain⟨d1,d2,d3,k⟩:=hC.d1;exact⟨by rw[hg,aJ],by rw[hg,af _ _ _ d2,h.m],by rw[hg,af _ _ _ d3,h.c],by rw[hg,af _ _ _ k,h.x],by have:=h.nx;omega⟩
section
variable {d f size:Nat}{n:Net}{l:List Sp}{cut ctx vr ab:List Nat}{sz:Int}{b lv:AV}{pq pv pm pc px b1 b2:Nat}
def As(pq pv pm:Nat):Nat->Prop:=λi=>i=pv\/i=pq\/i=pm
def Kz(d:Nat)(n:Net)(l:List Sp)(cut ctx vr ab:List Nat)(sz:Int)(b lv:AV)(pq pv pm pc px b1 b2 f i:Nat):Prop :=
 ∀(w:List Int) (st:MSt) (g:G) (K:AV->G->Prop) (D:ADf->Prop),NH n cut ctx sz b lv pq pv pm pc px b1 b2 st w g->Wv n w->Wo vr ab w i->Mok st.1 ->
  (∀g',NH n cut ctx sz b lv pq pv pm pc px b1 b2 (S.TD n l vr sz f i w (ab[i]?.getD 0) st).2 w g'->Fx (As pq pv pm) g g'->K (ZJ (S.TD n l vr sz f i w (ab[i]?.getD 0) st).1) g') ->
  (j8 C0 (I C0) d (Mm b1 b2) [ZJ (i:Int)] g).sat K g D
theorem N0(hd:0<d)(hC:Srs n l cut ctx b lv pq pv pm pc px)(hL:LOk n l vr)(hb:(b1≠pv/\b1≠pq/\b1≠pm)/\b2≠pv/\b2≠pq/\b2≠pm)(hi:i<l.length)(hx:(S.sp l i).1≠-1):Kz d n l cut ctx vr ab sz b lv pq pv pm pc px b1 b2 (f+1) i:=by
 intro w st g K D hN hW O N kk;obtain⟨hS,I,k,z,j,hl2⟩:=hN;obtain⟨n1,n2,n3,R,T⟩:=hS.nx;obtain⟨o,E,F,H⟩:=hC.d1;obtain⟨M,C⟩:=hL.f i hi hx;obtain⟨a1,a2⟩:=yB hi;have J:=hC.ll;have rl:=λh=>(hC.sl.tree (h':=h) (Vu 0)).sps;have m:S.TD n l vr sz (f+1) i w (ab[i]?.getD 0) st=(S.UW n w (S.sp l i).1.toNat,st.1,w64 (st.2+1)):=by rw[S.TD,Vz hx]
 rw[m]at kk;obtain⟨v,B⟩:=Vy M;obtain⟨⟨xa,xb,xc⟩,A⟩:∃x,S.sp l i=x:=⟨_,rfl⟩;rw[A]at B C kk a2 hx;dsimp only at B C kk hx;subst B;rw[VU]at kk;have c1:¬((v:Int) = -1):=hx;have hq:=hS.q;rw[Jj];refine fX gi (by simp[bE]) ?_;simp only[bE];refine aL (P:=λt' df g'=>df=[]/\g'=g/\St t' [(0,ZJ (i:Int)),(1,ZK b1),(2,ZK b2)]) ?_ ?_
 ·simp only[_root_.Hx.sz,simprocAttr];simp[St,sx]
 rintro t df g ⟨rfl,rfl,h0,h1,h2,-⟩;refine aL (P:=λt' df g'=>df=[]/\g'.nx=g.nx+1/\g'.h.get g.nx=Y6 3 [cs3 ((v:Int),xb,xc)]/\Fx (λ_=>False) g g'/\St t' [(0,ZJ (i:Int)),(1,ZK b1),(2,ZK b2),(5,ZK g.nx)]) ?_ ?_
 ·simp only[_root_.Hx.sz,simprocAttr,h0,h1,k,hq,Sw,aI,rl,a1,a2,cs3];exact⟨(Fx.new _ _ _).put (.inr (Vu _)) _,by simp[St,sx,h0,h1,h2]⟩
 rintro t df g1 ⟨rfl,Q,kB,F1,h0,h1,h2,h5,-⟩;have L:=(F1.fr pq n1 id).trans hq;have p:g1.h.get b1=Y6 1 [[ZK pq]]:=by rw[F1.fr b1 j id,k]
 have sc:=Dp n.grain sz st.2 (w64 (st.2+1)) b lv (.hsl pv 0 0 n.nodes.length none) (.hsl pc 0 0 cut.length none) (.hsl px 0 0 ctx.length none) pm;have a:¬b1=pq:=hb.1.2.1;have r:¬g.nx=pq:=by omega
 simp only[_root_.Hx.sz,simprocAttr,h1,h5,kB,cs3,c1,p,L,aI,Tc,sc,a,r];have F2:Fx (As pq pv pm) g (g1.put pq (srO n.grain sz (w64 (st.2+1)) b lv (.hsl pv 0 0 n.nodes.length none) (.hsl pc 0 0 cut.length none) (.hsl px 0 0 ctx.length none) pm)):=(F1.mono λ_ h=>h.elim).put (.inl (.inr (.inl rfl))) _;have s:Srh n cut ctx sz b lv pq pv pm pc px st g1:=hS.fr F1.nx λi hi=>F1.fr i (by rcases hi with rfl|rfl|rfl|rfl<;>assumption) id;have u:=s.call (l:=l) (c:=w64 (st.2+1)) (g':=g1.put pq (srO n.grain sz (w64 (st.2+1)) b lv (.hsl pv 0 0 n.nodes.length none) (.hsl pc 0 0 cut.length none) (.hsl px 0 0 ctx.length none) pm)) hC (by simp) (by simp);have y:Vs n pv w (g1.put pq (srO n.grain sz (w64 (st.2+1)) b lv (.hsl pv 0 0 n.nodes.length none) (.hsl pc 0 0 cut.length none) (.hsl px 0 0 ctx.length none) pm)):=I.fr (by rw[G.put_h,af _ _ _ o,F1.fr pv n2 id]);refine P5 hd hC u hW y (by omega) λg' hS3 hV3 F3=>?_;simp only[_root_.Hx.sz,simprocAttr];have F23:=F2.trans (F3.mono λi hi _=>(.inl hi:As pq pv pm i));have e:∀i,i<g.nx->i≠pv->i≠pq->g'.h.get i=g.h.get i:=λi hi h1 h2=>by have:=F1.nx;rw[F3.fr i (by simp;omega) h1,G.put_h,af _ _ _ h2,F1.fr i hi id]
 exact kk g' ⟨hS3,hV3,by rw[e _ j hb.1.1 hb.1.2.1,k],by rw[e _ hl2 hb.2.1 hb.2.2.1,z],by have:=F23.nx;omega⟩ F23
structure JnH (n:Net) (cut ctx:List Nat) (sz:Int) (b lv:AV) (pq pv pm pc px b1 b2 i:Nat) (st:MSt) (w:List Int) (x:Sp) (k:Key) (g0:G) (B6:Nat) (t:T) (g:G):Prop where
 nh:NH n cut ctx sz b lv pq pv pm pc px b1 b2 st w g
 f:Fx (λ_=>False) g0 g
 b5:g.h.get g0.nx=Y6 3 [cs3 x]
 b6:g.h.get B6=kO9 k.1 k.2
 ln:g0.nx<B6/\B6<g.nx
 st:St t [(0,ZJ (i:Int)),(1,ZK b1),(2,ZK b2),(5,ZK g0.nx),(6,ZK B6)]
theorem Ql{R:SC}(hC:Srs n l cut ctx b lv pq pv pm pc px)(hi:i<l.length)(hx:(S.sp l i).1 = -1)(hN:NH n cut ctx sz b lv pq pv pm pc px b1 b2 st w g0)
  (ht:St t [(0,ZJ (i:Int)),(1,ZK b1),(2,ZK b2)])
  (fin:∀t g B6,JnH n cut ctx sz b lv pq pv pm pc px b1 b2 i st w (S.sp l i) ((i:Int),S.TU w (ctx[i]?.getD 0)) g0 B6 t g->wp C0 d none R Q t [] g) :
  wp C0 d none (sQ [oL 11 1,Zb 12 11,oF 13 2 12,oL 14 13,oM 15 0,Ze 16 3 14 15,Y9 17 3 16,o 5 (.alloc [ZJ 0,ZJ 0,ZJ 0]),Za 3 5 17] (ZI (sQ [oF 18 0 5,oL 19 18,Y8 20 .neq 19 (-1)] (ZH 20 (sQ [oL 21 1,Zb 22 21,oF 23 8 22,oL 24 23,oA 25 24,Zb 26 21,oF 27 8 26,Za 1 27 25] (sQ [oL 28 1,oF 29 0 5,oL 30 29,Zr 31 57 28 30,oM 4 31] (.ret))) (.skip))) (sQ [oL 32 1,oM 33 0,Zr 34 58 32 33,o 6 (.alloc [ZJ 0,ZJ 0,ZJ 0,ZJ 0,ZJ 0,ZJ 0,ZJ 0,ZJ 0,ZJ 0]),Za 9 6 34] R))) Q t [] g0:=by
 obtain⟨hS,s,a,m,c,hl2⟩:=hN;obtain⟨n1,n2,n3,y,z⟩:=hS.nx;obtain⟨h0,h1,h2,-⟩:=ht;obtain⟨a1,a2⟩:=yB hi;have rl:=λh=>(hC.sl.tree (h':=h) (Vu 0)).sps;obtain⟨⟨xa,xb,xc⟩,r⟩:∃x,S.sp l i=x:=⟨_,rfl⟩;rw[r]at a2 hx fin;dsimp only at hx;subst hx;have hq:=hS.q;refine aL (P:=λt' df g'=>df=[]/\g'.nx=g0.nx+1/\g'.h.get g0.nx=Y6 3 [cs3 (-1,xb,xc)]/\Fx (λ_=>False) g0 g'/\St t' [(0,ZJ (i:Int)),(1,ZK b1),(2,ZK b2),(5,ZK g0.nx)]) ?_ ?_
 ·simp only[_root_.Hx.sz,simprocAttr,h0,h1,a,hq,Sw,aI,rl,a1,a2,cs3];exact⟨(Fx.new _ _ _).put (.inr (Vu _)) _,by simp[St,sx,h0,h1,h2]⟩
 clear h0 h1 h2;rintro t df g1 ⟨rfl,v,kB,F1,h0,h1,h2,h5,-⟩;have e:g1.h.get b1=Y6 1 [[ZK pq]]:=by rw[F1.fr b1 c id,a]
 have f:Srh n cut ctx sz b lv pq pv pm pc px st g1:=hS.fr F1.nx λi hi=>F1.fr i (by rcases hi with rfl|rfl|rfl|rfl<;>assumption) id;have j:Vs n pv w g1:=s.fr (F1.fr pv n2 id);refine bB (P:=λt' df g'=>df=[]/\g'=g1/\St t' [(0,ZJ (i:Int)),(1,ZK b1),(2,ZK b2),(5,ZK g0.nx)]) ?_ ?_
 ·simp only[_root_.Hx.sz,simprocAttr,h5,kB,cs3];simp[St,sx,h0,h1,h2,h5]
 clear h0 h1 h2 h5;rintro t df g1 ⟨rfl,rfl,h0,h1,h2,h5,-⟩;refine aL (P:=λt' df g'=>df=[]/\∃B6,JnH n cut ctx sz b lv pq pv pm pc px b1 b2 i st w (-1,xb,xc) ((i:Int),S.TU w (ctx[i]?.getD 0)) g0 B6 t' g') ?_ ?_
 ·simp only[_root_.Hx.sz,simprocAttr,h0,h1,e];refine OY hC f j hi λg2 F2=>?_;have p:(S.TU w (ctx[i]?.getD 0)).length=8:=by simp[S.TU]
  have sa:=JH (i:=0) (l:=[0,0,0,0,0,0,0,0]) (k:=((i:Int),S.TU w (ctx[i]?.getD 0))) rfl p;have u:Y6 9 [[ZJ 0,ZJ 0,ZJ 0,ZJ 0,ZJ 0,ZJ 0,ZJ 0,ZJ 0,ZJ 0]]=kO9 0 [0,0,0,0,0,0,0,0]:=rfl;have F2n:=F2.nx;simp only[_root_.Hx.sz,simprocAttr,u,sa];have F3:Fx (λ_=>False) g0 ((g2.new (kO9 0 [0,0,0,0,0,0,0,0])).put g2.nx (kO9 (i:Int) (S.TU w (ctx[i]?.getD 0)))):=(F1.trans (F2.trans (Fx.new _ _ _))).put (.inr (by omega)) _;refine⟨g2.nx,⟨hS.fr F3.nx λi hi=>F3.fr i (by rcases hi with rfl|rfl|rfl|rfl<;>assumption) id,s.fr (F3.fr pv n2 id),by rw[F3.fr b1 c id,a],by rw[F3.fr b2 hl2 id,m],by have:=F3.nx;omega⟩,F3,?_,?_,by simp;omega,by simp[St,sx,h0,h1,h2,h5]⟩
  ·rw[G.put_h,af _ _ _ (by omega),G.new_h,af _ _ _ (by omega),F2.fr _ (by omega) id,kB]
  ·rw[G.put_h,aJ]
 rintro t df g2 ⟨rfl,B6,h⟩;exact fin t g2 B6 h
end
theorem MC(C:Cfg)(t:T)(g:G)(f:Od)(xs:List Od):(SO.foot C t g (.dyn f xs)).sr=[]:=by
 simp only[SO.foot]
 split
 ·rw[aa];split<;>rfl
 ·rfl
theorem tY{x y:Foot}(hx:x.wr=[])(hb:x.lk.big=false)(hs:x.lk.sr=[])(h:∀i∈y.wr,i ∉ x.lk.rd):bO x y=true:=by
 have k:meets y.wr []=false:=by simp[meets]
 have a:meets y.wr x.lk.rd=false:=by simp only[meets,List.any_eq_false];intro i hi hc;exact h i hi (X0.1 hc)
 simp only[bO,je,gc,hx,hb,hs,k,a,fst1,Xe,Yg,Yd,Yl,WA]
 split<;>rfl
section
variable {d f:Nat}{n:Net}{l:List Sp}{cut ctx vr ab:List Nat}{sz:Int}{b lv:AV}{pq pv pm pc px b1 b2:Nat}
def LJo(i b1 b2 B5 B6:Nat):List (Nat×AV):=[(0,ZJ (i:Int)),(1,ZK b1),(2,ZK b2),(5,ZK B5),(6,ZK B6)]
theorem JnH.key8(h:JnH n cut ctx sz b lv pq pv pm pc px b1 b2 i st w x k g0 B6 t g)(hk:K8 k):be (g.h.get B6) 0 0 true 9 0=.val (ck9 k):=by rw[h.b6];exact A5 hk
def zU:SC:=ZI (.quiet [oL 36 1,Zb 37 36,oF 38 6 37,oL 39 38,Y9 40 9 6,o 41 (.raw (.lookup 88 (.tmp 39) (.tmp 40) true)),oM 35 41,Y_ 42 35 0,Y_ 43 35 1,oM 7 42,oM 8 43]) (sQ [oM 44 8] (ZH 44 (sQ [oM 45 7,oM 4 45] (.ret)) (.skip)))
theorem NJ(hk:K8 k)(hM:Mok st.1)(h:JnH n cut ctx sz b lv pq pv pm pc px b1 b2 i st w x k g0 B6 t g)(hh:cK st.1 k=true)(fin:∀t,tat t 4=ZJ (mgt st.1 k)->Q .ret t [] g) :
  wp C0 d none zU Q t [] g:=by
 obtain⟨h0,h1,h2,h5,c,-⟩:=h.st;have e1:=h.nh.e1;have q:=h.nh.s.q;have m:=h.nh.s.m;have e:=h.key8 hk;have lk:=λt g h1 h2 h3=>NI (d:=d) (rd:=none) (t:=t) (g:=g) (a:=39) (b:=40) (id:=pm) hk hM h1 h2 h3;simp only[_root_.Hx.sz,simprocAttr,zU,h1,c,e1,q,QP,aI,e,lk,m,hh];exact fin _ (by simp[sx])
theorem P8(hk:K8 k)(hM:Mok st.1)(h:JnH n cut ctx sz b lv pq pv pm pc px b1 b2 i st w x k g0 B6 t g)(hh:cK st.1 k=false)(fin:∀t,St t (LJo i b1 b2 g0.nx B6)->Q .norm t [] g) :
  wp C0 d none zU Q t [] g:=by
 obtain⟨h0,h1,h2,h5,c,-⟩:=h.st;have e1:=h.nh.e1;have q:=h.nh.s.q;have m:=h.nh.s.m;have e:=h.key8 hk;have lk:=λt g h1 h2 h3=>NI (d:=d) (rd:=none) (t:=t) (g:=g) (a:=39) (b:=40) (id:=pm) hk hM h1 h2 h3;simp only[_root_.Hx.sz,simprocAttr,zU,h1,c,e1,q,QP,aI,e,lk,m,hh];exact fin _ (by simp[St,LJo,sx,h0,h1,h2,h5,c])
def QF(R:SC):SC:=sQ [oL 46 1,Zb 47 46,oF 48 8 47,oL 49 48,oA 50 49,Zb 51 46,oF 52 8 51,Za 1 52 50] (sQ [o 9 (.alloc [ZJ 0]),oz (.store 1 (.t 9) (qI 0))] R)
theorem Me{t0:T}{R:SC}(hC:Srs n l cut ctx b lv pq pv pm pc px)(hb:(b1≠pv/\b1≠pq/\b1≠pm)/\b2≠pv/\b2≠pq/\b2≠pm)(hpq:pq<g0.nx)(hb12:b1<g0.nx/\b2<g0.nx)(h:JnH n cut ctx sz b lv pq pv pm pc px b1 b2 i st w x k g0 B6 t0 g)(ht:St t (LJo i b1 b2 g0.nx B6))
  (fin:∀t g',g'.nx=g.nx+1->(∀j,j<g.nx->j≠pq->g'.h.get j=g.h.get j)->(∀j∈g'.lg,j∈g.lg\/j=pq\/j=g.nx)->NH n cut ctx sz b lv pq pv pm pc px b1 b2 (st.1,w64 (st.2+1)) w g'->g'.h.get g.nx=Y6 1 [[ZJ 0]]->St t ((9,ZK g.nx)::LJo i b1 b2 g0.nx B6)->wp C0 d none R Q t [] g') :
  wp C0 d none (QF R) Q t [] g:=by
 obtain⟨h0,h1,h2,h5,c,-⟩:=ht;have e1:=h.nh.e1;have q:=h.nh.s.q;obtain⟨n1,n2,n3,B,C⟩:=h.nh.s.nx;have sc:=Dp n.grain sz st.2 (w64 (st.2+1)) b lv (.hsl pv 0 0 n.nodes.length none) (.hsl pc 0 0 cut.length none) (.hsl px 0 0 ctx.length none) pm;refine aL (P:=λt' df g'=>df=[]/\g'=g.put pq (srO n.grain sz (w64 (st.2+1)) b lv (.hsl pv 0 0 n.nodes.length none) (.hsl pc 0 0 cut.length none) (.hsl px 0 0 ctx.length none) pm)/\St t' (LJo i b1 b2 g0.nx B6)) ?_ ?_
 ·simp only[_root_.Hx.sz,simprocAttr,h1,e1,q,Tc,aI,sc];simp[St,LJo,sx,h0,h1,h2,h5,c]
 clear h0 h1 h2 h5 c;rintro t df g1 ⟨rfl,a,h0,h1,h2,h5,c,-⟩;have o:g1.nx=g.nx:=by rw[a];simp
 have f1:∀j,j≠pq->g1.h.get j=g.h.get j:=λj hj=>by rw[a,G.put_h,af _ _ _ hj]
 have l1:∀j∈g1.lg,j∈g.lg\/j=pq:=λj hj=>by rw[a]at hj;simp at hj;exact hj.symm
 have m:Srh n cut ctx sz b lv pq pv pm pc px (st.1,w64 (st.2+1)) g1:=h.nh.s.call (l:=l) hC (by omega) (by rw[a];simp);clear a;refine aL (P:=λt' df g'=>df=[]/\g'.nx=g.nx+1/\(∀j,j<g.nx->g'.h.get j=g1.h.get j)/\(∀j∈g'.lg,j∈g1.lg\/j=g.nx)/\g'.h.get g.nx=Y6 1 [[ZJ 0]]/\St t' ((9,ZK g.nx)::LJo i b1 b2 g0.nx B6)) ?_ ?_
 ·simp only[_root_.Hx.sz,simprocAttr,o];refine⟨λj hj=>by simp[show ¬j=g.nx by omega],λj hj=>?_,by simp[St,LJo,sx,h0,h1,h2,h5,c]⟩;simp at hj;rcases hj with h|h|h
  ·exact .inr h
  ·exact .inr (by omega)
  ·exact .inl h
 clear h0 h1 h2 h5 c;rintro t df g2 ⟨rfl,p,f2,l2,A,ht⟩;obtain⟨e,r,u,y⟩:=hC.d1;have F0:=h.f;have z:=F0.nx;refine fin t g2 p (λj hj hp=>by rw[f2 j hj,f1 j hp]) (λj hj=>?_) ⟨m.fr (by omega) λj hj=>f2 j (by rcases hj with rfl|rfl|rfl|rfl<;>assumption),h.nh.v.fr (by rw[f2 _ n2,f1 _ e]),by rw[f2 _ h.nh.l.1,f1 _ hb.1.2.1,e1],by rw[f2 _ h.nh.l.2,f1 _ hb.2.2.1,h.nh.e2],by have:=h.nh.l;omega⟩ A ht;rcases l2 j hj with h|h
 ·rcases l1 j h with h|h
  ·exact .inl h
  ·exact .inr (.inl h)
 ·exact .inr (.inr h)
end
section
variable {d f:Nat}{n:Net}{l:List Sp}{cut ctx vr ab:List Nat}{sz:Int}{b lv:AV}{pq pv pm pc px b1 b2:Nat}
theorem NH.fr{st:MSt}{w:List Int}{g g':G}(h:NH n cut ctx sz b lv pq pv pm pc px b1 b2 st w g)(hn:g.nx<=g'.nx)(hf:∀j,j<g.nx->g'.h.get j=g.h.get j):NH n cut ctx sz b lv pq pv pm pc px b1 b2 st w g':=by obtain⟨n1,n2,n3,k,a⟩:=h.s.nx;exact⟨h.s.fr hn λj hj=>hf j (by rcases hj with rfl|rfl|rfl|rfl<;>assumption),h.v.fr (hf pv n2),by rw[hf _ h.l.1,h.e1],by rw[hf _ h.l.2,h.e2],by have:=h.l;omega⟩
theorem NH.set{g':G}(h:NH n cut ctx sz b lv pq pv pm pc px b1 b2 st w g)(hs:b2≠S0/\pv≠S0/\pq≠S0/\pm≠S0/\pc≠S0/\px≠S0/\b1≠S0)(hn:g.nx<=g'.nx)(hf:∀j,j≠S0->g'.h.get j=g.h.get j):NH n cut ctx sz b lv pq pv pm pc px b1 b2 st w g':=by obtain⟨s1,s2,s3,s4,a,c,k⟩:=hs;exact⟨h.s.fr hn λj hj=>hf j (by rcases hj with rfl|rfl|rfl|rfl<;>assumption),h.v.fr (hf pv s2),by rw[hf _ k,h.e1],by rw[hf _ s1,h.e2],by have:=h.l;omega⟩
theorem ST{B5 le ri:Nat}{s:Int}(hb5:(B5≠pv/\B5≠pq/\B5≠pm)/\S0≠pv/\S0≠pq/\S0≠pm)(hbs:b2≠S0/\B5≠S0/\pv≠S0/\pq≠S0/\pm≠S0/\pc≠S0/\px≠S0/\b1≠S0)
  (hN:NH n cut ctx sz b lv pq pv pm pc px b1 b2 st w g) (hW:Wv n w) (hM:Mok st.1) (ih1:Kz d n l cut ctx vr ab sz b lv pq pv pm pc px b1 b2 f le) (ih2:Kz d n l cut ctx vr ab sz b lv pq pv pm pc px b1 b2 f ri) (hO1:Wo vr ab w le) (hO2:Wo vr ab w ri)
  (k5:g.h.get B5=Y6 3 [cs3 (-1,(le:Int),(ri:Int))]) (k9:g.h.get S0=Y6 1 [[ZJ s]]) (hlt:B5<g.nx/\S0<g.nx)
  (h2:tat t 2=ZK b2) (h5:tat t 5=ZK B5) (h9:tat t 9=ZK S0) {p q:Int×MSt} (hp:p=S.TD n l vr sz f le w (ab[le]?.getD 0) st) (hq:q=S.TD n l vr sz f ri w (ab[ri]?.getD 0) p.2)
  (fin:∀t g',NH n cut ctx sz b lv pq pv pm pc px b1 b2 q.2 w g'->g'.h.get S0=Y6 1 [[ZJ (w64 (s+w64 (p.1*q.1)))]]->Fx (λi=>As pq pv pm i\/i=S0) g g'->Q .norm t [] g') :
  wp C0 d rd cF Q t [] g:=by
 obtain⟨⟨c1,E,F⟩,H,I,J⟩:=hb5;have r:¬As pq pv pm B5:=by rintro (h|h|h)<;>contradiction
 have k:¬As pq pv pm S0:=by rintro (h|h|h)<;>contradiction
 simp only[cF,Iz];refine aL (P:=λt' df g'=>df=[]/\tat t' 10=ZJ p.1/\NH n cut ctx sz b lv pq pv pm pc px b1 b2 p.2 w g'/\Fx (As pq pv pm) g g'/\St t' [(2,ZK b2),(5,ZK B5),(9,ZK S0)]) ?_ ?_
 ·have e2:=hN.e2;simp only[_root_.Hx.sz,simprocAttr,h2,e2,h5,k5,cs3];refine ih1 w st g _ _ hN hW hO1 hM λg' hN' F'=>?_;rw[<-hp]at hN' ⊢;simp only[_root_.Hx.sz,simprocAttr];exact⟨hN',F',by simp[St,sx,h2,h5,h9]⟩
 clear h2 h5 h9;rintro t df g1 ⟨rfl,o,a,F1,h2,h5,h9,-⟩;have F1n:=F1.nx;have e2:=a.e2;have v:g1.h.get B5=Y6 3 [cs3 (-1,(le:Int),(ri:Int))]:=by rw[F1.fr B5 hlt.1 r,k5]
 have e:g1.h.get S0=Y6 1 [[ZJ s]]:=by rw[F1.fr S0 hlt.2 k,k9]
 have u:Mok p.2.1:=by rw[hp];exact zQ _ _ _ _ _ hM
 simp only[_root_.Hx.sz,simprocAttr,sf,h2,e2,h5,v,cs3,h9,e,o];refine ih2 w p.2 _ _ _ (a.fr (by simp;omega) λj hj=>by simp) hW hO2 u λg2 hN2 F2=>?_;rw[<-hq]at hN2 ⊢;have F2n:g1.nx<=g2.nx:=by have:=F2.nx;simp at this;omega
 have f2:∀j,j<g1.nx->¬As pq pv pm j->g2.h.get j=g1.h.get j:=λj hj hA=>by have:=F2.fr j (by simp;omega) hA;simpa using this
 have l2:∀j∈g2.lg,As pq pv pm j\/g1.nx<=j:=λj hj=>by have:=F2.lg j hj;simp at this;exact this.imp id λh=>by omega
 have m:g2.h.get S0=Y6 1 [[ZJ s]]:=by rw[f2 S0 (by omega) k,e]
 simp only[_root_.Hx.sz,simprocAttr,sf,h9,m];refine⟨?_,?_⟩
 ·simp only[VJ,VN,VH,VE];refine aA (false::(Zm (true::(Zn (true::[]))))) [(0,5),(1,5)] (by simp[All2,ah,ay,MC]) (by decide) ?_;intro pp c x y hx z;simp only[VP,VG,Xh]at c;rcases c with rfl|rfl<;>(simp only[VZ,Wn,Wj]at hx z;subst hx;subst z;refine tY rfl rfl rfl ?_)
  ·intro i hi hc;simp[ah,cO]at hc;subst hc;rcases l2 _ hi with h|h
   ·exact k h
   ·omega
  ·intro i hi hc;simp[ay]at hc
 ·obtain⟨s1,s2,s3,s4,A,B,C,D⟩:=hbs;refine fin _ _ (hN2.set (S0:=S0) ⟨s1,s3,s4,A,B,C,D⟩ (by simp;omega) λj hj=>by simp[TA,hj]) (by simp[TA]) ⟨by simp;omega,λj hj hA=>?_,λj hj=>?_⟩
  ·have h1:¬As pq pv pm j:=λh=>hA (.inl h);have h2:¬j=S0:=λh=>hA (.inr h);simp[TA,h2,f2 j (by omega) h1,F1.fr j hj h1]
  ·simp at hj;rcases hj with rfl|hj|hj
   ·exact .inr (.inl (.inr rfl))
   ·rcases l2 j hj with h|h
    ·exact .inr (.inl (.inl h))
    ·exact .inr (.inr (by omega))
   ·rcases F1.lg j hj with h|h|h
    ·exact .inl h
    ·exact .inr (.inl (.inl h))
    ·exact .inr (.inr h)
end
section
variable {d f:Nat}{n:Net}{l:List Sp}{cut ctx vr ab:List Nat}{sz:Int}{b lv:AV}{pq pv pm pc px b1 b2:Nat}
def NN(k:Key)(r sz:Int)(L:Mem):Mem:=if (L.length:Int)<sz then mst k r L else L
theorem NC{pm:Nat}(h:g.h.get pm=.map (uC L)):dH .map (.hmap pm) g=.val (ZJ (L.length:Int)):=by show (match g.get pm with|.map es=>OR.val (ZJ (.ofNat (bC es)))|_=>.fail)=_;rw[G.get_eq,h];simp[aF,uC]
theorem NH.mem{g':G}(hC:Srs n l cut ctx b lv pq pv pm pc px)(hb:(b1≠pv/\b1≠pq/\b1≠pm)/\b2≠pv/\b2≠pq/\b2≠pm)(h:NH n cut ctx sz b lv pq pv pm pc px b1 b2 st w g)(hn:g.nx<=g'.nx)(hf:∀j,j≠pm->g'.h.get j=g.h.get j)(hm:g'.h.get pm=.map (uC L)):NH n cut ctx sz b lv pq pv pm pc px b1 b2 (L,st.2) w g':=by obtain⟨f,k,i,m⟩:=hC.d1;obtain⟨a,o,p⟩:=hC.d2;obtain⟨d,e⟩:=hC.d3;exact⟨⟨by rw[hf _ (WD k),h.s.q],hm,by rw[hf _ d,h.s.c],by rw[hf _ e,h.s.x],by have:=h.s.nx;omega⟩,h.v.fr (hf _ (WD a)),by rw[hf _ hb.1.2.2,h.e1],by rw[hf _ hb.2.2.2,h.e2],by have:=h.l;omega⟩
theorem SU{r:Int}{df:List ADf}(hC:Srs n l cut ctx b lv pq pv pm pc px)(hb:(b1≠pv/\b1≠pq/\b1≠pm)/\b2≠pv/\b2≠pq/\b2≠pm)(hk:K8 k)(hM:Mok st.1)(hN:NH n cut ctx sz b lv pq pv pm pc px b1 b2 st w g)
  (k6:g.h.get B6=kO9 k.1 k.2) (k9:g.h.get S0=Y6 1 [[ZJ r]]) (hS0:S0≠pm) (h1:tat t 1=ZK b1) (h6:tat t 6=ZK B6) (h9:tat t 9=ZK S0)
  (fin:∀t g',tat t 4=ZJ r->NH n cut ctx sz b lv pq pv pm pc px b1 b2 (NN k r sz st.1,st.2) w g'->Fx (λi=>i=pm) g g'->(∀j,j≠pm->g'.h.get j=g.h.get j)->Q .ret t df g') :
  wp C0 d none cG Q t df g:=by
 have e1:=hN.e1;have q:=hN.s.q;have m:=hN.s.m;have F:be (g.h.get B6) 0 0 true 9 0=.val (ck9 k):=by rw[k6];exact A5 hk
 obtain⟨u,v,y,z⟩:=hC.d1;obtain⟨A,B,C⟩:=hC.d2;obtain⟨D,E⟩:=hC.d3;have lm:=λ(g':G) (h:g'.h.get pm=.map (uC st.1))=>NC h;simp only[cG];refine bB (P:=λt' df' g'=>df'=df/\tat t' 9=ZK S0/\NH n cut ctx sz b lv pq pv pm pc px b1 b2 (NN k r sz st.1,st.2) w g'/\Fx (λi=>i=pm) g g'/\(∀j,j≠pm->g'.h.get j=g.h.get j)) ?_ ?_
 ·refine bB (P:=λt' df' g'=>df'=df/\g'=g/\tat t' 84=.bool (decide ((st.1.length:Int)<sz))/\St t' [(1,ZK b1),(6,ZK B6),(9,ZK S0)]) ?_ ?_
  ·simp only[_root_.Hx.sz,simprocAttr,h1,e1,q,QP,Tw,aI,lm,m];simp[St,sx,h1,h6,h9]
  clear h1 h6 h9;rintro t df g ⟨rfl,rfl,e,h1,h6,h9,-⟩
  by_cases c:(st.1.length:Int)<sz
  ·have f:NN k r sz st.1=mst k r st.1:=VC c;rw[f];rw[Wz c]at e;have lk:=λt g h1 h2 h3 h4=>Tg (d:=d) (rd:=none) (t:=t) (g:=g) (a:=88) (b:=89) (c:=90) (id:=pm) (x:=r) hk hM h1 h2 h3 h4;simp only[_root_.Hx.sz,simprocAttr,sf,e,h1,h6,h9,e1,q,QP,aI,F,k9,lk,m,K1];refine⟨?_,?_⟩
   ·simp only[VJ,VN,VH,VE];exact aA (Zn (Zm (true::[]))) [] (by simp[All2,ah,ay]) (by decide) (by simp)
   ·refine⟨hN.mem hC hb (by simp;omega) (λj hj=>by simp[TA,hj]) (by simp[TA]),⟨by simp;omega,λj hj hp=>by simp[TA,hp],λj hj=>?_⟩,λj hj=>by simp[hj]⟩;simp at hj;rcases hj with rfl|hj
    ·exact .inr (.inl rfl)
    ·exact .inl hj
  ·have f:NN k r sz st.1=st.1:=Vz c;rw[f];rw[We c]at e;simp only[_root_.Hx.sz,simprocAttr,e];exact⟨h9,hN,Fx.refl _ _,by simp⟩
 clear h1 h6 h9;rintro t df g' ⟨rfl,h9,o,F',hf⟩;have p:g'.h.get S0=Y6 1 [[ZJ r]]:=by rw[hf S0 hS0,k9]
 simp only[_root_.Hx.sz,simprocAttr,fd,h9,p];exact fin _ _ (by simp[sx]) o F' hf
end
section
variable {d f:Nat}{n:Net}{l:List Sp}{cut ctx vr ab:List Nat}{sz:Int}{b lv:AV}{pq pv pm pc px b1 b2:Nat}
theorem ei(a s v:Nat):(S.TF a s).testBit v=(a.testBit v&&!s.testBit v):=by rw[S.TF,Nat.testBit_xor,Xj];cases a.testBit v<;>cases s.testBit v<;>rfl
theorem zH(h:a<2 ^ m):S.TF a s<2 ^ m:=ym λv hv=>by rw[ei,Vx]at hv;exact He h hv.1
theorem cH{vr:List Nat}(h:∀x∈vr,x<2 ^ m)(i:Nat):vr[i]?.getD 0<2 ^ m:=by
 cases hg:vr[i]? with
 |none=>simpa using YS m
 |some x=>exact h x (VA hg)
theorem SN{q:Nat}(h1:q≠pv)(h2:q≠pq)(h3:q≠pm):¬As pq pv pm q:=by rintro (h|h|h)<;>contradiction
theorem NZ(hC:Srs n l cut ctx b lv pq pv pm pc px)(hL:LOk n l vr)(hT:Sta l vr cut ctx ab)(hb:(b1≠pv/\b1≠pq/\b1≠pm)/\b2≠pv/\b2≠pq/\b2≠pm)(hi:i<l.length)(hx:(S.sp l i).1 = -1)
  (ih:∀j,j<i->Kz d n l cut ctx vr ab sz b lv pq pv pm pc px b1 b2 f j):Kz d n l cut ctx vr ab sz b lv pq pv pm pc px b1 b2 (f+1) i:=by
 intro w st g0 K D hN hW hO hM kk;have hr:=hC.nr;have kq:=hr.l2;obtain⟨y1,y2,y3,y4⟩:=hL.j i hi hx;have t1:=hT.s1 i hi;have J:=hT.s2 i hi hx;have N:=hT.s3 i hi hx;have O:=hT.s4 i hi hx;have hu:=hL.u i hi hx;obtain⟨⟨xa,xb,xc⟩,A⟩:∃x,S.sp l i=x:=⟨_,rfl⟩;rw[A]at y1 y2 y3 y4 J N O hu;dsimp only at y1 y2 y3 y4 J N O hu;obtain⟨le,rfl⟩:=Vy y1;obtain⟨ri,rfl⟩:=Vy y3;rw[VU]at J N O hu;rw[VU]at J hu;have kf:xa = -1:=by rw[A]at hx;exact hx
 subst kf;obtain⟨c,hc⟩:∃c,c=cut[i]?.getD 0:=⟨_,rfl⟩;rw[<-hc]at J N O;obtain⟨k,hk⟩:∃k:Key,k=((i:Int),S.TU w (ctx[i]?.getD 0)):=⟨_,rfl⟩;have F:K8 k:=by rw[hk];exact Nw _ _ _
 have k8:((i:Int),S.TU w (vr[i]?.getD 0 &&& ab[i]?.getD 0))=k:=by rw[hk,t1]
 have hcl:c<2 ^ n.nodes.length:=by rw[hc];exact cH hC.cb i
 have o:S.TD n l vr sz (f+1) i w (ab[i]?.getD 0) st=if cK st.1 k then (mgt st.1 k,st) else
   ((S.Us (S.TD n l vr sz f) n w (S.Tz n c) le ri (ab[i]?.getD 0 ||| c) (st.1,w64 (st.2+1)) (S.TS n (S.Tz n c))).1,
     NN k (S.Us (S.TD n l vr sz f) n w (S.Tz n c) le ri (ab[i]?.getD 0 ||| c) (st.1,w64 (st.2+1)) (S.TS n (S.Tz n c))).1 sz (S.Us (S.TD n l vr sz f) n w (S.Tz n c) le ri (ab[i]?.getD 0 ||| c) (st.1,w64 (st.2+1)) (S.TS n (S.Tz n c))).2.1,
     (S.Us (S.TD n l vr sz f) n w (S.Tz n c) le ri (ab[i]?.getD 0 ||| c) (st.1,w64 (st.2+1)) (S.TS n (S.Tz n c))).2.2):=by
  rw[S.TD,VC hx,k8];simp only[A,VU];rw[<-J]
  rfl
 obtain⟨n1,n2,n3,n4,n5⟩:=hN.s.nx;obtain⟨Q,kn,ko,kp⟩:=hC.d1;obtain⟨h8,ha,hd⟩:=hC.d2;have Y:=hN.l;rw[Jj];refine fX gi (by simp[bE]) ?_;simp only[bE];refine aL (P:=λt' df g'=>df=[]/\g'=g0/\St t' [(0,ZJ (i:Int)),(1,ZK b1),(2,ZK b2)]) ?_ ?_
 ·simp only[_root_.Hx.sz,simprocAttr];simp[St,sx]
 rintro t df g0 ⟨rfl,rfl,ht⟩;refine Ql hC hi hx hN ht λt g B6 hJ=>?_;rw[A,<-hk]at hJ;have z:=hJ.f;have kl:=z.nx;rw[jl];cases hh:cK st.1 k with
 | true =>
  rw[hh,VC rfl]at o;rw[o]at kk;refine NJ F hM hJ hh λt h4=>?_;simp only[_root_.Hx.sz,simprocAttr,h4];exact kk g hJ.nh (z.mono λ_ h=>h.elim)
 | false =>
  rw[hh,Vz (by simp)]at o;rw[o]at kk;obtain⟨B5,ho⟩:∃B5,B5=g0.nx:=⟨_,rfl⟩;have E:=hJ.b5;have X:=hJ.b6;have ka:=hJ.ln;refine P8 F hM hJ hh λt ht=>?_;rw[t9];refine Me hC hb n1 Y hJ ht λt g3 n3' f3 l3 hN3 k9 ht=>?_;rw[<-ho]at E ka ht;clear hJ;obtain⟨h9,h0,h1,h2,h5,L,-⟩:=ht;have F3:Fx (As pq pv pm) g0 g3:=⟨by omega,λj a hA=>by rw[f3 j (by omega) (λe=>hA (.inr (.inl e))),z.fr j a id],λj a=>by
   rcases l3 j a with h|h|h
   ·rcases z.lg j h with h|h|h
    ·exact .inl h
    ·exact h.elim
    ·exact .inr (.inr h)
   ·exact .inr (.inl (.inr (.inl h)))
   ·exact .inr (.inr (by omega))⟩
  have k5:g3.h.get B5=Y6 3 [cs3 (-1,(le:Int),(ri:Int))]:=by rw[f3 _ (by omega) (by omega),E]
  have k6:g3.h.get B6=kO9 k.1 k.2:=by rw[f3 _ (by omega) (by omega),X]
  obtain⟨S0,k1⟩:∃S0,S0=g.nx:=⟨_,rfl⟩;rw[<-k1]at k9 h9;clear f3 l3 E X;have e1:=hN3.e1;have q3:=hN3.s.q;obtain⟨x1,x2⟩:=gK (l:=cut) (i:=i) (by rw[hC.cl];exact hi);rw[<-hc]at x2;have rx:=cR (sz:=1) (m:=cut.length) hN3.s.c (by simp);have U:B6<g3.nx:=by omega
  have km:S0<g3.nx:=by omega
  have T:B5<g3.nx:=by omega
  obtain⟨rr,r⟩:∃rr:Nat->Int×MSt,rr=S.Us (S.TD n l vr sz f) n w (S.Tz n c) le ri (ab[i]?.getD 0 ||| c) (st.1,w64 (st.2+1)):=⟨_,rfl⟩;rw[<-r]at kk;have rr0:rr 0=(0,(st.1,w64 (st.2+1))):=by rw[r];rfl
  refine bB (P:=λt df g'=>∃M,df=[.mark M]/\g3.nx<=M/\M<g'.nx/\g'.h.get M=.dfr true/\NH n cut ctx sz b lv pq pv pm pc px b1 b2 (rr (S.TS n (S.Tz n c))).2 w g'/\g'.h.get B6=kO9 k.1 k.2/\g'.h.get S0=Y6 1 [[ZJ (rr (S.TS n (S.Tz n c))).1]]/\Fx (As pq pv pm) g0 g'/\St t [(1,ZK b1),(6,ZK B6),(9,ZK S0)]) ?_ ?_
  rotate_left
  ·rintro t df g5 ⟨M,rfl,m1,m2,m3,hw,ki,kj,F5,h1,L,h9,-⟩;have hs:Mok (rr (S.TS n (S.Tz n c))).2.1:=by rw[r];exact zR (rec:=S.TD n l vr sz f) (st:=(st.1,w64 (st.2+1))) (λi w ab st h=>zQ f i w ab st h) hM _
   have kr:pm<g3.nx:=by omega
   refine SU hC hb F hs hw ki kj (by omega) h1 L h9 λt g6 h4 C F6 f6=>?_;have F6n:=F6.nx;simp only[_root_.Hx.sz,simprocAttr];refine pG (by rw[f6 M (by omega),m3]) ?_;simp only[_root_.Hx.sz,simprocAttr,h4];refine kk _ (C.set (S0:=M) (by omega) (by simp) λj a=>by rw[G.put_h,af _ _ _ a]) ?_;exact ((F5.trans (F6.mono λi hi _=>(.inr (.inr hi):As pq pv pm i)))).put (.inr (by omega)) _
  refine bB (P:=λt df g'=>df=[]/\∃a1,g3.nx<=a1/\a1+1<g'.nx/\g'.h.get a1=Y6 1 [[ZK pq]]/\g'.h.get (a1+1)=Y6 1 [[ZL (c:Int)]]/\(∀j,j<g3.nx->g'.h.get j=g3.h.get j)/\(∀j∈g'.lg,j∈g3.lg\/g3.nx<=j)/\tat t 61=.clo 85 [] [ZK a1,ZK (a1+1)]/\St t ((9,ZK S0)::LJo i b1 b2 B5 B6)) ?_ ?_
  ·simp only[_root_.Hx.sz,simprocAttr,sf,h0,h1,e1,q3,Sx,aI,rx,x1,x2,cu];refine CD ?_;simp only[_root_.Hx.sz,simprocAttr,sf,lD];refine⟨?_,g3.nx+1+1+1+1+1+1+1+1,by omega,by omega,by simp,by simp,λj a=>?_,λj a=>?_,?_⟩
   ·simp only[VJ,VN,VH,VE];exact aA (Zl (true::[])) [] (by simp[All2,ah,ay,bL]) (by decide) (by simp)
   ·rw[Vz (by omega),Vz (by omega)]
   ·simp at a;rcases a with h|h|h
    ·exact .inr (by omega)
    ·exact .inr (by omega)
    ·exact .inl h
   ·simp[St,LJo,sx,h0,h1,h2,h5,L,h9]
  clear h0 h1 h2 h5 L h9;rintro t df g4 ⟨rfl,a1,a2,a3,a4,a5,R,l4,he,h9,h0,h1,h2,h5,L,-⟩;have hv:∀j,Mok (rr j).2.1:=λj=>by rw[r];exact zR (rec:=S.TD n l vr sz f) (st:=(st.1,w64 (st.2+1))) (λi w ab st h=>zQ f i w ab st h) hM _
  have rrs:∀j,rr (j+1)=(w64 ((rr j).1+w64 ((S.TD n l vr sz f le (S.TE n w (S.Tz n c) j) (ab[le]?.getD 0) (rr j).2).1*(S.TD n l vr sz f ri (S.TE n w (S.Tz n c) j) (ab[ri]?.getD 0) (S.TD n l vr sz f le (S.TE n w (S.Tz n c) j) (ab[le]?.getD 0) (rr j).2).2).1)),(S.TD n l vr sz f ri (S.TE n w (S.Tz n c) j) (ab[ri]?.getD 0) (S.TD n l vr sz f le (S.TE n w (S.Tz n c) j) (ab[le]?.getD 0) (rr j).2).2).2):=λj=>by rw[r,N,O];rfl
  have p:=hN3.fr (g':=g4) (by omega) R;have F4:Fx (As pq pv pm) g0 g4:=⟨by omega,λj a hA=>by rw[R j (by omega),F3.fr j a hA],λj a=>by
   rcases l4 j a with h|h
   ·exact F3.lg j h
   ·exact .inr (.inr (by omega))⟩
  have kc:b2≠S0/\B5≠S0/\pv≠S0/\pq≠S0/\pm≠S0/\pc≠S0/\px≠S0/\b1≠S0:=by omega
  have W:(B5≠pv/\B5≠pq/\B5≠pm)/\S0≠pv/\S0≠pq/\S0≠pm:=by omega
  have kb:∀q,q=a1\/q=a1+1\/q=B5\/q=B6\/q=b1\/q=b2->¬As pq pv pm q/\q≠S0/\q<g4.nx:=by rintro q (rfl|rfl|rfl|rfl|rfl|rfl)<;>exact⟨SN (by omega) (by omega) (by omega),by omega,by omega⟩
  have V:∀(x j:Nat),x=le\/x=ri->Wo vr ab (S.TE n w (S.Tz n c) j) x:=by
   intro x j h7 v Z B;have k4:ab[x]?.getD 0=ab[i]?.getD 0 ||| c:=by rcases h7 with rfl|rfl;exact N;exact O
   rw[k4,dJ,Bool.or_eq_false_iff]at B;have kd:(vr[i]?.getD 0).testBit v=true:=by
    rw[hu,dJ,Wh];rcases h7 with rfl|rfl
    ·exact .inl Z
    ·exact .inr Z
   rw[xg]
   ·exact hO v kd B.1
   ·intro hm;have:=(lF.1 hm).2;rw[this]at B;exact absurd B.2 (by simp)
  simp only[_root_.Hx.sz,simprocAttr,fc];refine J6 (b1:=a1) (b2:=a1+1) (pq:=pq) (pv:=pv) (pm:=pm) (s:=c) (size:=sz) (w:=w) (b:=b) (lv:=lv) (cv:=.hsl pc 0 0 cut.length none) (xv:=.hsl px 0 0 ctx.length none) hr hC.nb hcl he (by decide) ⟨by omega,by omega,by omega⟩ (λu hu2=>?_)
   (λj g'=>Srh n cut ctx sz b lv pq pv pm pc px (rr j).2 g'/\(∀q,q=a1\/q=a1+1\/q=B5\/q=B6\/q=b1\/q=b2->g'.h.get q=g4.h.get q)/\g'.h.get S0=Y6 1 [[ZJ (rr j).1]]/\Fx (As pq pv pm) g0 g') ?_ ⟨by omega,by omega,WD Q,by omega⟩ ?_ ⟨by rw[rr0];exact p.s,λ_ _=>rfl,by rw[R _ (by omega),k9,rr0],F4⟩ p.v ?_ ?_
  ·have H:=(lF.1 hu2).2;rw[J,ei,Vx,Wl,Xj,Vx]at H;exact hO u (by rw[hu,dJ,Wh];exact .inl H.1.1) H.2
  ·rintro j g' ⟨I,q2,q3,y⟩;exact⟨by rw[q2 _ (.inl rfl),a4],by rw[q2 _ (.inr (.inl rfl)),a5],_,I.q⟩
  ·rintro j ga gb hn hf hl ⟨I,q2,q3,y⟩;refine⟨I.fr hn λi hi=>?_,λq hq=>by rw[hf q (by omega) (by omega),q2 q hq],by rw[hf _ (by omega) (by omega),q3],⟨by have:=y.nx;omega,λi hi hp=>by rw[hf i (by omega) (λe=>hp (.inl e)),y.fr i hi hp],λi hi=>?_⟩⟩
   ·rcases hi with rfl|rfl|rfl|rfl
    ·exact hf _ (by omega) (WD Q)
    ·exact hf _ (by omega) h8
    ·exact hf _ (by omega) ha
    ·exact hf _ (by omega) hd
   ·rcases hl i hi with h|h|h
    ·exact y.lg i h
    ·exact .inr (.inl (.inl h))
    ·exact .inr (.inr (by omega))
  ·rintro j ga a ⟨I,q2,q3,y⟩ k3 hn;have hy:NH n cut ctx sz b lv pq pv pm pc px b1 b2 (rr j).2 (S.TE n w (S.Tz n c) j) ga:=⟨I,k3,by rw[q2 _ (by omega),p.e1],by rw[q2 _ (by omega),p.e2],by have:=y.nx;omega⟩;refine ST (B5:=B5) (S0:=S0) (le:=le) (ri:=ri) (st:=(rr j).2) (s:=(rr j).1) W kc hy (EL hr hW c j) (hv j) (ih le (by omega)) (ih ri (by omega)) (V le j (.inl rfl)) (V ri j (.inr rfl)) (by rw[q2 _ (by omega),R _ T,k5]) q3 ⟨by omega,by omega⟩ (by simp[sx,h2]) (by simp[sx,h5]) (by simp[sx,h9]) rfl rfl λt' gb hNb k9b Fb=>?_;have Fbn:=Fb.nx;have fb:∀q,q<ga.nx->¬As pq pv pm q->q≠S0->gb.h.get q=ga.h.get q:=λq h1 h2 h3=>Fb.fr q h1 λh=>h.elim h2 h3;have hg:∀q,As pq pv pm q->q<g0.nx:=λq hq=>by rcases hq with rfl|rfl|rfl<;>assumption
   refine⟨rfl,rfl,Fbn,λq h1 h2=>fb q h2 (λh=>by have:=hg q h;omega) (by omega),⟨by rw[rrs];exact hNb.s,λq hq=>?_,by rw[rrs];exact k9b,⟨by omega,λq hq hA=>by rw[fb q (by omega) hA (by omega),y.fr q hq hA],λq hq=>?_⟩⟩,hNb.v⟩
   ·obtain⟨w1,w2,w3⟩:=kb q hq;rw[fb q (by omega) w1 w2,q2 q hq]
   ·rcases Fb.lg q hq with h| (h|h)|h
    ·exact y.lg q h
    ·exact .inr (.inl h)
    ·exact .inr (.inr (by omega))
    ·exact .inr (.inr (by omega))
  ·rintro g' ⟨I,q2,q3,y⟩ k2 hn k7;simp only[_root_.Hx.sz,simprocAttr];have C:NH n cut ctx sz b lv pq pv pm pc px b1 b2 (rr (S.TS n (S.Tz n c))).2 w g':=⟨I,k2,by rw[q2 _ (by omega),p.e1],by rw[q2 _ (by omega),p.e2],by have:=y.nx;omega⟩;exact⟨_,rfl,by omega,by omega,k7,C,by rw[q2 _ (by omega),R _ U,k6],q3,y,by simp[St,h1,L,h9]⟩
theorem Sf(hd:0<d)(hC:Srs n l cut ctx b lv pq pv pm pc px)(hL:LOk n l vr)(hT:Sta l vr cut ctx ab)(hb:(b1≠pv/\b1≠pq/\b1≠pm)/\b2≠pv/\b2≠pq/\b2≠pm):∀f i,i<f->i<l.length->Kz d n l cut ctx vr ab sz b lv pq pv pm pc px b1 b2 f i:=by
 intro f
 induction f with
 |zero=>intro i h;omega
 | succ f ihf =>
  intro i h hi
  by_cases hx:(S.sp l i).1 = -1
  ·exact NZ hC hL hT hb hi hx λj hj=>ihf j (by omega) (by omega)
  ·exact N0 hd hC hL hb hi hx
theorem QE(hd:0<d)(hC:Srs n l cut ctx b lv pq pv pm pc px)(hL:LOk n l vr)(hT:Sta l vr cut ctx ab)(hl:0<l.length)(hS:Srh n cut ctx sz b lv pq pv pm pc px ([],0) g)(hW:Wv n w)(hV:Vs n pv w g)(hO:Wo vr ab w (l.length - 1))
  (kk:∀g',Srh n cut ctx sz b lv pq pv pm pc px (S.TD n l vr sz l.length (l.length - 1) w 0 ([],0)).2 g'->Fx (As pq pv pm) g g'->K (ZJ (S.TD n l vr sz l.length (l.length - 1) w 0 ([],0)).1) g') :
  (am C0 d 28 [ZK pq] g).sat K g D:=by
 obtain⟨n1,n2,n3,v,x⟩:=hS.nx;have o:=hC.ll;rw[nG];refine fX pH (by simp[ej]) ?_;have f:∀g:G,Ah (ZK pq) g=.upd (ZK g.nx) (g.new (Y6 1 [[ZK pq]])):=λg=>rfl;have m:∀(g:G) (a b:Nat),ch (Y6 1 [[.nilf]]) g b 0 0 1 0 (.clo 56 [] [ZK a,ZK b])=.upd .undef (g.put b (Y6 1 [[Mm a b]])):=λg a b=>by
  rw[bf 1 _ 0 false g b 0 1 0 _ rfl rfl]
  rfl
 simp only[ej];refine aL (P:=λt' df g'=>df=[]/\g'.nx=g.nx+1/\g'.h.get g.nx=Y6 1 [[ZK pq]]/\Fx (λ_=>False) g g'/\St t' [(1,ZK g.nx)]) ?_ ?_
 ·simp only[_root_.Hx.sz,simprocAttr,f];exact⟨Fx.new _ _ _,by simp[St,sx]⟩
 rintro t df g1 ⟨rfl,r,kB,F1,h1,-⟩;simp only[gQ];refine aL (P:=λt' df g'=>df=[]/\g'.nx=g.nx+2/\g'.h.get g.nx=Y6 1 [[ZK pq]]/\g'.h.get (g.nx+1)=Y6 1 [[.nilf]]/\Fx (λ_=>False) g g'/\St t' [(1,ZK g.nx),(3,ZK (g.nx+1))]) ?_ ?_
 ·simp only[_root_.Hx.sz,simprocAttr,r];exact⟨by simp[kB],F1.trans (Fx.new _ _ _),by simp[St,sx,h1]⟩
 clear h1;rintro t df g2 ⟨rfl,k2,kB2,kB12,F2,h1,k,-⟩;refine aL (P:=λt' df g'=>df=[]/\g'.nx=g.nx+2/\g'.h.get g.nx=Y6 1 [[ZK pq]]/\g'.h.get (g.nx+1)=Y6 1 [[Mm g.nx (g.nx+1)]]/\Fx (λ_=>False) g g'/\St t' [(1,ZK g.nx),(3,ZK (g.nx+1))]) ?_ ?_
 ·simp only[_root_.Hx.sz,simprocAttr,h1,k,kB12,m];exact⟨k2,by simp[kB2],F2.put (.inr (by omega)) _,by simp[St,sx,h1,k]⟩
 clear h1 k;rintro t df g3 ⟨rfl,u,kB3,kB13,F3,h1,k,-⟩;have c:Srh n cut ctx sz b lv pq pv pm pc px ([],0) g3:=hS.fr F3.nx λi hi=>F3.fr i (by rcases hi with rfl|rfl|rfl|rfl<;>assumption) id;have e:Vs n pv w g3:=hV.fr (F3.fr pv n2 id);have q3:=c.q;have lvl:∀g:G,dH .slice lv g=.val (ZJ (l.length:Int)):=λg=>hC.sl.len g;have w1:IntKind.wrap .i64 ((l.length:Int) - 1)=((l.length - 1:Nat):Int):=by rw[ap (by omega) (by omega)];omega
 have hb:(g.nx≠pv/\g.nx≠pq/\g.nx≠pm)/\g.nx+1≠pv/\g.nx+1≠pq/\g.nx+1≠pm:=by omega
 simp only[_root_.Hx.sz,simprocAttr,sf,h1,k,kB3,kB13,q3,Sw,aI,lvl,w1];refine Sf hd hC hL hT hb l.length (l.length - 1) (by omega) (by omega) w ([],0) _ _ _ (NH.fr ⟨c,e,kB3,kB13,by omega⟩ (by simp;omega) λj hj=>by simp) hW hO (λp hp=>by simp at hp) λg4 hN4 F4=>?_;have e0:ab[l.length - 1]?.getD 0=0:=hT.s0;rw[e0]at hN4 ⊢;simp only[_root_.Hx.sz,simprocAttr,sf];have F4n:g3.nx<=g4.nx:=by have:=F4.nx;simp at this;omega
 refine⟨?_,?_⟩
 ·simp only[VJ,VN,VH,VE];exact aA (false::(Zn (Zm (true::(false::[]))))) [] (by simp[All2,ah,ay,MC]) (by decide) (by simp)
 ·refine kk _ (hN4.s.fr (by simp;omega) λi hi=>by simp) ⟨by simp;omega,λj hj hA=>?_,λj hj=>?_⟩
  ·have:=F4.fr j (by simp;omega) hA;simp at this;simp[this,F3.fr j hj id]
  ·simp at hj;rcases hj with h|h
   ·have:=F4.lg j h;simp at this;rcases this with h|h
    ·exact .inr (.inl h)
    ·exact .inr (.inr (by omega))
   ·exact (F3.lg j h).imp id λh=>h.elim False.elim .inr
end
theorem qB{id:Nat}{x:Nat}{lo:Bool}(h:g.h.get id=.cells 1 (V.map cu) 0 lo false)(hi:i<V.length):jV 1 (eJ 1 (.hsl id 0 0 m none) i 0) (ZL (x:Int)) g=.upd .undef (g.put id (.cells 1 ((V.set i x).map cu) 0 lo false)):=by obtain⟨-,hr⟩:=gK hi;simp only[eJ,WE];exact (rI (n:=1) (off:=0) (ep:=0) h hr rfl rfl rfl (row':=cu x) rfl).trans (by rw[Xa])
def lR(ev lv:AV)(pq iv ia m:Nat):List (Nat×AV):=[(1,ev),(2,lv),(9,ZK pq),(10,.hsl iv 0 0 m none),(11,.hsl ia 0 0 m none)]
theorem S2{k iv ia:Nat}{fam:List Int}{ev fv ll:AV}(hfm:∀p∈fam,0<=p/\p<(n.nodes.length:Int))(hfl:fam.length<=9)(hn8:n.nodes.length<=8)(he:∀h,SlR NoP k h e ev)(hel:e.length=n.nodes.length)
  (hV:g.h.get iv=Y6 1 (V.map cu)) (hm:m=V.length) (hi:i<V.length) (hFv:∀g':G,(∀j,j≠iv->g'.h.get j=g.h.get j)->ak g'.h 1 fv=some (fam.map ci)) (hz:V[i]?.getD 0=0)
  (ht:St t (lR ev lv pq iv ia m)) (h12:tat t 12=ZJ (i:Int)) (h82:tat t 82=fv) (h83:tat t 83=ZJ (fam.length:Int)) (h84:tat t 84=ZJ 0) (h44:tat t 44=ll) (h45:tat t 45=ZJ (m:Int)) (h46:tat t 46=ZJ (i:Int))
  (fin:∀t g',St t (lR ev lv pq iv ia m)->tat t 44=ll->tat t 45=ZJ (m:Int)->tat t 46=ZJ (i:Int)->g'.h.get iv=Y6 1 ((V.set i (S.T8 e fam)).map cu)->(∀j,j≠iv->g'.h.get j=g.h.get j)->g.nx<=g'.nx->(∀j∈g'.lg,j∈g.lg\/j=iv)->Q (.exit 2) t [] g') :
  wpL (wp C0 d none dD) Q t [] g:=by
 have re:=λh=>(he h).ints;have key:∀l:List Int,(∀p∈l,0<=p/\p<(n.nodes.length:Int))->S.T8 e l<256:=λl hl=>by
  have:S.T8 e l<2 ^ 8:=ym λu hu=>by obtain⟨p,h1,h2,-⟩:=(zI (λp hp=>by have:=hl p hp;omega) u).1 hu;have:=hl p h1;omega
  exact this
 have f:V.set i 0=V:=by
  refine Xm λj=>?_;rw[Wi]
  by_cases c:i=j
  ·subst c;rw[VC rfl,VC hi,Vt hi];rw[Vt hi,VB]at hz;rw[hz]
  ·rw[Vz c]
 simp only[dD,gL];refine bD (m:=fam.length) (by omega) (λj t df g'=>df=[]/\St t ((12,ZJ (i:Int))::(82,fv)::(44,ll)::(45,ZJ (m:Int))::(46,ZJ (i:Int))::lR ev lv pq iv ia m)/\g'.h.get iv=Y6 1 ((V.set i (S.T8 e (fam.take j))).map cu)/\(∀j,j≠iv->g'.h.get j=g.h.get j)/\g.nx<=g'.nx/\(∀j∈g'.lg,j∈g.lg\/j=iv))
  ⟨rfl,⟨h12,h82,h44,h45,h46,ht⟩,by simpa [S.T8,f] using hV,λ_ _=>rfl,Vu _,λ_ h=>.inl h⟩ h84 h83 (by decide)
  (by rintro j t df g v s (rfl|rfl|rfl) ⟨rfl,⟨a1,a2,E,a4,F,H,I,J,K,z,-⟩,r⟩<;>exact⟨rfl,by simp[St,lR,sx,a1,a2,E,a4,F,H,I,J,K,z],r⟩) ?_ ?_
 ·clear ht h12 h82 h83 h84 h44 h45 h46;rintro j t df g1 hj ⟨rfl,⟨h12,h82,h44,h45,h46,h1,h2,h9,a,w,-⟩,o,hf,A,b⟩ h84 h83;obtain⟨p,hp,C,B⟩:=ae hj;obtain⟨L,N⟩:=hfm p B;obtain⟨v,rfl⟩:=Vy L;have rf:=hFv g1 hf;have a1:j<(fam.map ci).length:=by simpa using hj
  have a2:(fam.map ci)[j]?=some (ci (v:Int)):=by rw[Vw,hp];rfl
  obtain⟨b1,b2⟩:=I9 (l:=e) (i:=v) (by omega);have M:=key (fam.take j) λq hq=>hfm q (WL hq);have e1:=CW e (fam.take j) (v:Int);rw[<-C,VU]at e1;have rv:=cR (sz:=1) (m:=m) o (by simp[hm]);have y:i<(V.set i (S.T8 e (fam.take j))).length:=by simpa using hi
  obtain⟨c1,D⟩:=gK y;rw[WH hi,VB]at D
  by_cases c:e[v]?.getD 0 = -1
  ·rw[VC c]at e1;have or1:=mo (S.T8 e (fam.take j)) (S.TT v) (by omega) (oD v);rw[<-e1]at or1;have sc:=λ(g':G) (h:g'.h.get iv=Y6 1 ((V.set i (S.T8 e (fam.take j))).map cu))=>qB (m:=m) (x:=S.T8 e (fam.take (j+1))) h y;simp only[sz,simprocAttr,sf,h1,a,h12,h82,h84,rf,a1,a2,re,b1,b2,ci,c,rv,c1,D,cu,fu,or1,sc,o,List.set_set];refine⟨?_,?_⟩
   ·simp only[VJ,VN,VH,VE];exact aA (Zl (true::[])) [] (by simp[All2,ah,ay]) (by decide) (by simp)
   ·refine⟨⟨by simp[St,lR,sx,h1,h2,h9,a,w,h12,h82,h44,h45,h46],λj hj=>by rw[Vz hj,hf j hj],by omega,λj hj=>?_⟩,h83⟩;simp at hj;rcases hj with rfl|hj
    ·exact .inr rfl
    ·exact b j hj
  ·rw[Vz c]at e1;rw[<-e1]at o;simp only[sz,simprocAttr,sf,h1,a,h12,h82,h84,rf,a1,a2,re,b1,b2,ci,c];exact⟨⟨by simp[St,lR,sx,h1,h2,h9,a,w,h12,h82,h44,h45,h46],o,hf,A,b⟩,h83⟩
 ·rintro t df g' ⟨rfl,⟨h12,h82,h44,h45,h46,ht⟩,o,hf,A,b⟩;rw[Wa]at o;exact fin t g' ht h44 h45 h46 o hf A b
theorem S5{iv ia B13:Nat}{c:Int}{vv cv ev ll:AV}(hr:NR n)(hnb:SlR NoP 0 .nil n.nodes b)(hv:v<n.nodes.length)(hq:g.h.get pq=srO gr size c b lv vv cv xv pm)(hB:g.h.get B13=Y6 3 [cs3 ((v:Int),x.2.1,x.2.2)])(hlt:pq<g.nx/\B13<g.nx)
  (ht:St t (lR ev lv pq iv ia m)) (h12:tat t 12=ZJ (i:Int)) (h13:tat t 13=ZK B13) (h44:tat t 44=ll) (h45:tat t 45=ZJ (m:Int)) (h46:tat t 46=ZJ (i:Int)) 
  (fin:∀t g' fv,St t (lR ev lv pq iv ia m)->tat t 12=ZJ (i:Int)->tat t 44=ll->tat t 45=ZJ (m:Int)->tat t 46=ZJ (i:Int)->tat t 82=fv->tat t 83=ZJ ((S.TV n v).length:Int)->tat t 84=ZJ 0->Own g' g.nx fv 1 ((S.TV n v).map ci)->Fx (λ_=>False) g g'->Q .norm t [] g') :
  wp C0 d none (.feet [0,1,3,7,15,0,32,127,255,511,1023,0,2048,6144,16383,32767,0] [oM 68 9,Zb 69 68,oF 70 0 69,oF 71 1 70,oL 72 71,oF 73 0 13,oL 74 73,Ze 75 3 72 74,oF 76 1 75,oL 77 76,Zq 78 55 77,oF 79 0 13,oL 80 79,ZB 81 80,Zu 82 1 8 78 81,oN 83 82,oK 84 0]) Q t [] g:=by
 obtain⟨h1,h2,h9,q,r,-⟩:=ht;obtain⟨rows,A,I,E,F⟩:=hnb.all;have A:∀h',ak h' 3 b=some rows:=A;obtain⟨y,l,-,s⟩:=ae hv;obtain⟨row,D,q2⟩:=E v y l;obtain⟨pa,ra,rfl,k,-⟩:=bM.1 q2;have f:v<rows.length:=by omega
 have j:=F (by omega);have C:=fS (hr.places y s) (by omega);have B:=hr.l2;have a:S.TV n v=y.parents++[(v:Int)]:=by simp[S.TV,l]
 simp only[sz,simprocAttr,sf,h9,h13,hB,cs3,hq,Tu,aI,A,f,D,j];refine xQ k (by omega) λu g1 hu hf hlg=>?_;have oU:=hu.own;have n1:g.nx+10<=g1.nx:=by have:=hf.1;simp at this;omega
 have f1:∀i,i<g.nx+10->g1.h.get i=g.h.get i:=λi hi=>by have:=hf.2 i (by simp;omega);simpa using this
 have l1:∀i∈g1.lg,g.nx+10<=i/\i<g1.nx:=λi hi=>by have:=hlg i hi;simp at this;omega
 have oU:Own g1 (g.nx+10) u 1 (y.parents.map ci):=by simpa using oU
 clear hf hlg hu;have o:g1.h.get B13=Y6 3 [[ZJ (v:Int),ZJ x.2.1,ZJ x.2.2]]:=by rw[f1 _ (by omega),hB];rfl
 simp only[sz,simprocAttr,sf,h13,o,zG];refine nL (new:=[ci (v:Int)]) (oU.fr (by simp;omega) λi hi=>?_) (by simp[sx,sy,ci]) (by simp;omega) (by simp[aT];omega) λv2 g2 hv2 n2 f2 c2 l2=>?_
 ·have:=(oU.lt hi).2;simp[TA];omega
 simp only[sz,simprocAttr]at n2 f2 l2;have w:∀i∈g2.lg,vid u=some i\/g1.nx+1+1+1+1+1<=i/\i<g2.nx:=λi hi=>by simpa using l2 i hi
 have vl:=hv2.sat_len;have rb:=hnb.refs;have rp1:∀i,aw (eJ 3 b v i)=[]:=λi=>by rw[fT j,rb]
 have rpa:=k.refs;have spa:=λh:H=>EN (k.tree (h':=h) (Vu 0));have pn:=hlt.1;simp only[sz,simprocAttr,sf,vl,dW];refine⟨?_,?_⟩
 ·simp only[VJ,VN,VH,VE];refine aA (Zn (Zl (true::(Zn (true::(true::(Zn []))))))) [(0,13),(1,13),(2,13),(3,13),(4,13),(5,13),(6,13),(7,13),(8,13),(9,13),(10,13),(10,11),(10,12),(10,16),(13,16),(14,16)] (by simp[All2,ah,ay]) (by decide) ?_;intro p hp y z hx l;simp only[VP,VG,Xh]at hp;rcases hp with rfl|rfl|rfl|rfl|rfl|rfl|rfl|rfl|rfl|rfl|rfl|rfl|rfl|rfl|rfl|rfl<;>(simp only[VZ,Wn,Wj]at hx l;subst hx;subst l;refine bI rfl rfl rfl rfl ?_ ?_ ?_<;>simp[ah,ay,cO,rE,rb,rp1,rpa,spa])
  all_goals first|omega|exact λi hi=>by have:=l1 i hi;omega
 ·refine fin _ _ v2 (by simp[St,lR,sx,h1,h2,h9,q,r]) (by simp[sx,h12]) (by simp[sx,h44]) (by simp[sx,h45]) (by simp[sx,h46]) (by simp[sx]) (by simp[sx];rw[a];simp) (by simp[sx]) ?_ ⟨by simp;omega,λi hi _=>?_,λi hi=>?_⟩
  ·rw[a,WJ];exact GE (hv2.fr (by simp;omega) λi hi=>by simp) (by omega)
  ·have h2:=f2 i (by omega) (λe=>by have:=oU.lt e;omega);rw[Vz (by omega)]at h2;simp[h2,f1 i (by omega)]
  ·simp at hi;rcases hi with hi|rfl|hi|hi
   ·rcases w i hi with h|h
    ·have:=oU.lt h;exact .inr (.inr (by omega))
    ·exact .inr (.inr (by omega))
   ·exact .inr (.inr (by omega))
   ·have:=l1 i hi;exact .inr (.inr (by omega))
   ·exact .inl hi
structure LEl (n:Net) (l:List Sp):Prop where
 j:∀i,i<l.length->(S.sp l i).1 = -1->0<=(S.sp l i).2.1/\(S.sp l i).2.1<(i:Int)/\0<=(S.sp l i).2.2/\(S.sp l i).2.2<(i:Int)
 f:∀i,i<l.length->(S.sp l i).1≠-1->0<=(S.sp l i).1/\(S.sp l i).1<(n.nodes.length:Int)
theorem jk(n:Net)(e:List Int)(l:List Sp):∀j,(S.T2 n e l j).length=j
 |0=>rfl
 |j+1=>by rw[S.T2,Wr,jk n e l j];rfl
theorem Iy{n:Net}{e:List Int}{l:List Sp}(hr:NR n)(hl:LEl n l):∀j,j<=l.length->∀x∈S.T2 n e l j,x<2 ^ n.nodes.length
 |0,_,x,hx=>by simp[S.T2]at hx
 | j+1,hj,x,hx=>by
  have ih:=Iy (e:=e) hr hl j (by omega);rw[S.T2,V7,VY]at hx;rcases hx with hx|rfl
  ·exact ih x hx
  ·split
   ·exact XW (cH ih _) (cH ih _)
   ·rename_i c;have:=hl.f j (by omega) c;exact Jn hr (by omega) e
def S.Ua(n:Net)(e:List Int)(l:List Sp)(j:Nat):List Nat:=S.T2 n e l j++List.replicate (l.length - j) 0
theorem QY(h:j<=l.length):(S.Ua n e l j).length=l.length:=by rw[S.Ua,Wr,jk,List.length_replicate];omega
theorem QX(h:i<j):(S.Ua n e l j)[i]?.getD 0=(S.T2 n e l j)[i]?.getD 0:=by rw[S.Ua,VO (by rw[jk];exact h)]
theorem O_(h:j<l.length):(S.Ua n e l j)[j]?.getD 0=0:=by rw[S.Ua,VW (by rw[jk];exact Vu _),jk,WR,XO,VC (by omega)];rfl
theorem Kp{x:Nat}(h:j<l.length)(hx:S.T2 n e l (j+1)=S.T2 n e l j++[x]):(S.Ua n e l j).set j x=S.Ua n e l (j+1):=by
 have h1:l.length - j=(l.length - (j+1))+1:=by omega
 rw[S.Ua,Xl _ _ (by rw[jk];exact Vu _),jk,WR,h1,Xk,XL,S.Ua,hx,W5]
 rfl
noncomputable section
theorem S3{k iv ia:Nat}{c:Int}{vv cv ev:AV}(hr:NR n)(hnb:SlR NoP 0 .nil n.nodes b)(hsl:SlR NoP 0 .nil l lv)(hl:LEl n l)(hll:l.length<=15)(he:∀h,SlR NoP k h e ev)(hel:e.length=n.nodes.length)
  (hq:g.h.get pq=srO gr size c b lv vv cv xv pm) (hV:g.h.get iv=Y6 1 ((List.replicate l.length 0).map cu)) (hn:pq<g.nx/\iv<g.nx/\pq≠iv)
  (ht:St t (lR ev lv pq iv ia l.length)) (h44:tat t 44=lv) (h45:tat t 45=ZJ (l.length:Int)) (h46:tat t 46=ZJ 0)
  (fin:∀t g',St t (lR ev lv pq iv ia l.length)->g'.h.get iv=Y6 1 ((S.vr n e l).map cu)->Fx (λi=>i=iv) g g'->Q (.exit 0) t [] g') :
  wpL (wp C0 d none dE) Q t [] g:=by
 have y:=hr.l2;have rl:=λh=>(hsl.tree (h':=h) (Vu 0)).sps;simp only[dE,gM];refine bD (m:=l.length) (by omega) (λj t df g'=>df=[]/\St t ((44,lv)::lR ev lv pq iv ia l.length)/\g'.h.get iv=Y6 1 ((S.Ua n e l j).map cu)/\Fx (λi=>i=iv) g g')
  ⟨rfl,⟨h44,ht⟩,by simpa [S.Ua,S.T2] using hV,Fx.refl _ _⟩ h46 h45 (by decide)
  (by rintro j t df g v s (rfl|rfl|rfl) ⟨rfl,⟨a1,a2,F,a4,H,I,-⟩,r⟩<;>exact⟨rfl,by simp[St,lR,sx,a1,a2,F,a4,H,I],r⟩) ?_ ?_
 ·clear ht h44 h45 h46;rintro i t df g1 hi ⟨rfl,⟨h44,h1,h2,h9,o,u,-⟩,E,D⟩ h46 h45;have Z:=D.nx;obtain⟨a1,a2⟩:=yB hi;obtain⟨⟨xa,xb,xc⟩,q⟩:∃x,S.sp l i=x:=⟨_,rfl⟩;rw[q]at a2;have B:=QY (n:=n) (e:=e) (l:=l) (j:=i) (by omega);refine aL (P:=λt' df g'=>df=[]/\g'.nx=g1.nx+1/\g'.h.get g1.nx=Y6 3 [cs3 (xa,xb,xc)]/\Fx (λ_=>False) g1 g'/\St t' ((12,ZJ (i:Int))::(13,ZK g1.nx)::(44,lv)::(45,ZJ (l.length:Int))::(46,ZJ (i:Int))::lR ev lv pq iv ia l.length)) ?_ ?_
  ·simp only[sz,simprocAttr,h44,h46,rl,a1,a2,cs3];exact⟨(Fx.new _ _ _).put (.inr (Vu _)) _,by simp[St,lR,sx,h1,h2,h9,o,u,h44,h45,h46]⟩
  clear h1 h2 h9 o u h44 h45 h46;rintro t df g2 ⟨rfl,k2,kB,F2,a,p,h44,h45,h46,h1,h2,h9,o,u,-⟩;have z:g2.h.get iv=Y6 1 ((S.Ua n e l i).map cu):=by rw[F2.fr _ (by omega) id,E]
  have w:=D.trans (F2.mono λ_ h=>h.elim);have M:g2.h.get pq=srO gr size c b lv vv cv xv pm:=by rw[w.fr pq hn.1 hn.2.2,hq]
  by_cases hx:xa = -1
  ·subst hx;obtain⟨A,C,O,W⟩:=hl.j i hi (by rw[q]);rw[q]at A C O W;dsimp only at A C O W;obtain⟨le,rfl⟩:=Vy A;obtain⟨ri,rfl⟩:=Vy O;have hb:=Iy (e:=e) hr hl i (by omega);obtain⟨c1,R⟩:=gK (l:=S.Ua n e l i) (i:=le) (by omega);obtain⟨X,U⟩:=gK (l:=S.Ua n e l i) (i:=ri) (by omega);rw[QX (by omega)]at R U;obtain⟨Y,-⟩:=gK (l:=S.Ua n e l i) (i:=i) (by omega);have rv:=cR (sz:=1) (m:=l.length) z (by simp[B]);have b1:=pu (cH hb le) y;have b2:=pu (cH hb ri) y;have or1:=mo ((S.T2 n e l i)[le]?.getD 0) ((S.T2 n e l i)[ri]?.getD 0) (by omega) (by omega);have sc:=λ(g':G) (h:g'.h.get iv=Y6 1 ((S.Ua n e l i).map cu))=>qB (m:=l.length) (x:=(S.T2 n e l i)[le]?.getD 0 ||| (S.T2 n e l i)[ri]?.getD 0) h (i:=i) (by omega);rw[Kp hi (by rw[S.T2,q,VC rfl];rfl)]at sc;simp only[sz,simprocAttr,sf,o,a,p,kB,cs3,rv,c1,R,X,U,Y,cu,or1,sc,z];refine⟨?_,?_⟩
   ·simp only[VJ,VN,VH,VE];exact aA (Zn (Zm (Zl (true::[])))) [] (by simp[All2,ah,ay]) (by decide) (by simp)
   ·refine⟨⟨by simp[St,lR,sx,h1,h2,h9,o,u,h44],⟨by simp;omega,λj hj hp=>?_,λj hj=>?_⟩⟩,h46,h45⟩
    ·simp[TA,hp,w.fr j hj hp]
    ·simp at hj;rcases hj with rfl|hj
     ·exact .inr (.inl rfl)
     ·exact w.lg j hj
  ·obtain⟨A,C⟩:=hl.f i hi (by rw[q];exact hx);rw[q]at A C;dsimp only at A C;obtain⟨v,rfl⟩:=Vy A;refine bB (P:=λt' df g'=>df=[]/\g'=g2/\St t' ((12,ZJ (i:Int))::(13,ZK g1.nx)::(44,lv)::(45,ZJ (l.length:Int))::(46,ZJ (i:Int))::lR ev lv pq iv ia l.length)) ?_ ?_
   ·simp only[sz,simprocAttr,p,kB,cs3,hx];simp[St,lR,sx,h1,h2,h9,o,u,a,p,h44,h45,h46]
   clear h1 h2 h9 o u a p h44 h45 h46;rintro t df g2 ⟨rfl,rfl,a,p,h44,h45,h46,ht⟩;refine bB (P:=λt' df g'=>df=[]/\∃fv,St t' (lR ev lv pq iv ia l.length)/\tat t' 12=ZJ (i:Int)/\tat t' 44=lv/\tat t' 45=ZJ (l.length:Int)/\tat t' 46=ZJ (i:Int)/\tat t' 82=fv/\tat t' 83=ZJ ((S.TV n v).length:Int)/\tat t' 84=ZJ 0/\Own g' g2.nx fv 1 ((S.TV n v).map ci)/\Fx (λ_=>False) g2 g') ?_ ?_
   ·exact S5 (x:=((v:Int),xb,xc)) hr hnb (by omega) M kB ⟨by have:=F2.nx;omega,by omega⟩ ht a p h44 h45 h46 λt g' fv a1 a2 F a4 H I a7 a8 a9 a10=>⟨rfl,rfl,fv,a1,a2,F,a4,H,I,a7,a8,a9,a10⟩
   clear ht a p h44 h45 h46;rintro t df g3 ⟨rfl,fv,ht,a,h44,h45,h46,J,K,L,oF,F3⟩;have N:g3.h.get iv=Y6 1 ((S.Ua n e l i).map cu):=by rw[F3.fr _ (by omega) id,z]
   have F3n:=F3.nx;simp only[sz,simprocAttr];refine S2 (ev:=ev) (fv:=fv) (e:=e) (V:=S.Ua n e l i) (m:=l.length) (ll:=lv) (i:=i) (jX hr (by omega)) (FP hr (by omega)) y he hel N B.symm (by omega) (λg' hg'=>(oF.fr (g':=⟨g'.h,g3.nx,[]⟩) (Vu _) λj hj=>hg' j (by have:=(oF.lt hj).1;omega)).rows) (O_ hi) ht a J K L h44 h45 h46 λt g4 ht h44 h45 h46 hv4 hf4 hn4 hl4=>?_;rw[Kp hi (by rw[S.T2,q,Vz hx,VU];rfl)]at hv4;simp only[sz,simprocAttr];have F4:Fx (λi=>i=iv) g3 g4:=⟨hn4,λj _ hj=>hf4 j hj,λj hj=>(hl4 j hj).imp id .inl⟩;exact⟨⟨⟨h44,ht⟩,hv4,(w.trans (F3.mono λ_ h=>h.elim)).trans F4⟩,h46,h45⟩
 ·rintro t df g' ⟨rfl,⟨h44,ht⟩,E,D⟩;have:S.Ua n e l l.length=S.vr n e l:=by simp[S.Ua,S.vr]
  rw[this]at E;exact fin t g' ht E D
end
section
variable {W:List Nat}
structure NsOk (L m:Nat) (s:NsT):Prop where
 l1:s.1.length=L
 l2:s.2.1.length=L
 l3:s.2.2.length=L
 b1:∀x∈s.1,x<2 ^ m
 b2:∀x∈s.2.1,x<2 ^ m
 b3:∀x∈s.2.2,x<2 ^ m
theorem EM{x:Nat}(h:∀y∈V,y<2 ^ m)(hx:x<2 ^ m):∀y∈V.set i x,y<2 ^ m:=λy hy=>by
 rcases XZ hy with h1|h1
 ·exact h y h1
 ·rw[h1];exact hx
theorem zD{b:Nat}(h:a<2 ^ m):a &&& b<2 ^ m:=Xd YR h
theorem Sc{vr:List Nat}{L:Nat}{s:NsT}(hv:∀x∈vr,x<2 ^ m)(h:NsOk L m s):NsOk L m (S.UP l vr i s):=by
 obtain⟨l1,l2,l3,b1,b2,b3⟩:=h;have h2:∀x∈s.2.1.set i (vr[i]?.getD 0 &&& s.2.2[i]?.getD 0),x<2 ^ m:=EM b2 (zD (cH hv i));unfold S.UP
 split
 ·have hd:S.TF (vr[(S.sp l i).2.1.toNat]?.getD 0 &&& vr[(S.sp l i).2.2.toNat]?.getD 0) (s.2.2[i]?.getD 0)<2 ^ m:=zH (zD (cH hv _));have ho:s.2.2[i]?.getD 0 ||| S.TF (vr[(S.sp l i).2.1.toNat]?.getD 0 &&& vr[(S.sp l i).2.2.toNat]?.getD 0) (s.2.2[i]?.getD 0)<2 ^ m:=XW (cH b3 _) hd;exact⟨by simp[l1],by simp[l2],by simp[l3],EM b1 hd,h2,EM (EM b3 ho) ho⟩
 ·exact⟨l1,by simp[l2],l3,b1,h2,b3⟩
theorem HW{l:List Sp}{vr:List Nat}{m:Nat}(hv:∀x∈vr,x<2 ^ m):∀j,NsOk l.length m (S.T6 l vr j)
 | 0=>by
  have:∀x∈List.replicate l.length 0,x<2 ^ m:=λx hx=>by rw[List.eq_of_mem_replicate hx];exact YS m
  exact⟨by simp[S.T6],by simp[S.T6],by simp[S.T6],this,this,this⟩
 |j+1=>Sc hv (HW hv j)
noncomputable section
theorem wi(m n:Nat)(h:m<256)(h':n<256):bQ .andNot (ZL (m:Int)) (ZL (n:Int))=.val (ZL (S.TF m n:Int)):=Af m n (by omega) (by omega)
structure NsH (gr size c:Int) (b lv vv:AV) (pq pm iv ia pc px L:Nat) (vr:List Nat) (s:NsT) (g:G):Prop where
 q:g.h.get pq=srO gr size c b lv vv (.hsl pc 0 0 L none) (.hsl px 0 0 L none) pm
 v:g.h.get iv=Y6 1 (vr.map cu)
 a:g.h.get ia=Y6 1 (s.2.2.map cu)
 c:g.h.get pc=Y6 1 (s.1.map cu)
 x:g.h.get px=Y6 1 (s.2.1.map cu)
structure NsD (pq iv ia pc px B:Nat):Prop where
 n:pq<B/\iv<B/\ia<B/\pc<B/\px<B
 d1:pq≠iv/\pq≠ia/\pq≠pc/\pq≠px
 d2:iv≠ia/\iv≠pc/\iv≠px
 d3:ia≠pc/\ia≠px/\pc≠px
section
variable {gr size c:Int}{b lv vv:AV}{pq pm iv ia pc px L B:Nat}{vr:List Nat}{s:NsT}{g g':G}
theorem NsH.setX(hD:NsD pq iv ia pc px B)(h:NsH gr size c b lv vv pq pm iv ia pc px L vr s g)(hf:∀j,j≠px->j<B->g'.h.get j=g.h.get j)(hx:g'.h.get px=Y6 1 (W.map cu)):NsH gr size c b lv vv pq pm iv ia pc px L vr (s.1,W,s.2.2) g':=by obtain⟨⟨n1,n2,n3,f,l⟩,⟨d1,d2,d3,d⟩,⟨d5,d6,d7⟩,i,e,k⟩:=hD;exact⟨by rw[hf _ d n1,h.q],by rw[hf _ d7 n2,h.v],by rw[hf _ e n3,h.a],by rw[hf _ k f,h.c],hx⟩
theorem TD(hD:NsD pq iv ia pc px B)(h:NsH gr size c b lv vv pq pm iv ia pc px L vr s g)(hf:∀j,j≠pc->j<B->g'.h.get j=g.h.get j)(hx:g'.h.get pc=Y6 1 (W.map cu)):NsH gr size c b lv vv pq pm iv ia pc px L vr (W,s.2.1,s.2.2) g':=by obtain⟨⟨n1,n2,n3,l,e⟩,⟨d1,d2,d3,f⟩,⟨d5,d6,d7⟩,d,i,k⟩:=hD;exact⟨by rw[hf _ d3 n1,h.q],by rw[hf _ d6 n2,h.v],by rw[hf _ d n3,h.a],hx,by rw[hf _ (WD k) e,h.x]⟩
theorem NsH.setA(hD:NsD pq iv ia pc px B)(h:NsH gr size c b lv vv pq pm iv ia pc px L vr s g)(hf:∀j,j≠ia->j<B->g'.h.get j=g.h.get j)(hx:g'.h.get ia=Y6 1 (W.map cu)):NsH gr size c b lv vv pq pm iv ia pc px L vr (s.1,s.2.1,W) g':=by obtain⟨⟨n1,n2,n3,e,f⟩,⟨d1,d2,d3,i⟩,⟨d5,d6,d7⟩,a,d,k⟩:=hD;exact⟨by rw[hf _ d2 n1,h.q],by rw[hf _ d5 n2,h.v],hx,by rw[hf _ (WD a) e,h.c],by rw[hf _ (WD d) f,h.x]⟩
theorem NsH.same(hD:NsD pq iv ia pc px B)(h:NsH gr size c b lv vv pq pm iv ia pc px L vr s g)(hf:∀j,j<B->g'.h.get j=g.h.get j):NsH gr size c b lv vv pq pm iv ia pc px L vr s g':=by obtain⟨⟨n1,n2,n3,k,d⟩,-,-,-⟩:=hD;exact⟨by rw[hf _ n1,h.q],by rw[hf _ n2,h.v],by rw[hf _ n3,h.a],by rw[hf _ k,h.c],by rw[hf _ d,h.x]⟩
end
def sK(lv:AV)(pq iv ia m:Nat):List (Nat×AV):=[(2,lv),(9,ZK pq),(10,.hsl iv 0 0 m none),(11,.hsl ia 0 0 m none)]
theorem Tv(gr size c:Int)(b lv vv cv xv:AV)(pm:Nat):be (srO gr size c b lv vv cv xv pm) 0 0 false 1 5=.val xv:=rfl
theorem S4{iv ia pq pc px pm mm:Nat}{gr size c:Int}{b lv vv:AV}{vr:List Nat}{g:G}(hsl:SlR NoP 0 .nil l lv)(hl:LEl n l)(hll:l.length<=15)(hm:mm<=8)(hvl:vr.length=l.length)(hvr:∀x∈vr,x<2 ^ mm)
  (hD:NsD pq iv ia pc px g.nx) (hH:NsH gr size c b lv vv pq pm iv ia pc px l.length vr (S.T6 l vr 0) g)
  (ht:St t (sK lv pq iv ia l.length)) (h16:tat t 16=ZJ ((l.length:Int) - 1))
  (fin:∀t g',St t (sK lv pq iv ia l.length)->NsH gr size c b lv vv pq pm iv ia pc px l.length vr (S.T6 l vr l.length) g'->Fx (λi=>i=ia\/i=pc\/i=px) g g'->Q (.exit 4) t [] g') :
  wpL (wp C0 d none dF) Q t [] g:=by
 have rl:=λh=>(hsl.tree (h':=h) (Vu 0)).sps;have u:=hD;obtain⟨⟨n1,n2,n3,n4,n5⟩,⟨d1,d2,d3,d4⟩,⟨d5,d6,d7⟩,d8,d9,Y⟩:=hD;simp only[dF,gN];refine qD (m:=l.length) (by omega) (λj t df g'=>df=[]/\St t (sK lv pq iv ia l.length)/\NsH gr size c b lv vv pq pm iv ia pc px l.length vr (S.T6 l vr (l.length - j)) g'/\Fx (λi=>i=ia\/i=pc\/i=px) g g')
  ⟨rfl,ht,by rw[WR];exact hH,Fx.refl _ _⟩ h16 (by decide)
  (by rintro j t df g v s (rfl|rfl|rfl|rfl|rfl) ⟨rfl,⟨a1,a2,X,a4,-⟩,r⟩<;>exact⟨rfl,by simp[St,sK,sx,a1,a2,X,a4],r⟩) ?_ ?_
 ·clear ht h16 hH;rintro i t df g1 hi ⟨rfl,⟨h2,h9,a,k,-⟩,hH,o⟩ h16;have h1:=o.nx;have E:=HW (l:=l) hvr (l.length - (i+1));have I:S.T6 l vr (l.length - i)=S.UP l vr i (S.T6 l vr (l.length - (i+1))):=by rw[show l.length - i=(l.length - (i+1))+1 by omega,S.T6,show l.length - 1 - (l.length - (i+1))=i by omega]
  rw[I];obtain⟨s,hs⟩:∃s,s=S.T6 l vr (l.length - (i+1)):=⟨_,rfl⟩;rw[<-hs]at E hH ⊢;have H:=hH;obtain⟨eq,ev,ea,ec,ex⟩:=H;obtain⟨l1,l2,l3,b1,b2,b3⟩:=E;have z1:=pu (cH hvr i) hm;have z2:=pu (cH b3 i) hm;obtain⟨u1,u2⟩:=gK (l:=vr) (i:=i) (by omega);obtain⟨u3,J⟩:=gK (l:=s.2.2) (i:=i) (by omega);obtain⟨u5,-⟩:=gK (l:=s.2.1) (i:=i) (by omega);have rv:=cR (sz:=1) (m:=l.length) ev (by simp[hvl]);have ra:=cR (sz:=1) (m:=l.length) ea (by simp[l3]);have rx:=cR (sz:=1) (m:=l.length) ex (by simp[l2]);have an1:=nM (vr[i]?.getD 0) (s.2.2[i]?.getD 0) (by omega) (by omega);have sc:=λ(g':G) (h:g'.h.get px=Y6 1 (s.2.1.map cu))=>qB (m:=l.length) (x:=vr[i]?.getD 0 &&& s.2.2[i]?.getD 0) h (i:=i) (by omega);obtain⟨cx,y⟩:∃cx,cx=s.2.1.set i (vr[i]?.getD 0 &&& s.2.2[i]?.getD 0):=⟨_,rfl⟩;rw[<-y]at sc;refine bB (P:=λt' df g'=>df=[]/\NsH gr size c b lv vv pq pm iv ia pc px l.length vr (s.1,cx,s.2.2) g'/\Fx (λi=>i=ia\/i=pc\/i=px) g g'/\St t' ((16,ZJ (i:Int))::sK lv pq iv ia l.length)) ?_ ?_
  ·simp only[sz,simprocAttr,sf,h9,a,k,h16,eq,Tv,aI,rv,ra,rx,u1,u2,u3,J,u5,cu,an1,sc,ex];refine⟨?_,?_⟩
   ·simp only[VJ,VN,VH,VE];exact aA (false::(Zn (Zm (Zl (true::[]))))) [] (by simp[All2,ah,ay]) (by decide) (by simp)
   ·refine⟨hH.setX u (λj hj _=>by simp[TA,hj]) (by simp[TA]),⟨by simp;omega,λj hj hA=>?_,λj hj=>?_⟩,by simp[St,sK,sx,h2,h9,a,k,h16]⟩
    ·have p:¬j=px:=λe=>hA (.inr (.inr e));simp[TA,p,o.fr j hj hA]
    ·simp at hj;rcases hj with rfl|hj
     ·exact .inr (.inl (.inr (.inr rfl)))
     ·exact o.lg j hj
  clear h2 h9 a k h16 hH eq ev ea ec ex o;rintro t df g2 ⟨rfl,hH,o,h16,h2,h9,a,k,-⟩;have M:=o.nx;obtain⟨a1,a2⟩:=yB hi;obtain⟨⟨xa,xb,xc⟩,q⟩:∃x,S.sp l i=x:=⟨_,rfl⟩;rw[q]at a2;refine aL (P:=λt' df g'=>df=[]/\g'.h.get g2.nx=Y6 3 [cs3 (xa,xb,xc)]/\g'.nx=g2.nx+1/\NsH gr size c b lv vv pq pm iv ia pc px l.length vr (s.1,cx,s.2.2) g'/\Fx (λi=>i=ia\/i=pc\/i=px) g g'/\St t' ((17,ZK g2.nx)::(16,ZJ (i:Int))::sK lv pq iv ia l.length)) ?_ ?_
  ·simp only[sz,simprocAttr,h2,h16,rl,a1,a2,cs3];exact⟨hH.same u λj hj=>by rw[G.put_h,af _ _ _ (by omega),G.new_h,af _ _ _ (by omega)],(o.trans (Fx.new _ _ _)).put (.inr (by omega)) _,by simp[St,sK,sx,h2,h9,a,k,h16]⟩
  clear h2 h9 a k h16;obtain⟨B17,B⟩:∃B17,B17=g2.nx:=⟨_,rfl⟩;rw[<-B];clear hH o;rintro t df g3 ⟨rfl,kB,k3,hH,o,f,h16,h2,h9,a,k,-⟩
  by_cases hx:xa = -1
  ·subst hx;obtain⟨K,V,L,W⟩:=hl.j i hi (by rw[q]);have hS:=q;rw[q]at K V L W;dsimp only at K V L W;obtain⟨le,rfl⟩:=Vy K;obtain⟨ri,rfl⟩:=Vy L;obtain⟨cc,w⟩:∃cc,cc=S.TF (vr[le]?.getD 0 &&& vr[ri]?.getD 0) (s.2.2[i]?.getD 0):=⟨_,rfl⟩;have z:S.UP l vr i s=(s.1.set i cc,cx,(s.2.2.set le (s.2.2[i]?.getD 0 ||| cc)).set ri (s.2.2[i]?.getD 0 ||| cc)):=by unfold S.UP;rw[q,VC rfl];simp only[VU];rw[<-w,<-y]
   rw[z];have U:cc<256:=pu (by rw[w];exact zH (zD (cH hvr _))) hm;have w1:=pu (cH hvr le) hm;have w2:=pu (cH hvr ri) hm;obtain⟨p1,p2⟩:=gK (l:=vr) (i:=le) (by omega);obtain⟨p3,p4⟩:=gK (l:=vr) (i:=ri) (by omega);obtain⟨p5,-⟩:=gK (l:=s.1) (i:=i) (by omega);have Z:B17<g3.nx:=by omega
   have C:B17≠ia/\B17≠pc/\B17≠px:=by omega
   refine aL (P:=λt' df g'=>df=[]/\g'=g3/\tat t' 131=.bool true/\St t' ((17,ZK B17)::(16,ZJ (i:Int))::sK lv pq iv ia l.length)) ?_ ?_
   ·simp only[sz,simprocAttr,f,kB,cs3];simp[St,sK,sx,h2,h9,a,k,h16,f]
   clear h2 h9 a k h16 f;rintro t df g3 ⟨rfl,rfl,A,f,h16,h2,h9,a,k,-⟩;simp only[E7,Ng,A,BJ,xD];have N:=o.nx;obtain⟨eq,ev,ea,ec,ex⟩:=hH;have rv:=cR (sz:=1) (m:=l.length) ev (by simp[hvl]);have ra:=cR (sz:=1) (m:=l.length) ea (by simp[l3]);have rc:=cR (sz:=1) (m:=l.length) ec (by simp[l1]);have an2:=nM (vr[le]?.getD 0) (vr[ri]?.getD 0) (by omega) (by omega);have D:vr[le]?.getD 0 &&& vr[ri]?.getD 0<256:=pu (zD (cH hvr _)) hm;have df2:=wi (vr[le]?.getD 0 &&& vr[ri]?.getD 0) (s.2.2[i]?.getD 0) D z2;rw[<-w]at df2;have sc2:=λ(g':G) (h:g'.h.get pc=Y6 1 (s.1.map cu))=>qB (m:=l.length) (x:=cc) h (i:=i) (by omega);refine bB (P:=λt' df g'=>df=[]/\NsH gr size c b lv vv pq pm iv ia pc px l.length vr (s.1.set i cc,cx,s.2.2) g'/\Fx (λi=>i=ia\/i=pc\/i=px) g g'/\g'.h.get B17=Y6 3 [cs3 (-1,(le:Int),(ri:Int))]/\St t' ((17,ZK B17)::(16,ZJ (i:Int))::sK lv pq iv ia l.length)) ?_ ?_
   ·simp only[sz,simprocAttr,sf,h9,a,k,h16,f,kB,cs3,eq,Sx,aI,rv,ra,rc,p1,p2,p3,p4,p5,u3,J,cu,an2,df2,sc2,ec];refine⟨?_,?_⟩
    ·simp only[VJ,VN,VH,VE];exact aA (Zn (Zm (Zl (Zl (true::[]))))) [] (by simp[All2,ah,ay]) (by decide) (by simp)
    ·refine⟨TD (s:=(s.1,cx,s.2.2)) u ⟨eq,ev,ea,ec,ex⟩ (λj hj _=>by simp[TA,hj]) (by simp[TA]),⟨by simp;omega,λj hj hA=>?_,λj hj=>?_⟩,by simp[TA,C.2.1,kB,cs3],by simp[St,sK,sx,h2,h9,a,k,h16,f]⟩
     ·have p:¬j=pc:=λe=>hA (.inr (.inl e));simp[TA,p,o.fr j hj hA]
     ·simp at hj;rcases hj with rfl|hj
      ·exact .inr (.inl (.inr (.inl rfl)))
      ·exact o.lg j hj
   clear h2 h9 a k h16 f eq ev ea ec ex o kB rv ra rc sc2;rintro t df g4 ⟨rfl,⟨eq,ev,ea,ec,ex⟩,o,kB,f,h16,h2,h9,a,k,-⟩;have O:=o.nx;have rv:=cR (sz:=1) (m:=l.length) ev (by simp[hvl]);have ra:=cR (sz:=1) (m:=l.length) ea (by simp[l3]);have rc:=cR (sz:=1) (m:=l.length) ec (by simp[l1]);obtain⟨F,p7⟩:=gK (l:=s.1.set i cc) (i:=i) (by rw[XH];omega);rw[WH (by omega),VB]at p7;obtain⟨p8,-⟩:=gK (l:=s.2.2) (i:=le) (by omega);have or2:=mo (s.2.2[i]?.getD 0) cc (by omega) (by omega);have sc3:=λ(g':G) (h:g'.h.get ia=Y6 1 (s.2.2.map cu))=>qB (m:=l.length) (x:=s.2.2[i]?.getD 0 ||| cc) h (i:=le) (by omega);refine bB (P:=λt' df g'=>df=[]/\NsH gr size c b lv vv pq pm iv ia pc px l.length vr (s.1.set i cc,cx,s.2.2.set le (s.2.2[i]?.getD 0 ||| cc)) g'/\Fx (λi=>i=ia\/i=pc\/i=px) g g'/\g'.h.get B17=Y6 3 [cs3 (-1,(le:Int),(ri:Int))]/\St t' ((17,ZK B17)::(16,ZJ (i:Int))::sK lv pq iv ia l.length)) ?_ ?_
   ·simp only[sz,simprocAttr,sf,h9,a,k,h16,f,kB,cs3,eq,Sx,aI,rv,ra,rc,F,p7,p8,u3,J,cu,or2,sc3,ea];refine⟨?_,?_⟩
    ·simp only[VJ,VN,VH,VE];exact aA (Zl (Zl (true::[]))) [] (by simp[All2,ah,ay]) (by decide) (by simp)
    ·refine⟨NsH.setA (s:=(s.1.set i cc,cx,s.2.2)) u ⟨eq,ev,ea,ec,ex⟩ (λj hj _=>by simp[TA,hj]) (by simp[TA]),⟨by simp;omega,λj hj hA=>?_,λj hj=>?_⟩,by simp[TA,C.1,kB,cs3],by simp[St,sK,sx,h2,h9,a,k,h16,f]⟩
     ·have p:¬j=ia:=λe=>hA (.inl e);simp[TA,p,o.fr j hj hA]
     ·simp at hj;rcases hj with rfl|hj
      ·exact .inr (.inl (.inl rfl))
      ·exact o.lg j hj
   clear h2 h9 a k h16 f eq ev ea ec ex o kB rv ra rc sc3 F p7;rintro t df g5 ⟨rfl,⟨eq,ev,ea,ec,ex⟩,o,kB,f,h16,h2,h9,a,k,-⟩;have R:=o.nx;have ra:=cR (sz:=1) (m:=l.length) ea (by simp[l3]);obtain⟨F,p7⟩:=gK (l:=s.2.2.set le (s.2.2[i]?.getD 0 ||| cc)) (i:=le) (by rw[XH];omega);rw[WH (by omega),VB]at p7;obtain⟨p9,-⟩:=gK (l:=s.2.2.set le (s.2.2[i]?.getD 0 ||| cc)) (i:=ri) (by rw[XH];omega);have sc4:=λ(g':G) (h:g'.h.get ia=Y6 1 ((s.2.2.set le (s.2.2[i]?.getD 0 ||| cc)).map cu))=>qB (m:=l.length) (x:=s.2.2[i]?.getD 0 ||| cc) h (i:=ri) (by rw[XH];omega);simp only[sz,simprocAttr,sf,k,h16,f,kB,cs3,ra,F,p7,p9,cu,sc4,ea];refine⟨?_,?_⟩
   ·simp only[VJ,VN,VH,VE];exact aA (false::(Zl (true::[]))) [] (by simp[All2,ah,ay]) (by decide) (by simp)
   ·refine⟨by simp[St,sK,sx,h2,h9,a,k],NsH.setA (s:=(s.1.set i cc,cx,s.2.2.set le (s.2.2[i]?.getD 0 ||| cc))) u ⟨eq,ev,ea,ec,ex⟩ (λj hj _=>by simp[TA,hj]) (by simp[TA]),⟨by simp;omega,λj hj hA=>?_,λj hj=>?_⟩⟩
    ·have p:¬j=ia:=λe=>hA (.inl e);simp[TA,p,o.fr j hj hA]
    ·simp at hj;rcases hj with rfl|hj
     ·exact .inr (.inl (.inl rfl))
     ·exact o.lg j hj
  ·have z:S.UP l vr i s=(s.1,cx,s.2.2):=by unfold S.UP;rw[q,Vz hx,<-y]
   rw[z];simp only[sz,simprocAttr,f,kB,cs3,hx];exact⟨⟨by simp[St,sK,sx,h2,h9,a,k],hH,o⟩,h16⟩
 ·rintro t df g' ⟨rfl,ht,hH,o⟩;rw[XJ]at hH;exact fin t g' ht hH o
end
end
theorem OU(gr size c:Int)(b lv vv cv cv' xv:AV)(pm:Nat)(g:G)(pq:Nat)(hc:cv'.cells=[cv'])(ht:cv'.isTup=false):ch (srO gr size c b lv vv cv xv pm) g pq 0 0 1 4 cv'=.upd .undef (g.put pq (srO gr size c b lv vv cv' xv pm)):=by
 unfold srO;rw[bf 9 _ 0 false g pq 0 1 4 cv' (by rw[hc];rfl) ht,VZ,hc];dsimp only;rw[eH (by simp)]
 rfl
theorem OV(gr size c:Int)(b lv vv cv xv xv':AV)(pm:Nat)(g:G)(pq:Nat)(hc:xv'.cells=[xv'])(ht:xv'.isTup=false):ch (srO gr size c b lv vv cv xv pm) g pq 0 0 1 5 xv'=.upd .undef (g.put pq (srO gr size c b lv vv cv xv' pm)):=by
 unfold srO;rw[bf 9 _ 0 false g pq 0 1 5 xv' (by rw[hc];rfl) ht,VZ,hc];dsimp only;rw[eH (by simp)]
 rfl
theorem PP(t:T)(g:G):SO.foot C0 t g (.raw (.makeMap 88 none))=ay:=by kernel_rfl
theorem S6{k:Nat}{ev:AV}{l:List Sp}(he:SlR NoP k .nil e ev)(he0:0<e.length)(he8:e.length<=8)(hb:b.cells=[b]/\b.isTup=false)(hlv:lv.cells=[lv]/\lv.isTup=false)
  (hB:g.h.get B=Y6 2 [[ZJ gr,b]]) (hBn:B<g.nx) (h1:tat t 1=ev) (h2:tat t 2=lv) (h3:tat t 3=ZJ size) (h4:tat t 4=ZK B)
  (fin:∀t g' pv pm pq,tat t 1=ev->tat t 2=lv->tat t 9=ZK pq->g.nx<=pv->g.nx<=pm->g.nx<=pq->pv<g'.nx->pm<g'.nx->pq<g'.nx->pv≠pq->pm≠pq->pm≠pv->g'.h.get pq=srO gr size 0 b lv (.hsl pv 0 0 e.length none) .nils .nils pm->g'.h.get pm=.map []->(∃lo,g'.h.get pv=.cells 1 (e.map ci) 0 lo false)->Fx (λ_=>False) g g'->Q .norm t [] g') :
  wp C0 d none (.feet [0,0,0,4,0,0,63,127,255] [Y9 18 2 4,oM 19 2,oM 20 1,Zq 21 55 20,o 22 (.raw (.makeMap 88 none)),oM 23 3,o 24 (.build [ZJ 0,.nils,.nils,.nils,.nils,.nils,.nilm,ZJ 0,ZJ 0] [(0,2),(2,1),(3,1),(6,1),(7,1)] [.t 18,.t 19,.t 21,.t 22,.t 23]),ZD 25 24,oM 9 25]) Q t [] g:=by
 have mk:=R6 d none;simp only[sz,simprocAttr,sf,h1,h2,h3,h4,hB];refine xQ he (by omega) λu g1 hu hf hlg=>?_;have n1:g.nx+3<=g1.nx:=by have:=hf.1;simp at this;omega
 have f1:∀i,i<g.nx+3->g1.h.get i=g.h.get i:=λi hi=>by have:=hf.2 i (by simp;omega);simpa using this
 have l1:∀i∈g1.lg,g.nx+3<=i/\i<g1.nx:=λi hi=>by have:=hlg i hi;simp at this;omega
 rcases hu with⟨h,-⟩|⟨pv,lo,f,m,rfl,p4,-⟩
 ·rw[h]at he0;simp at he0
 have f:g.nx+3<=pv:=by simpa using f
 clear hf hlg;obtain⟨a,hl2⟩:=hlv;simp only[sz,simprocAttr,sf,mk,h3,a,hl2,xP,yh,show (AV.hmap (g1.nx+1)).cells=[.hmap (g1.nx+1)] from rfl,show (AV.hmap (g1.nx+1)).isTup=false from rfl,PP,dW];have sp:=EN (he.tree (h':=g.h) (Vu k));refine⟨?_,?_⟩
 ·simp only[VJ,VN,VH,VE];refine aA [false,false,false,true,true,false,false,true,false] [(0,3),(1,3),(0,4),(1,4),(2,4),(3,4),(3,5),(4,5)] (by simp[All2,ah,ay]) (by decide) ?_;intro p hp x y hx c;simp only[VP,VG,Xh]at hp;rcases hp with rfl|rfl|rfl|rfl|rfl|rfl|rfl|rfl<;>(simp only[VZ,Wn,Wj]at hx c;subst hx;subst c;refine bI rfl rfl rfl rfl ?_ ?_ ?_<;>simp[ah,ay,cO,sp])
  all_goals first|omega|exact λi hi=>by have:=l1 i hi;omega
 ·refine fin _ _ pv (g1.nx+1) (g1.nx+1+1+1+1+1) (by simp[sx,h1]) (by simp[sx,h2]) (by simp[sx]) (by omega) (by omega) (by omega) (by first| (simp;done)| (simp;omega)) (by first| (simp;done)| (simp;omega)) (by first| (simp;done)| (simp;omega)) (by omega) (by omega) (by omega) ?_ ?_ ⟨lo,?_⟩ ⟨by simp;omega,λj hj _=>?_,λj hj=>?_⟩
  ·simp[TA,srO]
  ·simp[TA]
  ·simp[TA,show ¬pv=g1.nx+1 by omega,show ¬pv=g1.nx+1+1+1+1+1 by omega,p4]
  ·simp[TA,show ¬j=g1.nx+1 by omega,show ¬j=g1.nx+1+1+1+1+1 by omega,f1 j (by omega)]
  ·simp at hj;rcases hj with h|h|h|h
   ·exact .inr (.inr (by omega))
   ·exact .inr (.inr (by omega))
   ·have:=l1 j h;exact .inr (.inr (by omega))
   ·exact .inl h
theorem NO{L:Nat}(hL:L<=15)(g:G):HR 1 8 [ZL 0] (ZJ (L:Int)) (ZJ (L:Int)) g=.upd (.hsl g.nx 0 0 L none) (g.new (Y6 1 ((List.replicate L 0).map cu))):=by
 have h:L=0\/L=1\/L=2\/L=3\/L=4\/L=5\/L=6\/L=7\/L=8\/L=9\/L=10\/L=11\/L=12\/L=13\/L=14\/L=15:=by omega
 rcases h with rfl|rfl|rfl|rfl|rfl|rfl|rfl|rfl|rfl|rfl|rfl|rfl|rfl|rfl|rfl|rfl<;>rfl
theorem S7{L:Nat}{ev vv:AV}(hL:L<=15)(hlen:∀g:G,dH .slice lv g=.val (ZJ (L:Int)))(hq:g.h.get pq=srO gr size 0 b lv vv .nils .nils pm)(hqn:pq<g.nx)(h1:tat t 1=ev)(h2:tat t 2=lv)(h9:tat t 9=ZK pq)
  (fin:∀t g' pc px,tat t 1=ev->tat t 2=lv->tat t 9=ZK pq->g.nx<=pc->g.nx<=px->pc<g'.nx->px<g'.nx->pc≠px->g'.h.get pq=srO gr size 0 b lv vv (.hsl pc 0 0 L none) (.hsl px 0 0 L none) pm->g'.h.get pc=Y6 1 ((List.replicate L 0).map cu)->g'.h.get px=Y6 1 ((List.replicate L 0).map cu)->Fx (λi=>i=pq) g g'->Q .norm t [] g') :
  wp C0 d none (.feet [0,0,0,4,12,0,32,96,29,285,797,2047,4095,8191] [oM 26 9,oM 27 9,oM 28 2,oN 29 28,o 30 (.mks 1 8 [ZL 0] (.t 29) (.t 29)),oM 31 2,oN 32 31,o 33 (.mks 1 8 [ZL 0] (.t 32) (.t 32)),Zb 34 26,oF 35 4 34,Za 1 35 30,Zb 36 27,oF 37 5 36,Za 1 37 33]) Q t [] g:=by
 have mk:=NO hL;have s4:=λ(g:G) (id:Nat)=>OU gr size 0 b lv vv .nils (.hsl id 0 0 L none) .nils pm g pq rfl rfl;have c:=λ(g:G) (id id2:Nat)=>OV gr size 0 b lv vv (.hsl id2 0 0 L none) .nils (.hsl id 0 0 L none) pm g pq rfl rfl;have e1:¬pq=g.nx+1+1+1+1+1+1+1+1:=by omega
 have e2:¬pq=g.nx+1+1+1+1:=by omega
 simp only[sz,simprocAttr,sf,h2,h9,hlen,mk,hq,aI,e1,e2,s4,c];refine⟨?_,?_⟩
 ·simp only[VJ,VN,VH,VE];refine aA (Zm (true::(Zn (true::(Zn (true::(Zn (true::[])))))))) [(0,4),(1,4),(4,5),(4,6),(0,7),(1,7),(2,7),(3,7),(4,7),(7,8),(7,9),(1,10),(5,10),(6,10),(7,10)] (by simp[All2,ah,ay]) (by decide) ?_;intro p hp x y hx a;simp only[VP,VG,Xh]at hp;rcases hp with rfl|rfl|rfl|rfl|rfl|rfl|rfl|rfl|rfl|rfl|rfl|rfl|rfl|rfl|rfl<;>(simp only[VZ,Wn,Wj]at hx a;subst hx;subst a;refine bI rfl rfl rfl rfl ?_ ?_ ?_<;>simp[ah,ay,cO])
  all_goals omega
 ·refine fin _ _ (g.nx+1+1+1+1) (g.nx+1+1+1+1+1+1+1+1) (by simp[sx,h1]) (by simp[sx,h2]) (by simp[sx,h9]) (by omega) (by omega) (by first| (simp;done)| (simp;omega)) (by first| (simp;done)| (simp;omega)) (by omega) ?_ ?_ ?_ ⟨by simp;omega,λj hj k=>?_,λj hj=>?_⟩
  ·simp[TA]
  ·simp[TA,WD e2]
  ·simp[TA,WD e1]
  ·have k:¬j=pq:=k;simp[TA,k,show ¬j=g.nx+1+1+1+1 by omega,show ¬j=g.nx+1+1+1+1+1+1+1+1 by omega]
  ·simp at hj;rcases hj with h|h|h|h
   all_goals first|exact .inl h|exact .inr (.inl h)|exact .inr (.inr (by omega))
theorem S8{L:Nat}{ev:AV}(hL:L<=15)(hlen:∀g:G,dH .slice lv g=.val (ZJ (L:Int)))(h1:tat t 1=ev)(h2:tat t 2=lv)(h9:tat t 9=ZK pq)
  (fin:∀t g' iv ia,St t (lR ev lv pq iv ia L)->g.nx<=iv->g.nx<=ia->iv<g'.nx->ia<g'.nx->iv≠ia->g'.h.get iv=Y6 1 ((List.replicate L 0).map cu)->g'.h.get ia=Y6 1 ((List.replicate L 0).map cu)->Fx (λ_=>False) g g'->Q .norm t [] g') :
  wp C0 d none (.feet [0,1,3,0,8,24,7,127] [oM 38 2,oN 39 38,o 40 (.mks 1 8 [ZL 0] (.t 39) (.t 39)),oM 41 2,oN 42 41,o 43 (.mks 1 8 [ZL 0] (.t 42) (.t 42)),oM 10 40,oM 11 43]) Q t [] g:=by
 have mk:=NO hL;simp only[sz,simprocAttr,sf,h2,hlen,mk];refine⟨?_,?_⟩
 ·simp only[VJ,VN,VH,VE];refine aA (Zn (true::(Zn (true::(Zn []))))) [(2,3),(2,4),(2,5),(0,5),(1,5),(5,6)] (by simp[All2,ah,ay]) (by decide) ?_;intro p hp x y hx k;simp only[VP,VG,Xh]at hp;rcases hp with rfl|rfl|rfl|rfl|rfl|rfl<;>(simp only[VZ,Wn,Wj]at hx k;subst hx;subst k;refine bI rfl rfl rfl rfl ?_ ?_ ?_<;>simp[ay])
  all_goals omega
 ·refine fin _ _ (g.nx+1+1) (g.nx+1+1+1+1+1+1) (by simp[St,lR,sx,h1,h2,h9]) (by omega) (by omega) (by first| (simp;done)| (simp;omega)) (by first| (simp;done)| (simp;omega)) (by omega) ?_ ?_ ⟨by simp;omega,λj hj hA=>?_,λj hj=>?_⟩
  ·simp[TA]
  ·simp[TA]
  ·simp[TA,show ¬j=g.nx+1+1 by omega,show ¬j=g.nx+1+1+1+1+1+1 by omega]
  ·simp at hj;rcases hj with h|h|h
   all_goals first|exact .inl h|exact .inr (.inr (by omega))
def S.U2(n:Net)(e:List Int)(l:List Sp):List Nat:=(S.T6 l (S.vr n e l) l.length).1
def S.U3(n:Net)(e:List Int)(l:List Sp):List Nat:=(S.T6 l (S.vr n e l) l.length).2.1
def S.Vc(n:Net)(e:List Int)(l:List Sp):List Nat:=(S.T6 l (S.vr n e l) l.length).2.2
theorem yE(n:Net)(e:List Int)(l:List Sp):(S.vr n e l).length=l.length:=jk n e l _
theorem xx(hr:NR n)(hl:LEl n l):∀x∈S.vr n e l,x<2 ^ n.nodes.length:=Iy hr hl _ (Vu _)
theorem Ez{k:Nat}{ev:AV}(hr:NR n)(hnb:SlR NoP 0 .nil n.nodes b)(hsl:SlR NoP 0 .nil l lv)(hl:LEl n l)(hll:l.length<=15)(he:∀h,SlR NoP k h e ev)(hel:e.length=n.nodes.length)
  (kk:∀g' pq pv pm pc px,Srs n l (S.U2 n e l) (S.U3 n e l) b lv pq pv pm pc px->Srh n (S.U2 n e l) (S.U3 n e l) size b lv pq pv pm pc px ([],0) g'->Vs n pv e g'->Fx (λ_=>False) g g'->g.nx<=pq->K (ZK pq) g') :
  (am C0 d 27 [.agg [ZJ n.grain,b],ev,lv,ZJ size] g).sat K g D:=by
 have s:=hr.l2;have A:=hr.l1;have a:∀g:G,dH .slice lv g=.val (ZJ (l.length:Int)):=λg=>hsl.len g;have r:∀g:G,Ah (.agg [ZJ n.grain,b]) g=.upd (ZK g.nx) (g.new (Y6 2 [[ZJ n.grain,b]])):=λg=>rfl;have p:=xx (e:=e) hr hl;have u:=yE n e l;rw[oG];refine fX qO (by simp[eU]) ?_;simp only[eU];refine aL (P:=λt' df g'=>df=[]/\g'.h.get g.nx=Y6 2 [[ZJ n.grain,b]]/\g'.nx=g.nx+1/\Fx (λ_=>False) g g'/\St t' [(1,ev),(2,lv),(3,ZJ size),(4,ZK g.nx)]) ?_ ?_
 ·simp only[sz,simprocAttr,r];exact⟨Fx.new _ _ _,by simp[St,sx]⟩
 rintro t df g1 ⟨rfl,kB,H,F1,h1,h2,w,h4,-⟩;simp only[iA];refine bB (P:=λt' df g'=>df=[]/\∃pv pm pq,tat t' 1=ev/\tat t' 2=lv/\tat t' 9=ZK pq/\g1.nx<=pv/\g1.nx<=pm/\g1.nx<=pq/\pv<g'.nx/\pm<g'.nx/\pq<g'.nx/\pv≠pq/\pm≠pq/\pm≠pv/\g'.h.get pq=srO n.grain size 0 b lv (.hsl pv 0 0 e.length none) .nils .nils pm/\g'.h.get pm=.map []/\(∃lo,g'.h.get pv=.cells 1 (e.map ci) 0 lo false)/\Fx (λ_=>False) g1 g') ?_ ?_
 ·refine S6 (B:=g.nx) (l:=l) (he .nil) (by omega) (by omega) hnb.cell hsl.cell kB (by omega) h1 h2 w h4 λt g' pv pm pq a1 a2 a3 a4 a5 a6 a7 a8 a9 a10 a11 a12 a13 a14 a15 a16=>⟨rfl,rfl,pv,pm,pq,a1,a2,a3,a4,a5,a6,a7,a8,a9,a10,a11,a12,a13,a14,a15,a16⟩
 clear h1 h2 w h4;rintro t df g2 ⟨rfl,pv,pm,pq,h1,h2,h9,M,N,O,Q,v5,C,E,F,v9,eq,em,⟨lo,ep⟩,F2⟩;refine bB (P:=λt' df g'=>df=[]/\∃pc px,tat t' 1=ev/\tat t' 2=lv/\tat t' 9=ZK pq/\g2.nx<=pc/\g2.nx<=px/\pc<g'.nx/\px<g'.nx/\pc≠px/\g'.h.get pq=srO n.grain size 0 b lv (.hsl pv 0 0 e.length none) (.hsl pc 0 0 l.length none) (.hsl px 0 0 l.length none) pm/\g'.h.get pc=Y6 1 ((List.replicate l.length 0).map cu)/\g'.h.get px=Y6 1 ((List.replicate l.length 0).map cu)/\Fx (λi=>i=pq) g2 g') ?_ ?_
 ·exact S7 hll a eq C h1 h2 h9 λt g' pc px a1 a2 a3 a4 a5 a6 a7 a8 a9 a10 a11 a12=>⟨rfl,rfl,pc,px,a1,a2,a3,a4,a5,a6,a7,a8,a9,a10,a11,a12⟩
 clear h1 h2 h9 eq;rintro t df g3 ⟨rfl,pc,px,h1,h2,h9,w1,R,w3,T,w5,eq,ec,ex,F3⟩;refine bB (P:=λt' df g'=>df=[]/\∃iv ia,St t' (lR ev lv pq iv ia l.length)/\g3.nx<=iv/\g3.nx<=ia/\iv<g'.nx/\ia<g'.nx/\iv≠ia/\g'.h.get iv=Y6 1 ((List.replicate l.length 0).map cu)/\g'.h.get ia=Y6 1 ((List.replicate l.length 0).map cu)/\Fx (λ_=>False) g3 g') ?_ ?_
 ·exact S8 hll a h1 h2 h9 λt g' iv ia a1 a2 a3 a4 a5 a6 a7 a8 a9=>⟨rfl,rfl,iv,ia,a1,a2,a3,a4,a5,a6,a7,a8,a9⟩
 clear h1 h2 h9;rintro t df o ⟨rfl,iv,ia,ht,U,V,W,X,Y,ev4,ea4,F4⟩;have n2:=F2.nx;have n3:=F3.nx;have I:=F4.nx;have n1:=F1.nx;have eq4:o.h.get pq=srO n.grain size 0 b lv (.hsl pv 0 0 e.length none) (.hsl pc 0 0 l.length none) (.hsl px 0 0 l.length none) pm:=by rw[F4.fr _ (by omega) id,eq]
 have ec4:o.h.get pc=Y6 1 ((List.replicate l.length 0).map cu):=by rw[F4.fr _ (by omega) id,ec]
 have ex4:o.h.get px=Y6 1 ((List.replicate l.length 0).map cu):=by rw[F4.fr _ (by omega) id,ex]
 have em4:o.h.get pm=.map []:=by rw[F4.fr _ (by omega) id,F3.fr _ (by omega) (by omega),em]
 have ep4:o.h.get pv=.cells 1 (e.map ci) 0 lo false:=by rw[F4.fr _ (by omega) id,F3.fr _ (by omega) (by omega),ep]
 have F14:Fx (λi=>i=pq) g o:=((F1.mono λ_ h=>h.elim).trans (F2.mono λ_ h=>h.elim)).trans (F3.trans (F4.mono λ_ h=>h.elim));clear eq ec ex em ep;refine bB (P:=λt' df g'=>df=[]/\St t' (lR ev lv pq iv ia l.length)/\g'.h.get iv=Y6 1 ((S.vr n e l).map cu)/\Fx (λi=>i=iv) o g') ?_ ?_
 ·obtain⟨h1,h2,h9,f,m,-⟩:=ht;simp only[sz,simprocAttr,h2,a];refine S3 (k:=k) (ia:=ia) hr hnb hsl hl hll he hel eq4 ev4 ⟨by omega,by omega,by omega⟩ (by simp[St,lR,sx,h1,h2,h9,f,m]) (by simp[sx]) (by simp[sx]) (by simp[sx]) λt g' ht hv hF=>?_;simp only[sz,simprocAttr];exact⟨ht,hv,hF⟩
 rintro t df y ⟨rfl,⟨h1,h2,h9,f,m,-⟩,ev5,F5⟩;have J:=F5.nx;have v:IntKind.wrap .i64 ((l.length:Int) - 1)=(l.length:Int) - 1:=ap (by omega) (by omega);simp only[sz,simprocAttr,gP,h2,a,v];have z:NsD pq iv ia pc px y.nx:=⟨by omega,by omega,by omega,by omega⟩;refine S4 (mm:=n.nodes.length) (vr:=S.vr n e l) (n:=n) (iv:=iv) (ia:=ia) (pq:=pq) (pc:=pc) (px:=px) (pm:=pm) (gr:=n.grain) (size:=size) (c:=0) (b:=b) (lv:=lv) (vv:=.hsl pv 0 0 e.length none) hsl hl hll s u p z ⟨by rw[F5.fr _ (by omega) (by omega),eq4],ev5,by rw[F5.fr _ (by omega) (by omega),ea4];rfl,by rw[F5.fr _ (by omega) (by omega),ec4];rfl,by rw[F5.fr _ (by omega) (by omega),ex4];rfl⟩ (by simp[St,sK,sx,h2,h9,f,m]) (by simp[sx]) λt g6 ht hH F6=>?_;obtain⟨h2,h9,f,m,-⟩:=ht;simp only[sz,simprocAttr,gO,h9];have L:=F6.nx;obtain⟨l1,l2,l3,b1,b2,b3⟩:=HW (l:=l) p l.length;refine kk g6 pq pv pm pc px ⟨hr,hnb,hsl,l1,l2,hll,b1,b2,⟨E,F,by omega,by omega⟩,⟨v9,by omega,by omega⟩,by omega⟩ ⟨?_,?_,hH.c,hH.x,by omega⟩ ⟨hel,lo,?_⟩ ⟨by omega,λj hj _=>?_,λj hj=>?_⟩ (by omega)
 ·rw[hH.q,S.U2,S.U3,l1,l2,hel]
 ·rw[F6.fr _ (by omega) (by omega),F5.fr _ (by omega) (by omega),em4];rfl
 ·rw[F6.fr _ (by omega) (by omega),F5.fr _ (by omega) (by omega),ep4]
 ·rw[F6.fr _ (by omega) (by omega),F5.fr _ (by omega) (by omega),F14.fr _ hj (by omega)]
 ·rcases F6.lg j hj with h|h|h
  ·rcases F5.lg j h with h|h|h
   ·rcases F14.lg j h with h|h|h
    ·exact .inl h
    ·exact .inr (.inr (by omega))
    ·exact .inr (.inr h)
   ·exact .inr (.inr (by omega))
   ·exact .inr (.inr (by omega))
  ·exact .inr (.inr (by omega))
  ·exact .inr (.inr (by omega))
theorem eh{x:Nat}(h:i≠a):(V.set a x)[i]?.getD 0=V[i]?.getD 0:=by rw[W0 (WD h)]
theorem fN{x:Nat}(h:a<V.length):(V.set a x)[a]?.getD 0=x:=by rw[WH h];rfl
structure LUq (l:List Sp):Prop where
 ne:∀i,i<l.length->(S.sp l i).1 = -1->(S.sp l i).2.1≠(S.sp l i).2.2
 uq:∀i j,i<l.length->j<i->(S.sp l i).1 = -1->(S.sp l j).1 = -1->(S.sp l i).2.1≠(S.sp l j).2.1/\(S.sp l i).2.1≠(S.sp l j).2.2/\(S.sp l i).2.2≠(S.sp l j).2.1/\(S.sp l i).2.2≠(S.sp l j).2.2
theorem Ml(h:S.ck l n.nodes.length=true):(l.length:Int)=2*(n.nodes.length:Int) - 1/\LEl n l/\LUq l:=by
 simp only[S.ck,Vx,VK,VQ,VM]at h;obtain⟨⟨⟨h1,h2⟩,-⟩,-⟩:=h;have key:∀i,i<l.length->(S.sp l i).1 = -1->S.Uq l i=true/\S.TQ l i (S.sp l i).2.1=false/\S.TQ l i (S.sp l i).2.2=false:=λi hi hx=>by have:=h2 i hi;rw[S.Um,VC hx,Vx,Vx,Wl,Wl]at this;exact⟨this.1.1,this.1.2,this.2⟩
 refine⟨h1,⟨λi hi hx=>?_,λi hi hx=>?_⟩,⟨λi hi hx=>?_,λi j hi hj hx hy=>?_⟩⟩
 ·have:=qt.1 (key i hi hx).1;exact⟨this.1,this.2.1,this.2.2.1,this.2.2.2.1⟩
 ·have:=h2 i hi;rw[S.Um,Vz hx,Vx]at this;have:=wU.1 this.1;exact⟨this.1,this.2.1⟩
 ·exact (qt.1 (key i hi hx).1).2.2.2.2
 ·obtain⟨-,k,k2⟩:=key i hi hx;have n1:∀e,S.TQ l i e=false->(S.sp l j).2.1≠e/\(S.sp l j).2.2≠e:=λe he=>by
   refine⟨λc=>?_,λc=>?_⟩
   ·rw[rL.2 ⟨j,hj,hy,.inl c⟩]at he;cases he
   ·rw[rL.2 ⟨j,hj,hy,.inr c⟩]at he;cases he
  have a:=n1 _ k;have b:=n1 _ k2;exact⟨WD a.1,WD a.2,WD b.1,WD b.2⟩
structure NsI (l:List Sp) (vr:List Nat) (p:Nat) (s:NsT):Prop where
 s0:s.2.2[l.length - 1]?.getD 0=0
 s1:∀i,p<=i->i<l.length->s.2.1[i]?.getD 0=vr[i]?.getD 0 &&& s.2.2[i]?.getD 0
 s2:∀i,p<=i->i<l.length->(S.sp l i).1 = -1->s.1[i]?.getD 0=S.TF (vr[(S.sp l i).2.1.toNat]?.getD 0 &&& vr[(S.sp l i).2.2.toNat]?.getD 0) (s.2.2[i]?.getD 0)
 s3:∀i,p<=i->i<l.length->(S.sp l i).1 = -1->s.2.2[(S.sp l i).2.1.toNat]?.getD 0=s.2.2[i]?.getD 0 ||| s.1[i]?.getD 0
 s4:∀i,p<=i->i<l.length->(S.sp l i).1 = -1->s.2.2[(S.sp l i).2.2.toNat]?.getD 0=s.2.2[i]?.getD 0 ||| s.1[i]?.getD 0
theorem Rl{n:Net}{l:List Sp}{vr:List Nat}(hl:LEl n l)(hu:LUq l)(hL:0<l.length):∀j,j<=l.length->(S.T6 l vr j).1.length=l.length/\(S.T6 l vr j).2.1.length=l.length/\(S.T6 l vr j).2.2.length=l.length/\NsI l vr (l.length - j) (S.T6 l vr j)
 | 0,_=>by refine⟨by simp[S.T6],by simp[S.T6],by simp[S.T6],⟨?_,λi h1 h2=>by omega,λi h1 h2=>by omega,λi h1 h2=>by omega,λi h1 h2=>by omega⟩⟩;show (List.replicate l.length 0)[l.length - 1]?.getD 0=0;rw[XO];split<;>rfl
 | j+1,hj=>by
  obtain⟨l1,l2,l3,⟨s0,s1,s2,s3,s4⟩⟩:=Rl (vr:=vr) hl hu hL j (by omega);obtain⟨s,hs⟩:∃s,s=S.T6 l vr j:=⟨_,rfl⟩;rw[<-hs]at l1 l2 l3 s0 s1 s2 s3 s4;obtain⟨p,hp⟩:∃p,p=l.length - 1 - j:=⟨_,rfl⟩;rw[show l.length - (j+1)=p by omega,S.T6,<-hs,<-hp];rw[show l.length - j=p+1 by omega]at s1 s2 s3 s4;have f:p<l.length:=by omega
  unfold S.UP
  by_cases hx:(S.sp l p).1 = -1
  ·rw[VC hx];obtain⟨m,o,q,r⟩:=hl.j p f hx;obtain⟨le,h⟩:=Vy m;obtain⟨ri,k⟩:=Vy q;have a:=hu.ne p f hx;have b:=λi (hi:i<l.length) (hpi:p<i) (hxi:(S.sp l i).1 = -1)=>hu.uq i p hi hpi hxi hx;rw[h]at o a b;rw[k]at r a b;simp only[h,k,VU];obtain⟨cc,c⟩:∃cc,cc=S.TF (vr[le]?.getD 0 &&& vr[ri]?.getD 0) (s.2.2[p]?.getD 0):=⟨_,rfl⟩;rw[<-c];have d:ri≠le:=λe=>a (by rw[e]);have ab1:∀i,i≠le->i≠ri->((s.2.2.set le (s.2.2[p]?.getD 0 ||| cc)).set ri (s.2.2[p]?.getD 0 ||| cc))[i]?.getD 0=s.2.2[i]?.getD 0:=λi h1 h2=>by rw[eh h2,eh h1]
   have ab2:((s.2.2.set le (s.2.2[p]?.getD 0 ||| cc)).set ri (s.2.2[p]?.getD 0 ||| cc))[le]?.getD 0=s.2.2[p]?.getD 0 ||| cc:=by rw[eh (WD d),fN (by omega)]
   have ab3:((s.2.2.set le (s.2.2[p]?.getD 0 ||| cc)).set ri (s.2.2[p]?.getD 0 ||| cc))[ri]?.getD 0=s.2.2[p]?.getD 0 ||| cc:=by rw[fN (by rw[XH];omega)]
   have child:∀i,p<i->i<l.length->(S.sp l i).1 = -1->((S.sp l i).2.1.toNat≠le/\(S.sp l i).2.1.toNat≠ri)/\(S.sp l i).2.2.toNat≠le/\(S.sp l i).2.2.toNat≠ri:=λi h1 h2 h3=>by obtain⟨t,u,v,w⟩:=b i h2 h1 h3;obtain⟨w1,-,w3,-⟩:=hl.j i h2 h3;omega
   refine⟨by simp[l1],by simp[l2],by simp[l3],⟨?_,λi h1 h2=>?_,λi h1 h2 h3=>?_,λi h1 h2 h3=>?_,λi h1 h2 h3=>?_⟩⟩
   ·show ((s.2.2.set le _).set ri _)[l.length - 1]?.getD 0=0;rw[ab1 _ (by omega) (by omega),s0]
   ·show (s.2.1.set p _)[i]?.getD 0=vr[i]?.getD 0 &&& ((s.2.2.set le _).set ri _)[i]?.getD 0;rw[ab1 i (by omega) (by omega)]
    by_cases e:i=p
    ·subst e;rw[fN (by omega)]
    ·rw[eh e,s1 i (by omega) h2]
   ·show (s.1.set p cc)[i]?.getD 0=S.TF _ (((s.2.2.set le _).set ri _)[i]?.getD 0);rw[ab1 i (by omega) (by omega)]
    by_cases e:i=p
    ·subst e;rw[fN (by omega),h,k,VU,VU,c]
    ·rw[eh e,s2 i (by omega) h2 h3]
   ·show ((s.2.2.set le _).set ri _)[(S.sp l i).2.1.toNat]?.getD 0=((s.2.2.set le _).set ri _)[i]?.getD 0 ||| (s.1.set p cc)[i]?.getD 0;rw[ab1 i (by omega) (by omega)]
    by_cases e:i=p
    ·subst e;rw[h,VU,ab2,fN (by omega)]
    ·have hc:=child i (by omega) h2 h3;rw[eh e,ab1 _ hc.1.1 hc.1.2,s3 i (by omega) h2 h3]
   ·show ((s.2.2.set le _).set ri _)[(S.sp l i).2.2.toNat]?.getD 0=((s.2.2.set le _).set ri _)[i]?.getD 0 ||| (s.1.set p cc)[i]?.getD 0;rw[ab1 i (by omega) (by omega)]
    by_cases e:i=p
    ·subst e;rw[k,VU,ab3,fN (by omega)]
    ·have hc:=child i (by omega) h2 h3;rw[eh e,ab1 _ hc.2.1 hc.2.2,s4 i (by omega) h2 h3]
  ·rw[Vz hx];refine⟨l1,by simp[l2],l3,⟨s0,λi h1 h2=>?_,λi h1 h2 h3=>?_,λi h1 h2 h3=>?_,λi h1 h2 h3=>?_⟩⟩
   ·show (s.2.1.set p _)[i]?.getD 0=vr[i]?.getD 0 &&& s.2.2[i]?.getD 0
    by_cases e:i=p
    ·subst e;rw[fN (by omega)]
    ·rw[eh e,s1 i (by omega) h2]
   ·exact s2 i (by have:i≠p:=λe=>hx (by rw[<-e];exact h3);omega) h2 h3
   ·exact s3 i (by have:i≠p:=λe=>hx (by rw[<-e];exact h3);omega) h2 h3
   ·exact s4 i (by have:i≠p:=λe=>hx (by rw[<-e];exact h3);omega) h2 h3
theorem OX(hl:LEl n l)(hu:LUq l)(hL:0<l.length):Sta l (S.vr n e l) (S.U2 n e l) (S.U3 n e l) (S.Vc n e l):=by obtain⟨-,-,-,⟨s0,s1,s2,s3,s4⟩⟩:=Rl (vr:=S.vr n e l) hl hu hL l.length (Vu _);exact⟨s0,λi hi=>s1 i (by omega) hi,λi hi=>s2 i (by omega) hi,λi hi=>s3 i (by omega) hi,λi hi=>s4 i (by omega) hi⟩
theorem xu{n:Net}{e:List Int}{l:List Sp}:∀{j i:Nat},i<j->(S.T2 n e l j)[i]?=some (if (S.sp l i).1 = -1 then (S.T2 n e l i)[(S.sp l i).2.1.toNat]?.getD 0 ||| (S.T2 n e l i)[(S.sp l i).2.2.toNat]?.getD 0 else S.TG n e (S.sp l i).1.toNat)
 |0,i,h=>by omega
 | j+1,i,h=>by
  by_cases c:i=j
  ·subst c;rw[S.T2,VW (by rw[jk];exact Vu _),jk,WR];rfl
  ·rw[S.T2,VO (by rw[jk];omega),xu (by omega)]
theorem uo(hl:LEl n l)(hi:i<l.length)(hx:(S.sp l i).1 = -1):(S.vr n e l)[i]?.getD 0=(S.vr n e l)[(S.sp l i).2.1.toNat]?.getD 0 ||| (S.vr n e l)[(S.sp l i).2.2.toNat]?.getD 0:=by
 obtain⟨h,k,b,c⟩:=hl.j i hi hx;have key:∀a,a<i->(S.T2 n e l i)[a]?=(S.vr n e l)[a]?:=λa ha=>by rw[S.vr,xu ha];exact (xu (by omega)).symm
 rw[S.vr,xu hi,VC hx,VB,key _ (by omega),key _ (by omega),S.vr]
theorem ut(hi:i<l.length)(hx:(S.sp l i).1≠-1):(S.vr n e l)[i]?.getD 0=S.TG n e (S.sp l i).1.toNat:=by rw[S.vr,xu hi,Vz hx];rfl
theorem R4(hr:NR n)(hl:LEl n l):LOk n l (S.vr n e l) :=
 ⟨hl.j,hl.f,λi hi hx=>uo hl hi hx,xx hr hl⟩
theorem xy(hr:NR n)(hl:LEl n l):∀i,i<l.length->∀v,((S.vr n e l)[i]?.getD 0).testBit v=true->e[v]?.getD 0 = -1:=by
 intro i
 induction i using Nat.strongRecOn with
 | _ i ih =>
  intro hi v hv
  by_cases hx:(S.sp l i).1 = -1
  ·obtain⟨h,k,a,b⟩:=hl.j i hi hx;rw[uo hl hi hx,dJ,Wh]at hv;rcases hv with hv|hv
   ·exact ih _ (by omega) (by omega) v hv
   ·exact ih _ (by omega) (by omega) v hv
  ·have:=hl.f i hi hx;rw[ut hi hx]at hv;exact ((jY hr (by omega) e v).1 hv).2
section
variable {M:Type}{op:M->M->M}{u:M}
def S.fo(op:M->M->M)(u:M)(F:Nat->M):Nat->M
 |0=>u
 |k+1=>op (S.fo op u F k) (F k)
theorem m8{F G:Nat->M}:∀{k:Nat},(∀j,j<k->F j=G j)->S.fo op u F k=S.fo op u G k
 |0,_=>rfl
 |k+1,h=>by rw[S.fo,S.fo,m8 λj hj=>h j (by omega),h k (by omega)]
theorem Ed(h1:∀a,op a u=a){F:Nat->M}:∀{k:Nat},(∀j,j<k->F j=u)->S.fo op u F k=u
 |0,_=>rfl
 |k+1,h=>by rw[S.fo,Ed h1 λj hj=>h j (by omega),h k (by omega),h1]
theorem Ec(h1:∀a,op a u=a)(hc:∀a b,op a b=op b a)(ha:∀a b c,op (op a b) c=op a (op b c)){F:Nat->M}{a:Nat}:∀{k:Nat},a<k->S.fo op u F k=op (S.fo op u (λj=>if j=a then u else F j) k) (F a)
 |0,h=>by omega
 | k+1,h=>by
  rw[S.fo,S.fo]
  by_cases e:a=k
  ·subst e;rw[VC rfl,h1];congr 1;exact m8 λj hj=>(Vz (by omega)).symm
  ·rw[Ec h1 hc ha (by omega:a<k),Vz (λh=>e h.symm),ha,ha,hc (F a)]
def S.UM(op:M->M->M)(wt:Nat->M)(l:List Sp):Nat->Nat->M
 |0,i=>wt i
 |f+1,i=>if (S.sp l i).1 = -1 then op (op (S.UM op wt l f (S.sp l i).2.1.toNat) (S.UM op wt l f (S.sp l i).2.2.toNat)) (wt i) else wt i
def S.ev(op:M->M->M)(wt:Nat->M)(l:List Sp)(i:Nat):M:=S.UM op wt l (i+1) i
theorem MF{wt:Nat->M}{n:Net}{l:List Sp}(hl:LEl n l):∀{i f f':Nat},i<l.length->i<f->i<f'->S.UM op wt l f i=S.UM op wt l f' i:=by
 intro i
 induction i using Nat.strongRecOn with
 | _ i ih =>
  intro f f' hi h h';obtain⟨f,rfl⟩:∃k,f=k+1:=⟨f - 1,by omega⟩;obtain⟨f',rfl⟩:∃k,f'=k+1:=⟨f' - 1,by omega⟩;rw[S.UM,S.UM]
  by_cases hx:(S.sp l i).1 = -1
  ·obtain⟨a,b,c,d⟩:=hl.j i hi hx;rw[VC hx,VC hx,ih (S.sp l i).2.1.toNat (by omega) (f:=f) (f':=f') (by omega) (by omega) (by omega),ih (S.sp l i).2.2.toNat (by omega) (f:=f) (f':=f') (by omega) (by omega) (by omega)]
  ·rw[Vz hx,Vz hx]
theorem D7{wt:Nat->M}{n:Net}{l:List Sp}(hl:LEl n l)(hi:i<l.length)(hx:(S.sp l i).1 = -1):S.ev op wt l i=op (op (S.ev op wt l (S.sp l i).2.1.toNat) (S.ev op wt l (S.sp l i).2.2.toNat)) (wt i):=by obtain⟨h,k,a,b⟩:=hl.j i hi hx;rw[S.ev,S.UM,VC hx,S.ev,S.ev,MF hl (f:=i) (f':=(S.sp l i).2.1.toNat+1) (by omega) (by omega) (by omega),MF hl (f:=i) (f':=(S.sp l i).2.2.toNat+1) (by omega) (by omega) (by omega)]
theorem D8{wt:Nat->M}{l:List Sp}(hx:(S.sp l i).1≠-1):S.ev op wt l i=wt i:=by rw[S.ev,S.UM,Vz hx]
end
structure LCk (n:Net) (l:List Sp):Prop where
 len:(l.length:Int)=2*(n.nodes.length:Int) - 1
 el:LEl n l
 uq:LUq l
 nu:∀i,i<l.length->(S.sp l i).1 = -1->S.TQ l i (S.sp l i).2.1=false/\S.TQ l i (S.sp l i).2.2=false
 nl:∀i,i<l.length->(S.sp l i).1≠-1->S.Uc l i (S.sp l i).1=false
 al:∀v:Nat,v<n.nodes.length->S.Uc l l.length (v:Int)=true
 au:∀e:Nat,e<l.length - 1->S.TQ l l.length (e:Int)=true
theorem Nz{n:Net}{l:List Sp}(h:S.ck l n.nodes.length=true):LCk n l:=by
 obtain⟨h1,h2,k⟩:=Ml h;simp only[S.ck,Vx,VK,VQ,VM]at h;obtain⟨⟨⟨-,h4⟩,h5⟩,a⟩:=h;refine⟨h1,h2,k,λi hi hx=>?_,λi hi hx=>?_,h5,a⟩
 ·have:=h4 i hi;rw[S.Um,VC hx,Vx,Vx,Wl,Wl]at this;exact⟨this.1.2,this.2⟩
 ·have:=h4 i hi;rw[S.Um,Vz hx,Vx,Wl]at this;exact this.2
theorem O7{n:Net}{l:List Sp}(hl:LEl n l)(hi:i<=l.length){e:Nat}(he:i<=e+1):S.TQ l i (e:Int)=false:=by
 cases h:S.TQ l i (e:Int) with
 |false=>rfl
 | true =>
  obtain⟨j,k,hx,h2⟩:=rL.1 h;obtain⟨a,b,c,d⟩:=hl.j j (by omega) hx;omega
section
variable {M:Type}{op:M->M->M}{u:M}{n:Net}{l:List Sp}
theorem Gz(h1:∀a,op a u=a)(hc:∀a b,op a b=op b a)(ha:∀a b c,op (op a b) c=op a (op b c))(hl:LCk n l)(wt:Nat->M) :
  ∀{i:Nat},i<=l.length->S.fo op u (λj=>if S.TQ l i (j:Int)=true then u else S.ev op wt l j) i=S.fo op u wt i
 |0,_=>rfl
 | i+1,hi=>by
  have ih:=Gz h1 hc ha hl wt (i:=i) (by omega);have k:S.TQ l (i+1) (i:Int)=false:=O7 hl.el hi (by omega);rw[S.fo,S.fo,Vz (by rw[k];exact Yu),<-ih]
  by_cases hx:(S.sp l i).1 = -1
  ·obtain⟨d,f,m,o⟩:=hl.el.j i (by omega) hx;obtain⟨a,ea⟩:=Vy d;obtain⟨b,eb⟩:=Vy m;have h:=hl.uq.ne i (by omega) hx;obtain⟨n1,n2⟩:=hl.nu i (by omega) hx;rw[D7 hl.el (by omega) hx];rw[ea]at f h n1;rw[eb]at o h n2;rw[ea,eb,VU,VU];have e1:S.fo op u (λj=>if S.TQ l (i+1) (j:Int)=true then u else S.ev op wt l j) i=S.fo op u (λj=>if j=b then u else if j=a then u else if S.TQ l i (j:Int)=true then u else S.ev op wt l j) i:=m8 λj hj=>by
    rw[xr,hx,ea,eb]
    by_cases c1:j=b
    ·subst c1;simp
    ·by_cases c2:j=a
     ·subst c2;simp
     ·have:¬(a:Int)=(j:Int):=by omega
      have:¬(b:Int)=(j:Int):=by omega
      simp[*]
   rw[e1]
   conv=>rhs;rw[Ec h1 hc ha (show a<i by omega)]
   rw[Ec (F:=λj=>if j=a then u else if S.TQ l i (j:Int)=true then u else S.ev op wt l j) (a:=b) h1 hc ha (show b<i by omega)];simp only[n1,n2,WV,if_false];rw[Vz (show ¬b=a from λe=>h (by rw[e]))];rw[<-ha,<-ha];congr 1;rw[ha,ha,hc (S.ev op wt l b)]
  ·rw[D8 hx];congr 1;exact m8 λj hj=>by rw[xr];simp[hx]
theorem GW(h1:∀a,op a u=a)(hc:∀a b,op a b=op b a)(ha:∀a b c,op (op a b) c=op a (op b c))(hl:LCk n l)(h0:0<l.length)(wt:Nat->M) :
  S.ev op wt l (l.length - 1)=S.fo op u wt l.length:=by
 rw[<-Gz h1 hc ha hl wt (Vu _)];obtain⟨m,hm⟩:∃m,l.length=m+1:=⟨l.length - 1,by omega⟩;have h:S.TQ l (m+1) (m:Int)=false:=O7 hl.el (by omega) (by omega);rw[hm,Yw,S.fo,Vz (by rw[h];exact Yu),Ed h1,hc,h1];intro j k;rw[VC];rw[<-hm];exact hl.au j (by omega)
theorem Gf(h1:∀a,op a u=a)(hc:∀a b,op a b=op b a)(ha:∀a b c,op (op a b) c=op a (op b c))(hl:LCk n l)(F:Nat->M) :
  S.fo op u (λj=>if (S.sp l j).1 = -1 then u else F (S.sp l j).1.toNat) l.length=S.fo op u F n.nodes.length:=by
 have key:∀i,i<=l.length->S.fo op u (λj=>if (S.sp l j).1 = -1 then u else F (S.sp l j).1.toNat) i=S.fo op u (λv=>if S.Uc l i (v:Int)=true then F v else u) n.nodes.length:=by
  intro i
  induction i with
  |zero=>intro _;exact (Ed h1 λj _=>by simp[S.Uc]).symm
  | succ i ih =>
   intro hi;rw[S.fo,ih (by omega)]
   by_cases hx:(S.sp l i).1 = -1
   ·rw[VC hx,h1];refine m8 λj hj=>?_;rw[tK,hx];have:¬(-1:Int)=(j:Int):=by omega
    simp[this]
   ·obtain⟨k,d⟩:=hl.el.f i (by omega) hx;have h:=hl.nl i (by omega) hx;obtain⟨v,ev⟩:=Vy k;rw[Vz hx];rw[ev]at d h;rw[ev,VU]
    conv=>rhs;rw[Ec (a:=v) h1 hc ha (by omega)]
    rw[tK,ev,VC (by simp)];congr 1;refine m8 λj hj=>?_
    by_cases c:j=v
    ·subst c;rw[VC rfl,Vz (by rw[h];exact Yu)]
    ·have:¬(v:Int)=(j:Int):=by omega
     rw[Vz c,tK,ev];simp[this]
 rw[key _ (Vu _)];exact m8 λv hv=>VC (hl.al v hv)
end
def S.Ve(l:List Sp)(i:Nat):Nat:=S.ev (·+·) (λ_=>1) l i
def S.U9(l:List Sp)(e i:Nat):Nat:=S.ev (·+·) (λj=>if j=e then 1 else 0) l i
section
variable {w':List Int}
theorem SD{x y:Int}(h:x % 18446744073709551616=y % 18446744073709551616):w64 x=w64 y:=by
 have h':x % (2 ^ 64:Int)=y % (2 ^ 64:Int):=by omega
 simp only[w64,IntKind.wrap,IntKind.bits,IntKind.signed,WA,VK,h'];simp
theorem zZ(x:Int):w64 x % 18446744073709551616=x % 18446744073709551616:=by
 simp only[w64,IntKind.wrap,IntKind.bits,IntKind.signed,WA,VK]
 split<;>omega
theorem Pa(s x y:Int):w64 (w64 s+w64 (w64 x*w64 y))=w64 (s+x*y):=SD (by
 rw[Int.add_emod,zZ,zZ,Int.mul_emod,zZ,zZ,<-Int.mul_emod,<-Int.add_emod])
def S.gw(n:Net)(l:List Sp)(w:List Int)(j:Nat):Int:=if (S.sp l j).1 = -1 then 1 else S.TL n w (S.sp l j).1.toNat
def S.Uk(n:Net)(l:List Sp)(i:Nat)(w:List Int):Int:=S.ev (·*·) (S.gw n l w) l i
theorem AS(hl:LEl n l)(hi:i<l.length)(hx:(S.sp l i).1 = -1)(w:List Int):S.Uk n l i w=S.Uk n l (S.sp l i).2.1.toNat w*S.Uk n l (S.sp l i).2.2.toNat w:=by have h:S.Uk n l i w=S.Uk n l (S.sp l i).2.1.toNat w*S.Uk n l (S.sp l i).2.2.toNat w*S.gw n l w i:=D7 hl hi hx;rw[h,S.gw,VC hx,Int.mul_one]
theorem AT(hx:(S.sp l i).1≠-1)(w:List Int):S.Uk n l i w=S.TL n w (S.sp l i).1.toNat:=by have h:S.Uk n l i w=S.gw n l w i:=D8 hx;rw[h,S.gw,Vz hx]
theorem PL{u:Nat}(h:∀p∈S.TV n u,w[p.toNat]?.getD 0=w'[p.toNat]?.getD 0):S.TL n w u=S.TL n w' u:=by
 unfold S.TL
 split
 ·rfl
 ·rename_i x hx;have k:S.TV n u=x.parents++[(u:Int)]:=by simp[S.TV,hx]
  rw[k]at h;have e1:S.TA w x.parents=S.TA w' x.parents:=WI λp hp=>h p (by simp[hp]);have e2:=h (u:Int) (by simp);rw[VU]at e2;rw[e1,e2]
theorem Ee(hr:NR n)(hl:LEl n l):∀{i:Nat},i<l.length->(∀v:Nat,v<n.nodes.length->(e[v]?.getD 0≠-1\/((S.vr n e l)[i]?.getD 0).testBit v=true)->w[v]?.getD 0=w'[v]?.getD 0)->S.Uk n l i w=S.Uk n l i w':=by
 intro i
 induction i using Nat.strongRecOn with
 | _ i ih =>
  intro hi h
  by_cases hx:(S.sp l i).1 = -1
  ·obtain⟨k,a,b,d⟩:=hl.j i hi hx;rw[AS hl hi hx,AS hl hi hx];rw[uo hl hi hx]at h;rw[ih _ (by omega) (by omega) λv hv hh=>h v hv (hh.imp id λhb=>by rw[dJ,hb,Yl]),
    ih _ (by omega) (by omega) λv hv hh=>h v hv (hh.imp id λhb=>by rw[dJ,hb,YH])]
  ·obtain⟨k,a⟩:=hl.f i hi hx;rw[AT hx,AT hx];rw[ut hi hx]at h;refine PL λp hp=>?_;have hb:=jX hr (by omega) p hp;refine h _ (by omega) ?_
   by_cases c:e[p.toNat]?.getD 0 = -1
   ·exact .inr ((jY hr (by omega) e _).2 ⟨by rw[Yq hb.1];exact hp,c⟩)
   ·exact .inl c
theorem wT{x:Int}(h:i≠a):(w.set a x)[i]?.getD 0=w[i]?.getD 0:=by rw[W0 (WD h)]
def S.nm(n:Net)(l:List Sp)(i s:Nat)(w:List Int):Int:=S.TH (S.Tx n) (S.Tz n s) (S.Uk n l i) w
theorem Qj(hr:NR n)(hl:LEl n l)(hi:i<l.length)(hx:(S.sp l i).1 = -1){va vb:Nat}(hva:va=(S.vr n e l)[(S.sp l i).2.1.toNat]?.getD 0)(hvb:vb=(S.vr n e l)[(S.sp l i).2.2.toNat]?.getD 0)(hc:c=S.TF (va &&& vb) ab)(w:List Int) :
  S.nm n l i (S.TF ((S.vr n e l)[i]?.getD 0) ab) w=S.TH (S.Tx n) (S.Tz n c) (λw=>S.nm n l (S.sp l i).2.1.toNat (S.TF va (ab ||| c)) w*S.nm n l (S.sp l i).2.2.toNat (S.TF vb (ab ||| c)) w) w:=by
 obtain⟨k,a,b,d⟩:=hl.j i hi hx;have ho:=xy (e:=e) hr hl;have e1:S.Tz n (S.TF ((S.vr n e l)[i]?.getD 0) ab)=(List.range n.nodes.length).filter λv=>c.testBit v || ((S.TF va (ab ||| c)).testBit v || (S.TF vb (ab ||| c)).testBit v):=by rw[S.Tz];refine YB λv _=>?_;rw[uo hl hi hx,<-hva,<-hvb,hc];simp only[ei,dJ,Xj];cases va.testBit v<;>cases vb.testBit v<;>cases ab.testBit v<;>rfl
 rw[S.nm,e1,Ab (λv h=>?_) YJ]
 ·show S.TH (S.Tx n) (S.Tz n c) _ w=_;congr 1;refine funext λw=>?_;rw[Ab (λv h=>?_) YJ]
  ·rw[show (S.Uk n l i)=λw=>S.Uk n l (S.sp l i).2.1.toNat w*S.Uk n l (S.sp l i).2.2.toNat w from funext λw=>AS hl hi hx w];refine L3 (λv hv hv2=>?_) (λv hv x w=>?_) (λv hv x w=>?_)
   ·rw[YQ]at hv hv2;have h1:=hv.2;have h2:=hv2.2;rw[hc]at h1 h2;simp only[ei,dJ,Xj]at h1 h2;revert h1 h2;cases va.testBit v<;>cases vb.testBit v<;>cases ab.testBit v<;>simp
   ·rw[YQ]at hv;have h2:=hv.2;refine Ee (e:=e) hr hl (by omega) λu hu hh=>wT λeq=>?_;subst eq;rw[hc]at h2;simp only[ei,dJ,Xj]at h2;rcases hh with hh|hh
    ·refine hh (ho _ (show (S.sp l i).2.2.toNat<l.length by omega) u ?_);rw[<-hvb];revert h2;cases va.testBit u<;>cases vb.testBit u<;>simp
    ·rw[<-hva]at hh;revert h2;rw[hh];cases vb.testBit u<;>cases ab.testBit u<;>simp
   ·rw[YQ]at hv;have h2:=hv.2;refine Ee (e:=e) hr hl (by omega) λu hu hh=>wT λeq=>?_;subst eq;rw[hc]at h2;simp only[ei,dJ,Xj]at h2;rcases hh with hh|hh
    ·refine hh (ho _ (show (S.sp l i).2.1.toNat<l.length by omega) u ?_);rw[<-hva];revert h2;cases va.testBit u<;>cases vb.testBit u<;>simp
    ·rw[<-hvb]at hh;revert h2;rw[hh];cases va.testBit u<;>cases ab.testBit u<;>simp
  ·rw[hc]at h ⊢;simp only[ei,dJ,Xj]at h ⊢;revert h;cases va.testBit v<;>cases vb.testBit v<;>cases ab.testBit v<;>simp
 ·rw[hc]at h ⊢;simp only[ei,dJ,Xj]at h ⊢;revert h;cases va.testBit v<;>cases vb.testBit v<;>cases ab.testBit v<;>simp
structure Ev (n:Net) (e:List Int) (ab:Nat) (w:List Int):Prop where
 l:w.length=n.nodes.length
 k:∀v:Nat,v<n.nodes.length->e[v]?.getD 0≠-1->w[v]?.getD 0=e[v]?.getD 0
 o:∀v:Nat,v<n.nodes.length->e[v]?.getD 0 = -1->(w[v]?.getD 0 = -1↔ab.testBit v=false)
theorem Kf{v:Nat}:∀{L:List Nat} {w w' xs:List Int},w.length=w'.length->xs.length=L.length->(v∈L\/w[v]?=w'[v]?)->(S.TM w L xs)[v]?=(S.TM w' L xs)[v]?
 | [],w,w',xs,_,_,h=>by
  rcases h with h|h
  ·simp at h
  ·simpa [S.TM] using h
 |u::r,w,w',[],_,h2,_=>by simp at h2
 | u::r,w,w',x::xs,h1,h2,h=>by
  rw[S.TM,S.TM];refine Kf (by simp[h1]) (by simpa using h2) ?_
  by_cases c:u=v
  ·subst c;right;rw[Wi,Wi,h1];simp
  ·rcases h with h|h
   ·exact .inl ((VP.1 h).resolve_left λe=>c e.symm)
   ·right;rw[W0 c,W0 c,h]
theorem Sb(hr:NR n)(hl:LEl n l)(hi:i<l.length)(hw:Ev n e ab w)(hw':Ev n e ab w')(hk:S.TU w ((S.vr n e l)[i]?.getD 0 &&& ab)=S.TU w' ((S.vr n e l)[i]?.getD 0 &&& ab)) :
  S.nm n l i (S.TF ((S.vr n e l)[i]?.getD 0) ab) w=S.nm n l i (S.TF ((S.vr n e l)[i]?.getD 0) ab) w':=by
 have h8:=hr.l2;rw[S.nm,S.nm,zE,zE];refine qC λxs hxs=>Ee (e:=e) hr hl hi λv hv hh=>?_;have h:xs.length=(S.Tz n (S.TF ((S.vr n e l)[i]?.getD 0) ab)).length:=by simpa using hxs.len
 by_cases c:v∈S.Tz n (S.TF ((S.vr n e l)[i]?.getD 0) ab)
 ·exact congrArg (λo=>Option.getD o 0) (Kf (hw.l.trans hw'.l.symm) h (.inl c))
 ·rw[qy c,qy c]
  by_cases hv1:e[v]?.getD 0 = -1
  ·rcases hh with hh|hh
   ·exact absurd hv1 hh
   ·have a:ab.testBit v=true:=by
     cases hb:ab.testBit v with
     |true=>rfl
     |false=>exact absurd (lF.2 ⟨hv,by rw[ei,hh,hb];rfl⟩) c
    have h1:=congrArg (λL:List Int=>L[v]?) hk;simp only[S.TU,Vw,XA (show v<8 by omega),WM,Xj,hh,a,Yd,if_true,Wj]at h1;exact h1
  ·rw[hw.k v hv hv1,hw'.k v hv hv1]
theorem Ot(hr:NR n)(hc:∀v:Nat,c.testBit v=true->e[v]?.getD 0 = -1)(hw:Ev n e ab w)(j:Nat):Ev n e (ab ||| c) (S.TE n w (S.Tz n c) j):=by
 refine⟨by rw[S.TE,tP];exact hw.l,λv hv h=>?_,λv hv h=>?_⟩
 ·have:v ∉ S.Tz n c:=λhm=>h (hc v (lF.1 hm).2);rw[xg this];exact hw.k v hv h
 ·by_cases hm:v∈S.Tz n c
  ·obtain⟨x,h1,h2,a⟩:=Ic hr hw.l (j:=j) hm;rw[h1,dJ,(lF.1 hm).2,YH,VB];constructor
   ·intro hx;omega
   ·intro hx;cases hx
  ·rw[xg hm,hw.o v hv h,dJ];have:c.testBit v=false:=by
    cases hb:c.testBit v with
    |false=>rfl
    |true=>exact absurd (lF.2 ⟨hv,hb⟩) hm
   rw[this,Bool.or_false]
theorem OQ(hr:NR n)(s:Nat)(F:List Int->Int)(w:List Int):S.sm (λj=>F (S.TE n w (S.Tz n s) j)) (S.TS n (S.Tz n s))=S.TH (S.Tx n) (S.Tz n s) F w:=by refine Hr λv hv=>?_;have:=(lF.1 hv).1;rw[Vt (by rw[aH];exact this),VB];exact (hr.cs _ (Wy _)).1
theorem R3(hr:NR n)(hl:LEl n l)(hi:i<l.length)(hx:(S.sp l i).1≠-1)(hw:Ev n e ab w):S.UW n w (S.sp l i).1.toNat=S.nm n l i (S.TF ((S.vr n e l)[i]?.getD 0) ab) w:=by
 obtain⟨d,j⟩:=hl.f i hi hx;have e1:S.Tz n (S.TG n w (S.sp l i).1.toNat)=S.Tz n (S.TF ((S.vr n e l)[i]?.getD 0) ab):=by
  rw[S.Tz,S.Tz,ut hi hx];refine YB λv h=>?_;have h:=VM.1 h;rw[WU,jY hr (by omega),ei,Vx,jY hr (by omega),Wl]
  by_cases c:e[v]?.getD 0 = -1
  ·rw[hw.o v h c];constructor
   ·rintro⟨a,b⟩;exact⟨⟨a,c⟩,b⟩
   ·rintro⟨⟨a,-⟩,b⟩;exact⟨a,b⟩
  ·rw[hw.k v h c];constructor
   ·rintro⟨a,b⟩;exact absurd b c
   ·rintro⟨⟨-,b⟩,-⟩;exact absurd b c
 rw[S.UW,OQ hr _ (λw=>S.TL n w (S.sp l i).1.toNat),e1,S.nm];congr 1;exact funext λw=>(AT hx w).symm
end
section
variable {α:Type} [DecidableEq α]
theorem Ba(k:α)(v:Int):∀(L:List (α×Int)) (a:α),cK (mst k v L) a=(decide (a=k) || cK L a)
 |[],a=>by simp[mst,cK]
 | (b,w)::r,a=>by
  rw[mst]
  split
  ·rename_i h;subst h;simp[cK]
  ·have ih:=Ba k v r a;simp only[cK]at ih;simp only[cK,List.any_cons,ih];cases decide (a=b)<;>cases decide (a=k)<;>rfl
theorem JO(k:α)(v:Int):∀(L:List (α×Int)) (a:α),mgt (mst k v L) a=if a=k then v else mgt L a
 |[],a=>by simp[mst,mgt]
 | (b,w)::r,a=>by
  rw[mst]
  split
  ·rename_i h;subst h
   by_cases c:a=k
   ·simp[mgt,c]
   ·simp[mgt,c]
  ·rename_i h;have ih:=JO k v r a;simp only[mgt,ih]
   by_cases c:a=b
   ·subst c;rw[VC rfl,Vz λe=>h e.symm,VC rfl]
   ·simp[c]
end
theorem Kk{rec:Rec}{n:Net}{w:List Int}{cu:List Nat}{a b ab:Nat}{st:MSt}{P:Nat->Int×MSt->Prop}(h0:P 0 (0,st)):∀{k:Nat},(∀j s,j<k->P j s->P (j+1) (w64 (s.1+w64 ((rec a (S.TE n w cu j) ab s.2).1*(rec b (S.TE n w cu j) ab (rec a (S.TE n w cu j) ab s.2).2).1)),(rec b (S.TE n w cu j) ab (rec a (S.TE n w cu j) ab s.2).2).2))->P k (S.Us rec n w cu a b ab st k)
 |0,_=>h0
 |k+1,hs=>hs k _ (by omega) (Kk h0 λj s hj=>hs j s (by omega))
def GM(n:Net)(e:List Int)(l:List Sp)(ab:List Nat)(M:Mem):Prop:=∀(i:Nat) (k:List Int),i<l.length->cK M ((i:Int),k)=true->∀w,Ev n e (ab[i]?.getD 0) w->S.TU w ((S.vr n e l)[i]?.getD 0 &&& ab[i]?.getD 0)=k->mgt M ((i:Int),k)=w64 (S.nm n l i (S.TF ((S.vr n e l)[i]?.getD 0) (ab[i]?.getD 0)) w)
theorem RZ(n:Net)(e:List Int)(l:List Sp)(ab:List Nat):GM n e l ab []:=λi k _ h=>by simp[cK]at h
theorem EC{n:Net}{e:List Int}{l:List Sp}{cut ctx ab:List Nat}{size:Int}(hr:NR n)(hl:LEl n l)(hT:Sta l (S.vr n e l) cut ctx ab):∀(f i:Nat) (w:List Int) (st:MSt),i<f->i<l.length->Wv n w->Ev n e (ab[i]?.getD 0) w->GM n e l ab st.1 ->
  (S.TD n l (S.vr n e l) size f i w (ab[i]?.getD 0) st).1=w64 (S.nm n l i (S.TF ((S.vr n e l)[i]?.getD 0) (ab[i]?.getD 0)) w)/\GM n e l ab (S.TD n l (S.vr n e l) size f i w (ab[i]?.getD 0) st).2.1
 |0,i,w,st,h,_,_,_,_=>by omega
 | f+1,i,w,st,h,hi,hW,hE,hM=>by
  rw[S.TD]
  by_cases hx:(S.sp l i).1 = -1
  ·rw[VC hx];obtain⟨F,G,I,J⟩:=hl.j i hi hx
   by_cases hm:cK st.1 ((i:Int),S.TU w ((S.vr n e l)[i]?.getD 0 &&& ab[i]?.getD 0))=true
   ·rw[VC hm];exact⟨hM i _ hi hm w hE rfl,hM⟩
   ·rw[Vz hm];have hc:=hT.s2 i hi hx;have u:=hT.s3 i hi hx;have h4:=hT.s4 i hi hx;rw[hc]at u h4;obtain⟨c,a⟩:∃c,c=S.TF ((S.vr n e l)[(S.sp l i).2.1.toNat]?.getD 0 &&& (S.vr n e l)[(S.sp l i).2.2.toNat]?.getD 0) (ab[i]?.getD 0):=⟨_,rfl⟩;rw[<-a]at u h4 ⊢;dsimp only;have y:∀v:Nat,c.testBit v=true->e[v]?.getD 0 = -1:=λv hv=>by rw[a,ei,Xj,Vx,Vx]at hv;exact xy hr hl _ (show (S.sp l i).2.1.toNat<l.length by omega) v hv.1.1
    have x:=Qj hr hl (ab:=ab[i]?.getD 0) hi hx rfl rfl a w;rw[<-OQ hr c (λw=>S.nm n l (S.sp l i).2.1.toNat (S.TF ((S.vr n e l)[(S.sp l i).2.1.toNat]?.getD 0) (ab[i]?.getD 0 ||| c)) w*S.nm n l (S.sp l i).2.2.toNat (S.TF ((S.vr n e l)[(S.sp l i).2.2.toNat]?.getD 0) (ab[i]?.getD 0 ||| c)) w) w]at x;obtain⟨k,hk⟩:∃k,k=S.TS n (S.Tz n c):=⟨_,rfl⟩;rw[<-hk]at x ⊢;obtain⟨r,q⟩:∃r,r=S.Us (S.TD n l (S.vr n e l) size f) n w (S.Tz n c) (S.sp l i).2.1.toNat (S.sp l i).2.2.toNat (ab[i]?.getD 0 ||| c) (st.1,w64 (st.2+1)) k:=⟨_,rfl⟩;have key:r.1=w64 (S.nm n l i (S.TF ((S.vr n e l)[i]?.getD 0) (ab[i]?.getD 0)) w)/\GM n e l ab r.2.1:=by rw[x,q];refine Kk (rec:=S.TD n l (S.vr n e l) size f) (st:=(st.1,w64 (st.2+1))) (P:=λj s=>s.1=w64 (S.sm (λj=>S.nm n l (S.sp l i).2.1.toNat (S.TF ((S.vr n e l)[(S.sp l i).2.1.toNat]?.getD 0) (ab[i]?.getD 0 ||| c)) (S.TE n w (S.Tz n c) j)*S.nm n l (S.sp l i).2.2.toNat (S.TF ((S.vr n e l)[(S.sp l i).2.2.toNat]?.getD 0) (ab[i]?.getD 0 ||| c)) (S.TE n w (S.Tz n c) j)) j)/\GM n e l ab s.2.1) ⟨rfl,hM⟩ ?_;intro j s H ⟨D,E⟩;have b:=Ot hr y hE j;have d:=EL hr hW c j;obtain⟨a1,a2⟩:=EC hr hl hT f (S.sp l i).2.1.toNat (S.TE n w (S.Tz n c) j) s.2 (by omega) (by omega) d (by rw[u];exact b) E;rw[u]at a1 a2;obtain⟨b1,b2⟩:=EC hr hl hT f (S.sp l i).2.2.toNat (S.TE n w (S.Tz n c) j) (S.TD n l (S.vr n e l) size f (S.sp l i).2.1.toNat (S.TE n w (S.Tz n c) j) (ab[i]?.getD 0 ||| c) s.2).2 (by omega) (by omega) d (by rw[h4];exact b) a2;rw[h4]at b1 b2;refine⟨?_,b2⟩;dsimp only;rw[a1,b1,D,Pa,S.sm]
    rw[<-q];refine⟨key.1,?_⟩
    split
    ·intro i' k' A p w' t o;rw[JO]
     split
     ·rename_i m;have e1:(i':Int)=(i:Int):=congrArg Prod.fst m;have e2:k'=_:=congrArg Prod.snd m;have e1:i'=i:=by omega
      subst e1;dsimp only at e2;rw[key.1,Sb hr hl hi hE t (by rw[o,e2])]
     ·rename_i B;rw[Ba,We B,Bool.false_or]at p;exact key.2 i' k' A p w' t o
    ·exact key.2
  ·rw[Vz hx];obtain⟨F,G⟩:=hl.f i hi hx;refine⟨?_,hM⟩;dsimp only;rw[<-R3 hr hl hi hx hE,S.UW];obtain⟨b1,b2⟩:=ua hr hW (v:=(S.sp l i).1.toNat) (by omega) (S.TS n (S.Tz n (S.TG n w (S.sp l i).1.toNat)));have z:=Be hr (S.TG n w (S.sp l i).1.toNat);obtain⟨W1,W2,W3⟩:=z.nc;have C:S.TS n (S.Tz n (S.TG n w (S.sp l i).1.toNat))<=65536:=W2;exact (ap (by omega) (by omega)).symm
end
end Hx
