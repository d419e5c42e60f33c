/- A part of the proof. -/
import Derived.OpenShut
import Derived.DataReads
import Derived.Test.YteaikmdilmfbeaaGreatHx11
set_option linter.all false
set_option maxRecDepth 20000
set_option maxHeartbeats 8000000
namespace Hx
open Go
noncomputable section
variable {n:Xb}{e XF:List Int}{b lw odw rww:AV}
def y_[Xr]:Prop:=∀{d k1 k2 k3 k4:Nat} {P1 P2 P3 P4:Nat->Prop} {g:G} {n:Xb} {e XF XB:List Int} {proof:List (List Int)} {v w u x z:AV},0<d->WG n Xt 0 g.h v->Xu P1 k1 g.h e w->Xu P2 k2 g.h XF u->k2<=d->Xu P3 k3 g.h XB x->k3<=d->Xu P4 k4 g.h proof z->k4<=d ->
 ah C0 d 27 [v,w,u,x,z] g=.val (XE (rJ n e XF XB proof))
def PC(p16:Nat)(lw odw rww nets ask:AV)(i j:Nat):List (Nat×AV):=[(3,lw),(5,odw),(6,rww),(7,Xq 0),(9,Xq 2),(11,Xq 3),(16,Xq p16),(35,nets),(36,XE (i:Int)),(42,ask),(43,XE (j:Int))]
def Pl(p18:Nat)(want lists:AV)(m:Nat)(R:List (Nat×AV)):List (Nat×AV):=(18,Xq p18)::(22,want)::(119,lists)::(120,XE (m:Int))::R
theorem bd6[Xr](hR:y_){p16 p18 m i0 i1 j1:Nat}{v1 v2:List Int}{Y:List (List Int)}{ew vw y w1 w2 want lists nets ask:AV}{Q:QT}{t:T}{g:G}(hm:∀h,WG n Xt 0 h (.agg [XE n.Xz,b]))(he:Xu Xt 0 .nil e ew)(hv:Xu Xt 0 .nil XF vw)(hv1:K6 vw)(h1:Xu Xt 0 .nil v1 w1)(h2:Xu Xt 0 .nil v2 w2)(hY:Xu Xt 0 .nil Y y)
  (g16:g.h.get p16=Xy 2 [[XE n.Xz,b]]) (g18:g.h.get p18=Xy 2 [[ew,vw]])
  (ht:St t ((131,.agg [w1,w2])::(28,y)::(121,XE (i0:Int))::Pl p18 want lists m (PC p16 lw odw rww nets ask i1 j1))) (h132:Xs t 132=XE 0)
  (fin:∀t,St t ((121,XE (i0:Int))::Pl p18 want lists m (PC p16 lw odw rww nets ask i1 j1))->Q (.exit 6) t [] g):VY (wp C0 1 none dX) Q t [] g:=by
 simp only[dX];refine xd (m:=2) rfl (by omega) (λj t df g'=>df=[]/\g'=g/\St t ((131,.agg [w1,w2])::(28,y)::(121,XE (i0:Int))::Pl p18 want lists m (PC p16 lw odw rww nets ask i1 j1))) ⟨rfl,rfl,ht⟩ h132 (by decide) ?_ ?_ ?_
 ·rintro j t df g v s (rfl|rfl|rfl) ⟨a1,a2,b1,b2,C,L,D,E,F,I,J,a,c,f,i,B,o,p,q,u,-⟩<;>exact⟨a1,a2,by simp[St,Pl,PC,sx,b1,b2,C,L,D,E,F,I,J,a,c,f,i,B,o,p,q,u]⟩
 ·rintro j t df g' N ⟨rfl,rfl,k,A,C,z,D,E,F,I,J,a,c,f,i,x,o,p,q,u,-⟩ h132;obtain⟨v,w,hw,K⟩:∃(v:List Int) (w:AV),Xu Xt 0 .nil v w/\Vj false 2 1 (.agg [w1,w2]) (XE (j:Int))=.val w:=by
   have:j=0\/j=1:=by omega
   rcases this with rfl|rfl
   ·exact⟨v1,w1,h1,rfl⟩
   ·exact⟨v2,w2,h2,rfl⟩
  have wd:∀{l:List Int} {v:AV} (h:H),Xu Xt 0 .nil l v->Xu Xt 0 h l v:=λh r=>r.tree (XH 0);have M:=λg:G=>hR (d:=1) (g:=g) (n:=n) (e:=e) (XF:=XF) (XB:=v) (proof:=Y) (by decide) (hm g.h) (wd g.h he) (wd g.h hv) (by decide) (wd g.h hw) (by decide) (hY.tree (h':=g.h) (XH 0)) (by decide);have k2:=λg:G=>BC (d:=1) (g:=g) (n:=n) (e:=e) (XF:=XF) (XB:=v) (proof:=Y) (by decide) (hm g.h) (wd g.h he) (wd g.h hv) hv1 (wd g.h hw) (hY.tree (h':=g.h) (XH 0));simp only[sz,simprocAttr,k,h132,A,z,x,K,g16,g18,xa0,xa1,M,k2];simp[St,Pl,PC,sx,k,A,C,z,D,E,F,I,J,a,c,f,i,x,o,p,q,u]
 ·rintro t df g' ⟨rfl,rfl,-,-,ht⟩;exact fin t ht
def bd5{p q:AV}(hp:p.cells=[p]/\p.isTup=false)(hq:q.cells=[q]/\q.isTup=false):d_ [.XC,.XC] [((0,1),p),((1,1),q)]=some [p,q]:=by simp[d_,hp,hq,gc,bD]
def bd4[Xr](hR:y_){p16 p18 B i1 j1:Nat}{v1 odd:List Int}{ew vw w1 lists nets ask:AV}{ys:List AV}{Q:QT}{t:T}{g:G}(hm:∀h,WG n Xt 0 h (.agg [XE n.Xz,b]))(he:Xu Xt 0 .nil e ew)(hv:Xu Xt 0 .nil XF vw)(hv1:K6 vw)(h1:Xu Xt 0 .nil v1 w1)(hod:Xu Xt 0 .nil odd odw)(hodr:Raw odw)
  (hys:∀y∈ys,∃Y:List (List Int),Xu Xt 0 .nil Y y) (hyl:ys.length<=100) (hO:Own g B lists 1 (ys.map λy=>[y]))
  (g16:g.h.get p16=Xy 2 [[XE n.Xz,b]]) (g18:g.h.get p18=Xy 2 [[ew,vw]])
  (ht:St t (Pl p18 w1 lists ys.length (PC p16 lw odw rww nets ask i1 j1))) (h121:Xs t 121=XE 0)
  (fin:∀t,St t (PC p16 lw odw rww nets ask i1 j1)->Q (.exit 4) t [] g):VY (wp C0 1 none dY) Q t [] g:=by
 obtain⟨w2,V,K,-⟩:=Hl hod hodr 10;have lo:=(hod.tree (h':=.nil) (XH 0)).len;have I:∀g,fE 1 odw none (some (XE (min (odd.length:Int) 10))) g=.val w2:=V;simp only[dY,iL];refine aT (m:=ys.length) (by omega) (λj t df g'=>df=[]/\g'=g/\St t (Pl p18 w1 lists ys.length (PC p16 lw odw rww nets ask i1 j1))) ⟨rfl,rfl,ht⟩ h121 ht.2.2.2.1 (by decide) ?_ ?_ ?_
 ·rintro j t df g v s (rfl|rfl|rfl) ⟨a1,a2,L,M,N,O,P,R,d,f,i,l,o,p,q,r,u,-⟩<;>exact⟨a1,a2,by simp[St,Pl,PC,sx,L,M,N,O,P,R,d,f,i,l,o,p,q,r,u]⟩
 ·rintro j t df g' J ⟨rfl,rfl,A,c,k,a,h3,h5,h6,h7,h9,w,z,C,D,E,F,-⟩ h121 x;obtain⟨y,U,-,H⟩:=af J;obtain⟨Y,S⟩:=hys y H;have W:j<(ys.map λy=>[y]).length:=by rw[XN];exact J
  simp only[sz,simprocAttr,k,h121,hO.rows,W,yf U,c,h5,lo,YD,Yz,I,bd5 h1.cell K.cell];refine bd6 hR (v1:=v1) (v2:=odd.take 10) (Y:=Y) (w1:=w1) (w2:=w2) (y:=y) (i0:=j) (p16:=p16) (p18:=p18) (m:=ys.length) (lists:=lists) (want:=w1) (lw:=lw) (odw:=odw) (rww:=rww) (nets:=nets) (ask:=ask) (i1:=i1) (j1:=j1) hm he hv hv1 h1 K S g16 g18 (by simp[St,Pl,PC,sx,A,c,k,a,h3,h5,h6,h7,h9,w,z,C,D,E,F,h121]) (by simp[sx]) ?_;rintro t ⟨h121,ht⟩;simp only[sz,simprocAttr];exact⟨ht,h121,ht.2.2.2.1⟩
 ·rintro t df g' ⟨rfl,rfl,-,-,-,-,ht⟩;exact fin t ht
def bd3{w:AV}{l:List (List Int)}(hw:Xu Xt 0 .nil l w)(hr:Raw w)(c:Nat) :
  ∃w',(∀g,fE 1 w none (some (XE (min (l.length:Int) (c:Int)))) g=.val w')/\Xu Xt 0 .nil (l.take c) w':=by
 have hm:min (l.length:Int) (c:Int)=((min l.length c:Nat):Int):=by omega
 rw[hm];have hlt:(l.take c).length<2^63:=by have:=hw.1;rw[X5];omega
 rcases hr with rfl|⟨rows,rfl⟩
 ·have hl:l=[]:=hw.2;subst hl;refine⟨.XC,λg=>?_,hlt,by simp[Oe]⟩;have:min ([]:List (List Int)).length c=0:=by simp
  rw[this];rfl
 ·let⟨h0,h1,h2⟩:=(show 0<=0/\(1=Rp.sz (List Int)\/rows=[])/\Xl (Rp.rp Xt 0 .nil) l rows from hw.2);have k:=h2.len;refine⟨.WO 0 1 (rows.take (min l.length c)),λg=>?_,hlt,?_⟩
  ·show VW (match aS (bD rows) (bD rows) (some (XE (.ofNat (min l.length c)))) with
    |none=>none
    | some h=>match aS 0 h none with
     |none=>none
     |some l=>ax (Nat.beq 1 1) (some (.WO 0 1 (h_ (h - l) (gG l rows)))) none)=_
   have:aS (bD rows) (bD rows) (some (XE (.ofNat (min l.length c))))=some (min l.length c):=by show ax (Nat.ble (min l.length c) (bD rows)) (some (min l.length c)) none=_;rw[aa,XO];rw[ay,<-k];simp;omega
   rw[this];show VW (ax (Nat.beq 1 1) (some (AV.WO 0 1 (h_ (min l.length c - 0) (gG 0 rows)))) none)=_;rw[show Nat.beq 1 1=true from rfl,WK,bI,bK,Zc,Zo];rfl
  ·refine⟨XH _,h1.elim .inl (λh=>.inr (by rw[h];simp)),?_⟩;have:=h2.take (min l.length c);rwa [show l.take (min l.length c)=l.take c by rw[Nat.min_comm,<-abe,XV]]at this
def A5(h:AM n e XF=0):(NR n/\zq n e=true)/\CY XF (n.XD.length:Int)=true:=by
 unfold AM at h
 split at h
 ·rename_i c;exact tf.1 c
 ·rename_i c;exact absurd h c
def bd2(h:AM n e XF=0):rJ n e XF (zh n e XF) (xK n e XF)=0:=by
 obtain⟨⟨hr,a⟩,hp⟩:=A5 h;have c:=tf.2 ⟨⟨hr,a⟩,hp⟩;obtain⟨d,b⟩:=rN hr hp;have hb:=ze (e:=e) hr hp;have k:(AH n e XF).length=XF.length:=by rw[<-b];exact hb.len
 rw[zh,XO h,xK,XO h,rJ,XO c,XO ⟨k,CL hr hp (by rwa [XZ (by omega)]) (by omega)⟩,XO (bf7 hr hp)]
def bd1(h:AM n e XF=0):(xK n e XF).length<=65536/\∀l∈xK n e XF,l.length<=8:=by let⟨⟨hr,f⟩,hp⟩:=A5 h;let⟨a,k⟩:=rN hr hp;have i:=hr.l2;have j:=bc hp (by omega);have d:4 ^ XF.length<=4 ^ 8:=Yr (by decide) (by omega);have c:=Cw (cl:=uX n e XF) a.b XF.length [] (by simp[k]);rw[xK,XO h];refine⟨by unfold fN;omega,λl hl=>?_⟩;have:=(He (λl hl=>GS (e:=e) hr hp hl) XF.length [] (by simp[k]) (by trivial) l hl).2.1;omega
def ba4{a c e z:AV}(ha:a.cells=[a]/\a.isTup=false)(hb:b.cells=[b]/\b.isTup=false)(hc:c.cells=[c]/\c.isTup=false)(he:e.cells=[e]/\e.isTup=false)(g:G):M4 1 4 [z] [0,1,2,3] [a,b,c,e] g=.upd (.Xj g.nx 0 0 4 none) (g.new (Xy 1 [[a],[b],[c],[e]])):=by
 have h:cY 1 [[z],[z],[z],[z]] [(0,a),(1,b),(2,c),(3,e)]=some [[a],[b],[c],[e]]:=by
  simp only[cY,ha,hb,hc,he,ay,Zj,WU,ZK]
  rfl
 show (match cY 1 [[z],[z],[z],[z]] [(0,a),(1,b),(2,c),(3,e)] with|some rows=>OR.upd (.Xj g.nx 0 0 4 none) (g.new (Xy 1 rows))|none=>.fail)=_;rw[h]
def xb0(id:Nat):Ki 2 4 (Xq id) (XE 0)=.val (Xq id):=rfl
def xb1(id:Nat):Ki 2 4 (Xq id) (XE 1)=.val (.W9 id 0 0 4):=rfl
def LPs(p16:Nat)(lw odw rww nets ask:AV)(i:Nat):List (Nat×AV):=[(3,lw),(5,odw),(6,rww),(7,Xq 0),(9,Xq 2),(11,Xq 3),(16,Xq p16),(35,nets),(36,XE (i:Int)),(42,ask)]
def ec(x y:gF):List AV:=[Xc x.1,Xc x.2.1,Xc x.2.2.1,XE x.2.2.2,Xc y.1,Xc y.2.1,Xc y.2.2.1,XE y.2.2.2]
theorem ba3[Xr](hR:y_){p16 i1:Nat}{c0 c1:gF}{us:List UInt8}{odd:List Int}{RAW:List (List Int)}{e1 v1 e2 v2 e3 v3:List Int}{a1 a2 a3 a4 a5 a6 nets:AV}{Q:QT}{t:T}{g:G}(hm:∀h,WG n Xt 0 h (.agg [XE n.Xz,b]))(hus:Xu Xt 0 .nil us lw)(hod:Xu Xt 0 .nil odd odw)(hodr:Raw odw)(hrw:Xu Xt 0 .nil RAW rww)(hrwr:Raw rww)
  (q1:Xu Xt 0 .nil e1 a1) (q2:Xu Xt 0 .nil v1 a2) (s2:K6 a2) (q3:Xu Xt 0 .nil e2 a3) (q4:Xu Xt 0 .nil v2 a4) (s4:K6 a4) (q5:Xu Xt 0 .nil e3 a5) (q6:Xu Xt 0 .nil v3 a6) (s6:K6 a6)
  (g16:g.h.get p16=Xy 2 [[XE n.Xz,b]]) (b16:p16<g.nx) (g3:g.h.get 3=Xy 8 [ec c0 c1]) (gn:4<=g.nx)
  (ht:St t (LPs p16 lw odw rww nets (.agg [a1,a2,a3,a4,a5,a6]) i1)) (h43:Xs t 43=XE 0)
  (fin:∀t g',St t (LPs p16 lw odw rww nets (.agg [a1,a2,a3,a4,a5,a6]) i1)->g.nx<=g'.nx->(∀i,i<g.nx->g'.h.get i=g.h.get i)->Q (.exit 2) t [] g'):VY (wp C0 1 none dZ) Q t [] g:=by
 simp only[dZ,iO];refine xd (m:=3) rfl (by omega) (λj t df g'=>df=[]/\St t (LPs p16 lw odw rww nets (.agg [a1,a2,a3,a4,a5,a6]) i1)/\g.nx<=g'.nx/\(∀i,i<g.nx->g'.h.get i=g.h.get i)) ⟨rfl,ht,XH _,λ_ _=>rfl⟩ h43 (by decide) ?_ ?_ ?_
 ·rintro j t df g v s (rfl|rfl|rfl) ⟨a1,⟨b1,b2,b3,b4,b5,b6,b7,b8,b9,hq,-⟩,c⟩<;>exact⟨a1,by simp[St,LPs,sx,b1,b2,b3,b4,b5,b6,b7,b8,b9,hq],c⟩
 ·clear ht h43;rintro j t df g1 hj ⟨rfl,⟨h3,h5,h6,h7,h9,f,a,q,u,o,-⟩,hn,hf⟩ h43;obtain⟨ev,ew,XF,vw,he,hv,hl,k4,k5⟩:∃(ev:List Int) (ew:AV) (XF:List Int) (vw:AV),Xu Xt 0 .nil ev ew/\Xu Xt 0 .nil XF vw/\K6 vw/\(if j=0 then a1 else if j=1 then a3 else a5)=ew/\(if j=0 then a2 else if j=1 then a4 else a6)=vw:=by
   have:j=0\/j=1\/j=2:=by omega
   rcases this with rfl|rfl|rfl
   ·exact⟨e1,a1,v1,a2,q1,q2,s2,rfl,rfl⟩
   ·exact⟨e2,a3,v2,a4,q3,q4,s4,rfl,rfl⟩
   ·exact⟨e3,a5,v3,a6,q5,q6,s6,rfl,rfl⟩
  have h8:g1.h.get p16=Xy 2 [[XE n.Xz,b]]:=by rw[hf _ b16,g16]
  have hw:g1.h.get 3=Xy 8 [ec c0 c1]:=by rw[hf _ (by omega),g3]
  have k9:¬p16=g1.nx:=by omega
  have kb:¬3=g1.nx:=by omega
  obtain⟨p18,hk⟩:∃p18,p18=g1.nx:=⟨_,rfl⟩;refine bP (P:=λt' df g2=>df=[]/\g2.nx=g1.nx+1/\(∀i,i<g1.nx->g2.h.get i=g1.h.get i)/\g2.h.get p18=Xy 2 [[ew,vw]]/\St t' ((18,Xq p18)::PC p16 lw odw rww nets (.agg [a1,a2,a3,a4,a5,a6]) i1 j)) ?_ ?_
  ·simp only[sz,simprocAttr,o,h43,bg6 j hj,k4,k5,hk];simp[St,PC,sx,h3,h5,h6,h7,h9,f,a,q,u,o,h43];intro i hi;rw[aJ,aJ]
  rintro t df g2 ⟨rfl,n2,f2,c2,w,h3,h5,h6,h7,h9,f,a,q,u,o,h43,-⟩;have I:g2.h.get p16=Xy 2 [[XE n.Xz,b]]:=by rw[f2 p16 (by omega),h8]
  have k1:g2.h.get 3=Xy 8 [ec c0 c1]:=by rw[f2 3 (by omega),hw]
  have wd:∀{l:List Int} {v:AV} (h:H),Xu Xt 0 .nil l v->Xu Xt 0 h l v:=λh r=>r.tree (XH 0);refine bP (P:=λt' df g3=>df=[]/\g3=g2/\∃W N,Xu Xt 0 .nil (zh n ev XF) W/\Xu Xt 0 .nil (xK n ev XF) N/\St t' ((19,W)::(20,N)::(21,XE (AM n ev XF))::(18,Xq p18)::PC p16 lw odw rww nets (.agg [a1,a2,a3,a4,a5,a6]) i1 j)) ?_ ?_
  ·simp only[sz,simprocAttr,a,w,I,c2,xa0,xa1];refine aG (be9 (n:=n) (e:=ev) (XF:=XF) (by decide) (hm _) (wd _ he) (wd _ hv) (by decide)) λr hr=>?_;obtain⟨W,N,rfl,O,E⟩:=bf0 hr;simp only[sz,simprocAttr];exact⟨W,N,O,E,by simp[St,PC,sx,w,h3,h5,h6,h7,h9,f,a,q,u,o,h43]⟩
  rintro t df g3 ⟨rfl,rfl,W,N,O,E,C,z,A,w,h3,h5,h6,h7,h9,f,a,q,u,o,h43,-⟩;refine bP (P:=λt' df X=>df=[]/\X.nx=g1.nx+2/\(∀i,i<g3.nx->X.h.get i=g3.h.get i)/\∃U,Xu Xt 0 .nil (zh n ev XF) U/\St t' ((22,U)::(24,XE (AM n ev XF))::(19,W)::(20,N)::(21,XE (AM n ev XF))::(18,Xq p18)::PC p16 lw odw rww nets (.agg [a1,a2,a3,a4,a5,a6]) i1 j)) ?_ ?_
  ·simp only[sz,simprocAttr,a,w,I,c2,xa0,xa1];refine aG (bi4 (n:=n) (e:=ev) (XF:=XF) (by decide) (hm _) (wd _ he) (wd _ hv)) λr hr=>?_;obtain⟨U,rfl,R⟩:=bi7 hr;simp only[sz,simprocAttr,n2];refine⟨λi hi=>by rw[aJ,aJ],U,R,by simp[St,PC,sx,w,C,z,A,h3,h5,h6,h7,h9,f,a,q,u,o,h43]⟩
  rintro t df X ⟨rfl,n4,f4,U,R,B,D,C,z,A,w,h3,h5,h6,h7,h9,f,a,q,u,o,h43,-⟩;have V:X.h.get p16=Xy 2 [[XE n.Xz,b]]:=by rw[f4 p16 (by omega),I]
  have k3:X.h.get 3=Xy 8 [ec c0 c1]:=by rw[f4 3 (by omega),k1]
  have h4:X.h.get p18=Xy 2 [[ew,vw]]:=by rw[f4 p18 (by omega),c2]
  have kq:=λg:G=>vP (d:=1) (g:=g) (P:=Xt) (P2:=Xt) (k:=0) (k2:=0) (l:=zh n ev XF) (l2:=zh n ev XF) (by decide) (O.tree (XH 0)) (R.tree (XH 0));have lp:∀g:G,bC .slice N g=.val (XE ((xK n ev XF).length:Int)):=λg=>E.len g;refine jR (P:=λt' df F=>df=[]/\F=X/\St t' ((22,U)::(24,XE (AM n ev XF))::(19,W)::(20,N)::(21,XE (AM n ev XF))::(18,Xq p18)::PC p16 lw odw rww nets (.agg [a1,a2,a3,a4,a5,a6]) i1 j)) ?_ ?_
  ·by_cases c:AM n ev XF=0
   ·simp only[sz,simprocAttr,A,D,C,B,kq,c];simp[St,PC,sx,w,C,z,A,B,D,h3,h5,h6,h7,h9,f,a,q,u,o,h43,c]
   ·have kc:(xK n ev XF).length=0:=by rw[xK,XS c];rfl
    have c2:¬(0:Int)<((xK n ev XF).length:Int):=by omega
    simp only[sz,simprocAttr,A,D,C,B,z,kq,c,lp,c2];simp[St,PC,sx,w,C,z,A,B,D,h3,h5,h6,h7,h9,f,a,q,u,o,h43]
  clear B D C z A w h3 h5 h6 h7 h9 f a q u o h43;rintro t df F ⟨rfl,rfl,B,D,C,z,A,w,h3,h5,h6,h7,h9,f,a,q,u,o,h43,-⟩;obtain⟨y2,r1,r2⟩:=bd3 hrw hrwr 8;have k8:∀g,fE 1 rww none (some (XE (min (RAW.length:Int) 8))) g=.val y2:=r1;have lr:∀g:G,bC .slice rww g=.val (XE (RAW.length:Int)):=λg=>hrw.len g;refine bP (P:=λt' df J=>df=[]/\J.nx=F.nx+1/\(∀i,i<F.nx->J.h.get i=F.h.get i)/\Own J F.nx (Xs t' 25) 1 ([AV.XC,y2].map λy=>[y])/\St t' ((22,U)::(24,XE (AM n ev XF))::(19,W)::(20,N)::(21,XE (AM n ev XF))::(18,Xq p18)::PC p16 lw odw rww nets (.agg [a1,a2,a3,a4,a5,a6]) i1 j)) ?_ ?_
  ·simp only[sz,simprocAttr,h6,lr,YD,Yz,k8];rw[zK rfl rfl r2.cell.1 r2.cell.2];simp only[sz,simprocAttr];refine⟨λi hi=>by simp[show ¬i=F.nx by omega],.inr ⟨F.nx,0,false,XH _,by simp,by simp,by simp[VO]⟩,by simp[St,PC,sx,w,C,z,A,B,D,h3,h5,h6,h7,h9,f,a,q,u,o,h43]⟩
  clear B D C z A w h3 h5 h6 h7 h9 f a q u o h43;rintro t df J ⟨rfl,n6,f6,M,B,D,C,z,A,w,h3,h5,h6,h7,h9,f,a,q,u,o,h43,-⟩;have ha:J.h.get p16=Xy 2 [[XE n.Xz,b]]:=by rw[f6 p16 (by omega),V]
  have hc:J.h.get 3=Xy 8 [ec c0 c1]:=by rw[f6 3 (by omega),k3]
  have hs:J.h.get p18=Xy 2 [[ew,vw]]:=by rw[f6 p18 (by omega),h4]
  obtain⟨l0,h2⟩:∃l0,l0=Xs t 25:=⟨_,rfl⟩;rw[<-h2]at M;have K:=h2.symm;have ho:∀y∈[AV.XC,y2],∃Y:List (List Int),Xu Xt 0 .nil Y y:=by
   intro y hy;rcases Yh.1 hy with rfl|hy
   ·exact⟨[],by simp,rfl⟩
   ·have:y=y2:=by simpa using hy
    exact⟨_,this ▸ r2⟩
  refine jR (P:=λt' df g7=>df=[]/\J.nx<=g7.nx/\(∀i,i<F.nx->g7.h.get i=F.h.get i)/\∃ys:List AV,(∀y∈ys,∃Y:List (List Int),Xu Xt 0 .nil Y y)/\ys.length<=100/\Own g7 F.nx (Xs t' 25) 1 (ys.map λy=>[y])/\St t' ((22,U)::(18,Xq p18)::PC p16 lw odw rww nets (.agg [a1,a2,a3,a4,a5,a6]) i1 j)) ?_ ?_
  ·by_cases c:AM n ev XF=0
   rotate_left
   ·simp only[sz,simprocAttr,A,c];exact⟨XH _,λi hi=>f6 i hi,[.XC,y2],ho,by simp,by simpa [sx,K] using M,by simp[St,PC,sx,w,B,h3,h5,h6,h7,h9,f,a,q,u,o,h43]⟩
   obtain⟨⟨hr,ka⟩,hp⟩:=A5 c;obtain⟨pl1,pl2⟩:=bd1 c;have kr:=λg:G=>BC (d:=1) (g:=g) (n:=n) (e:=ev) (XF:=XF) (XB:=zh n ev XF) (proof:=xK n ev XF) (by decide) (hm g.h) (wd g.h he) (wd g.h hv) hl (wd g.h O) (E.tree (h':=g.h) (XH 0));rw[bd2 c]at kr;simp only[sz,simprocAttr,A,c,a,w,C,z,ha,hs,xa0,xa1,kr,h3];refine aG (be6 (n:=n) (XF:=XF) (us:=us) (by decide) (hm _) (wd _ hv) (hus.tree (XH 0)) hr hp) ?_;rintro rc ⟨L1,⟨-,L1b,L1c⟩,Z⟩;have lb0:a_ (Xy 8 [ec c0 c1]) 0 0 true 4 0=.val (.agg [Xc c0.1,Xc c0.2.1,Xc c0.2.2.1,XE c0.2.2.2]):=rfl;have lb1:a_ (Xy 8 [ec c0 c1]) 0 0 true 4 4=.val (.agg [Xc c1.1,Xc c1.2.1,Xc c1.2.2.1,XE c1.2.2.2]):=rfl;simp only[sz,simprocAttr,sf,K,z,f,xb0,hc,lb0];refine aG (Ej (x:=c0) (L:=L1) (by decide) ⟨_,rfl,mG.2 rfl⟩ (Z.tree (XH 0)) L1b L1c) ?_;rintro rb0 ⟨M0,-,hd⟩;simp only[sz,simprocAttr,sf,z,f,xb1,hc,lb1];refine aG (Ej (x:=c1) (L:=xK n ev XF) (by decide) ⟨_,rfl,mG.2 rfl⟩ (E.tree (XH 0)) pl1 pl2) ?_;rintro rb1 ⟨M1,-,hg⟩;simp only[sz,simprocAttr,sf];rw[ba4 E.cell Z.cell hd.cell hg.cell];simp only[sz,simprocAttr,sf];refine aM (b:=F.nx) (v:=l0) (rows:=[AV.XC,y2].map λy=>[y]) (new:=[[N],[rc],[rb0],[rb1]]) (M.fr (by simp[sy];omega) λi hi=>by have:=(M.lt hi).2;simp[sy,show ¬i=J.nx+11 by omega]) (by rw[bi];simp[sy];try rfl) (by simp[sy];try omega) (by simp[aH]) λv8 g8 hv8 n8 f8 vid8 lg8=>?_;simp only[sz,simprocAttr,sf];have kd:J.nx<=g8.nx:=by simp[sy]at n8;try omega
   refine⟨?_,by first|omega| (simp[sy];omega),λi hi=>?_,[.XC,y2,N,rc,rb0,rb1],?_,by simp,?_,by simp[St,PC,sx,w,B,h3,h5,h6,h7,h9,f,a,q,u,o,h43]⟩
   ·simp only[X7,X8,X3,XY];refine aE (false::(OQ (OO (true::(true::(false::[])))))) [(0,11)] (by simp[Xl,am,aC,yM]) (by decide) ?_;rintro p hp x y hx hy;simp only[Yh,Yc,ZQ]at hp;subst hp;simp[sx]at hx hy;subst hx;subst hy;refine cK rfl rfl rfl rfl ?_ ?_ ?_<;>simp[aC]
   ·have e1:=f8 i (by simp[sy];omega) (λe=>by have:=(M.lt e).1;omega);have e2:i≠J.nx+11:=by omega
    simp[sy,e2]at e1;rw[e1,f6 i hi]
   ·intro y hy;simp only[Yh,Yc,ZQ]at hy;rcases hy with rfl|rfl|rfl|rfl|rfl|rfl
    ·exact⟨[],by simp,rfl⟩
    ·exact⟨_,r2⟩
    ·exact⟨_,E⟩
    ·exact⟨_,Z⟩
    ·exact⟨_,hd⟩
    ·exact⟨_,hg⟩
   ·exact Own.fr (g:=g8) hv8 (by simp[sy];omega) λi _=>by simp[sy]
  clear B D C z A w h3 h5 h6 h7 h9 f a q u o h43 K h2;rintro t df g7 ⟨rfl,n7,f7,ys,k7,k6,h1,B,w,h3,h5,h6,h7,h9,f,a,q,u,o,h43,-⟩;have hb:g7.h.get p16=Xy 2 [[XE n.Xz,b]]:=by rw[f7 p16 (by omega),V]
  have hu:g7.h.get p18=Xy 2 [[ew,vw]]:=by rw[f7 p18 (by omega),h4]
  obtain⟨l1,hh⟩:∃l1,l1=Xs t 25:=⟨_,rfl⟩;rw[<-hh]at h1;have K:=hh.symm;have ll:∀g:G,bC .slice l1 g=.val (XE (ys.length:Int)):=λg=>by have:=bQ h1.rows g;rwa [XN]at this
  unfold iM;simp only[sz,simprocAttr,K,ll];refine bd4 hR (n:=n) (e:=ev) (XF:=XF) (v1:=zh n ev XF) (odd:=odd) (p16:=p16) (p18:=p18) (ys:=ys) (lists:=l1) (w1:=U) (ew:=ew) (vw:=vw) (b:=b) (lw:=lw) (odw:=odw) (rww:=rww) (nets:=nets) (ask:=.agg [a1,a2,a3,a4,a5,a6]) (i1:=i1) (j1:=j) hm he hv hl R hod hodr k7 k6 h1 hb hu (by simp[St,Pl,PC,sx,w,B,h3,h5,h6,h7,h9,f,a,q,u,o,h43]) (by simp[sx]) ?_;rintro t ⟨h3,h5,h6,h7,h9,f,a,q,u,o,h43,-⟩;simp only[sz,simprocAttr];refine⟨⟨by simp[St,LPs,h3,h5,h6,h7,h9,f,a,q,u,o],by omega,λi hi=>?_⟩,h43⟩;rw[f7 i (by omega),f4 i (by omega),f2 i (by omega),hf i hi]
 ·rintro t df g' ⟨rfl,ht,hn,hf⟩;exact fin t g' ht hn hf
theorem nQ[Xr](hR:y_){x:yg}{y:gF}{c0 c1:gF}{u1 u2 ew ow lw odw rww:AV}{vs us:List UInt8}{s:UInt8}{E O odd:List Int}{RAW:List (List Int)}(hx:WG x Xt 0 .nil u1)(hy:WG y Xt 0 .nil u2)
  (hv:vs.length=9) (hE:Xu Xt 0 .nil E ew) (hEr:Raw ew) (hO:Xu Xt 0 .nil O ow) (hOr:Raw ow) (hus:Xu Xt 0 .nil us lw) (hod:Xu Xt 0 .nil odd odw) (hodr:Raw odw) (hrw:Xu Xt 0 .nil RAW rww) (hrwr:Raw rww) :
  ∃g',(I C0).call 1 5 [u1,u2,.agg (vs.map Xc++[Xc s,ew,ow]),lw,.agg (ec c0 c1),odw,rww] G.empty=.ok (.bool true) g':=by
 obtain⟨xs,rfl,qx⟩:=hx;obtain⟨ys,rfl,qy⟩:=hy;obtain⟨F,H,e1,-⟩:=Bb.1 qx;have B:xs.length=3:=by rw[e1];rfl
 have D:ys.length=4:=by rw[mG.1 qy];rfl
 clear e1 F H;obtain⟨AA,p⟩:∃AA,AA=vs.map Xc++[Xc s,ew,ow]:=⟨_,rfl⟩;have w:AA.length=12:=by rw[p];simp[hv]
 rw[<-p];have key:=tC (C:=C0) (d:=1) (f:=5) («as»:=[.agg xs,.agg ys,.agg AA,lw,.agg (ec c0 c1),odw,rww]) (g:=G.empty) (K:=λv g'=>v=.bool true) bd7 (by simp[fB]) ?_
 ·cases hc:(I C0).call 1 5 [.agg xs,.agg ys,.agg AA,lw,.agg (ec c0 c1),odw,rww] G.empty with
  |fail=>rw[hc]at key;exact key.elim
  |ok v g'=>rw[hc]at key;exact⟨g',by rw[show v=.bool true from key]⟩
 have cl:(ec c0 c1).length=8:=rfl;simp only[sz,simprocAttr,fB,dl];obtain⟨g0,hg0⟩:∃g0,g0=(((G.empty.new (Xy xs.length [xs])).new (Xy ys.length [ys])).new (Xy AA.length [AA])).new (Xh.cells (ec c0 c1).length [ec c0 c1] 0 false false):=⟨_,rfl⟩;rw[<-hg0];have f0:g0.h.get 0=Xy 3 [xs]:=by rw[hg0,B];simp[sx,VO]
 have f1:g0.h.get 1=Xy 4 [ys]:=by rw[hg0,D];simp[sx,VO]
 have f2:g0.h.get 2=Xy 12 [AA]:=by rw[hg0,w];simp[sx,VO]
 have f3:g0.h.get 3=Xy 8 [ec c0 c1]:=by rw[hg0,cl];simp[sx]
 have f4:g0.nx=4:=by rw[hg0];simp[sx]
 clear hg0;have ld0:a_ (Xy 3 [xs]) 0 0 true 3 0=.val (.agg xs):=by
  match xs,B with
  |[a,b,c],_=>rfl
 have ld1:a_ (Xy 4 [ys]) 0 0 true 4 0=.val (.agg ys):=by
  match ys,D with
  |[a,b,c,d],_=>rfl
 have ld2:a_ (Xy 12 [AA]) 0 0 true 12 0=.val (.agg AA):=by
  match AA,w with
  |[a0,a1,a2,U,a4,V,W,a7,a8,a9,a10,a11],_=>rfl
 simp only[sz,simprocAttr,jy,bg7,f0,f1,ld0,ld1];refine aG (bh0 (by decide) qx qy) ?_;rintro r ⟨⟨n,m⟩,hd,cs,rfl,h1,h2,rfl,z,A⟩;obtain⟨b,rfl,ha⟩:=dh.1 z;obtain⟨b2,rfl,hb⟩:=dh.1 A;have hM:∀h,WG n Xt 0 h (.agg [XE n.Xz,b]):=λh=>lY z h;have J:∀h,WG m Xt 0 h (.agg [XE m.Xz,b2]):=λh=>lY A h;simp only[sz,simprocAttr];obtain⟨nets,k⟩:∃nets,nets=AV.agg [XE n.Xz,b,XE m.Xz,b2]:=⟨_,rfl⟩;rw[<-k];simp only[iK,iP];refine xd (m:=2) rfl (by omega) (λj t df g=>df=[]/\St t [(3,lw),(5,odw),(6,rww),(7,Xq 0),(9,Xq 2),(11,Xq 3),(35,nets)]/\g0.nx<=g.nx/\∀i,i<g0.nx->g.h.get i=g0.h.get i) ⟨rfl,by simp[St,sx],XH _,λ_ _=>rfl⟩ (by simp[sx]) (by decide) ?_ ?_ ?_
 ·rintro j t df g v s (rfl|rfl|rfl) ⟨a1,⟨b1,b2,X,Y,Z,b6,b7,-⟩,c⟩<;>exact⟨a1,by simp[St,sx,b1,b2,X,Y,Z,b6,b7],c⟩
 ·rintro j t df g1 hj ⟨rfl,⟨h3,h5,h6,h7,h9,o,e,-⟩,hn,hf⟩ l;obtain⟨n1,bb,Q,N⟩:∃(n1:Xb) (bb:AV),(∀h,WG n1 Xt 0 h (.agg [XE n1.Xz,bb]))/\Vj true 2 2 nets (XE (j:Int))=.val (.agg [XE n1.Xz,bb]):=by
   rw[k];have:j=0\/j=1:=by omega
   rcases this with rfl|rfl
   ·exact⟨n,b,hM,rfl⟩
   ·exact⟨m,b2,J,rfl⟩
  have e0:g1.h.get 0=Xy 3 [xs]:=by rw[hf 0 (by omega),f0]
  have e2:g1.h.get 2=Xy 12 [AA]:=by rw[hf 2 (by omega),f2]
  have e3:g1.h.get 3=Xy 8 [ec c0 c1]:=by rw[hf 3 (by omega),f3]
  simp only[sz,simprocAttr,h7,h9,e,l,N,show ¬2=g1.nx by omega,show ¬0=g1.nx by omega,e2,ld2,e0,ld0];refine aG (LE (by decide) (lY (P:=Xt) qx _)) ?_;rintro r ⟨n0,M,cn,rfl,L⟩;simp only[sz,simprocAttr];rw[p];refine aG (bg8 (n:=n0) (E:=E) (O:=O) (by decide) hv hE hEr hO hOr L M) ?_;rintro r ⟨⟨ev,XF⟩,⟨he,hg⟩,a1,a2,U,a4,V,W,rfl,R,q2,q3,S,q5,T⟩;simp only[sz,simprocAttr];obtain⟨w1,q,R⟩:=R;obtain⟨w5,u,q5⟩:=q5;injection q with q;injection u with u;subst q;subst u;refine ba3 hR (p16:=g1.nx) (i1:=j) (n:=n1) (b:=bb) (c0:=c0) (c1:=c1) (us:=us) (odd:=odd) (RAW:=RAW) (nets:=nets) (lw:=lw) (odw:=odw) (rww:=rww) (e1:=ev) (v1:=XF) (v2:=XF) (e3:=ev) Q hus hod hodr hrw hrwr R q2.1 q2.2 q3.1 S.1 S.2 q5 T.1 T.2 (by simp[VO]) (by simp) (by simp[VO,show ¬3=g1.nx by omega,e3]) (by simp;omega) (by simp[St,LPs,sx,h3,h5,h6,h7,h9,o,e,l]) (by simp[sx]) ?_;rintro t6 g6 ⟨h3,h5,h6,h7,h9,o,h4,e,l,h8,-⟩ n6 f6;simp only[sz,simprocAttr];refine⟨⟨by simp[St,h3,h5,h6,h7,h9,o,e],?_,λi hi=>?_⟩,l⟩
  ·have:g1.nx<=g6.nx:=Ya (by simp) n6;omega
  ·rw[f6 i (by simp;omega)];simp[VO,show ¬i=g1.nx by omega,hf i hi]
 ·rintro t df g1 ⟨rfl,-⟩;simp only[sz,simprocAttr,iQ]
end
end Hx
section
namespace Hx
open Go Go.Proofs.YteaikmdilmfbeaaGreat
noncomputable section
@[reducible] def iN:Xr:=⟨none⟩
@[reducible] def iR:Xr:=⟨some (Bv (@C0 iN) 27)⟩
def ba2:@C0 iN=Gen.Sc:=by
 have a:Gen.Sc.ext 27=none:=by kernel_rfl
 have he:(@C0 iN).ext=Gen.Sc.ext:=by
  funext k;show ax (Nat.beq k 27) none (Gen.Sc.ext k)=Gen.Sc.ext k;rw[aa]
  split
  ·rename_i h;rw[YJ h,a]
  ·rfl
 show ({ Gen.Sc with ext:=(@C0 iN).ext }:Xg)=Gen.Sc;rw[he]
def ba1:Xa (@C0 iN):=by rw[ba2];exact Gen.Jy
def ba0:Xa (@C0 iR):=by have h:@C0 iR=Gen.Sc.add 27 (Bv (@C0 iN) 27):=rfl;rw[h];exact Gen.Jy.add (T3.Oc (C:=@C0 iN) (C':=Gen.Sc) rfl rfl (PS ba1))
def QM:@y_ iR:=λ{d k1 k2 k3 k4 P1 P2 P3 P4 g n e XF XB proof v w u x z} h1 h2 h3 h4 h5 h6 h7 h8 h9=>by
 have h:@ah (@C0 iR) d 27 [v,w,u,x,z] g=Bv (@C0 iN) 27 d [v,w,u,x,z] g:=by kernel_rfl
 rw[h];exact (letI:=iN;bk_ h1 h2 h3 h4 h5 h6 h7 h8 h9)
end
end Hx
end
namespace Hx
open Go
noncomputable section
variable {n:Xb}{e XF:List Int}{b lw odw rww:AV}
end
end Hx
section
namespace Hx
open Go Go.RowKit Go.ChangeShapes Go.WideShapes
def yx(P:Program):List Field->Nat->Option Nat
 |[],k=>some k
 |f::fs,k=>if f.offset=k then yx P fs (k+P.cellsOf f.type) else none
def wS(P:Program):Nat->TypeId->Bool
 |0,_=>false
 | n+1,t=>match P.underlying t with
  |some .bool=>true
  |some (.int _)=>true
  |some (.slice e)=>decide (0<P.cellsOf e)&&wS P n e
  |some (.struct fs)=>(yx P fs.toList 0 == some (P.cellsOf t))&&fs.toList.all (λf=>wS P n f.type)
  |some (.array m e)=>decide (m*P.cellsOf e=P.cellsOf t)&&wS P n e
  |_=>false
def Sh(P:Program):Nat->TypeId->List AV->Prop
 |0,_,_=>False
 | n+1,t,xs=>match P.underlying t with
  |some .bool=>∃b,xs=[.bool b]
  |some (.int k)=>∃z,xs=[.int k z]/\(Lit.int k z).wf=true
  |some (.slice e)=>xs=[.XC]\/∃rows,xs=[.WO 0 (P.cellsOf e) rows]/\rows.length<2^63/\∀row∈rows,Sh P n e row
  |some (.struct fs)=>∃xss,xs=xss.flatten/\Xl (λ(f:Field) ys=>Sh P n f.type ys) fs.toList xss
  |some (.array m e)=>∃xss:List (List AV),xs=xss.flatten/\xss.length=m/\∀ys∈xss,Sh P n e ys
  |_=>False
def HG(P:Program)(w:World)(n:Nat)(t:TypeId)(xs:List AV)(cs:List Value):Prop :=Uz w xs cs/\(∀y∈xs,y.one=true/\Closed y)/\Sh P n t xs
def Uz.append{w:World}{xs ys:List AV}{cs ds:List Value}(h:Uz w xs cs)(h':Uz w ys ds):Uz w (xs++ys) (cs++ds):=by
 refine⟨by rw[Yo,Yo,h.1,h'.1],λi x v hx hv=>?_⟩;rcases ZN i xs.length with hi|hi
 ·rw[XW hi]at hx;rw[XW (by rw[<-h.1];exact hi)]at hv;exact h.2 i x v hx hv
 ·rw[X_ hi]at hx;rw[X_ (by rw[<-h.1];exact hi),<-h.1]at hv;exact h'.2 _ x v hx hv
def Lc(b o n:Nat):(⟨b,o,none⟩:Addr).add n=Wy b (o+n):=by
 unfold Addr.add
 split
 ·rename_i h;subst h;rfl
 ·rfl
variable {H:Type}{enc:TypeId×Value->H}{P:Program}{w:World}
def FA:∀{fl:List Field} {k K:Nat},yx P fl k=some K->k<=K
 |[],k,K,h=>by injection h with h;omega
 | f::fl,k,K,h=>by
  unfold yx at h
  split at h
  ·have:=FA h;omega
  ·cases h
def Qx{n:Nat}{cs:List Value}:∀{fl:List Field} {k K:Nat},yx P fl k=some K ->
  (∀f∈fl,∃xs,HG P w n f.type xs ((cs.drop f.offset).take (P.cellsOf f.type))) ->
  ∃xss,Xl (λ(f:Field) ys=>Sh P n f.type ys) fl xss/\Uz w xss.flatten ((cs.drop k).take (K - k))/\∀y∈xss.flatten,y.one=true/\Closed y
 | [],k,K,h,_=>by cases h;exact⟨[],trivial,by rw[YN,aaR];exact⟨rfl,λi x v hx=>by simp at hx⟩,λy hy=>by simp at hy⟩
 | f::fl,k,K,h,hg=>by
  unfold yx at h
  split at h
  ·rename_i ho;subst ho;let⟨xs,h1,h2,h3⟩:=hg f (by simp);let⟨xss,a1,a2,a⟩:=Qx h λf' hf'=>hg f' (by simp[hf']);have b:=FA h;refine⟨xs::xss,⟨h3,a1⟩,?_,λy hy=>?_⟩
   ·have e:(cs.drop f.offset).take (K - f.offset)=(cs.drop f.offset).take (P.cellsOf f.type)++(cs.drop (f.offset+P.cellsOf f.type)).take (K - (f.offset+P.cellsOf f.type)):=by rw[show K - f.offset=P.cellsOf f.type+(K - (f.offset+P.cellsOf f.type)) by omega,List.take_add,Zb]
    rw[e,ZL];exact h1.append a2
   ·rw[ZL,Yf]at hy;rcases hy with hy|hy
    ·exact h2 y hy
    ·exact a y hy
  ·cases h
def Le{n:Nat}{e:TypeId}{cs:List Value}:∀{m k:Nat},
  (∀i,i<m->∃xs,HG P w n e xs ((cs.drop ((k+i)*P.cellsOf e)).take (P.cellsOf e))) ->
  ∃xss:List (List AV),xss.length=m/\(∀ys∈xss,Sh P n e ys)/\Uz w xss.flatten ((cs.drop (k*P.cellsOf e)).take (m*P.cellsOf e))/\∀y∈xss.flatten,y.one=true/\Closed y
 |0,k,_=>⟨[],rfl,λy hy=>by simp at hy,by rw[aaV,aaR];exact⟨rfl,λi x v hx=>by simp at hx⟩,λy hy=>by simp at hy⟩
 | m+1,k,hg=>by
  obtain⟨xs,h1,h2,h3⟩:=hg 0 (by omega);rw[Zf]at h1;obtain⟨xss,a0,a1,a2,h⟩:=Le (m:=m) (k:=k+1) λi hi=>by have:=hg (i+1) (by omega);rwa [show k+(i+1)=k+1+i by omega]at this
  refine⟨xs::xss,by simp[a0],λys hy=>?_,?_,λy hy=>?_⟩
  ·rcases Yh.1 hy with rfl|hy
   ·exact h3
   ·exact a1 ys hy
  ·have e:(cs.drop (k*P.cellsOf e)).take ((m+1)*P.cellsOf e)=(cs.drop (k*P.cellsOf e)).take (P.cellsOf e)++(cs.drop ((k+1)*P.cellsOf e)).take (m*P.cellsOf e):=by rw[show (m+1)*P.cellsOf e=P.cellsOf e+m*P.cellsOf e by rw[Yk];omega,List.take_add,Zb,Yk,Y8]
   rw[e,ZL];exact h1.append a2
  ·rw[ZL,Yf]at hy;rcases hy with hy|hy
   ·exact h2 y hy
   ·exact h y hy
def wM:∀(n:Nat) (t:TypeId),wS P n t=true->∀(fuel:Nat) (cs:List Value) (x:DataW H×List MemPlace),DataW.trod enc P w 0 (λ_=>true) true fuel t cs=some x->∃xs,HG P w n t xs cs:=by
 intro n
 induction n with
 |zero=>intro t h;simp[wS]at h
 | succ n ih =>
  intro t h fuel cs x hx;unfold wS at h
  split at h
  ·rename_i hu;obtain⟨b,rfl,-⟩:=DataW.trod_bool hu hx;refine⟨[.bool b],⟨rfl,λi x v h1 h2=>?_⟩,λy hy=>?_,?_⟩
   ·cases i with
    |zero=>simp at h1 h2;subst h1;subst h2;exact .bool _ _
    |succ i=>simp at h1
   ·simp at hy;subst hy;exact⟨rfl,.bool _⟩
   ·unfold Sh;rw[hu];exact⟨b,rfl⟩
  ·rename_i k hu;obtain⟨z,rfl,-,N⟩:=DataW.trod_int hu hx;refine⟨[.int k z],⟨rfl,λi x v h1 h2=>?_⟩,λy hy=>?_,?_⟩
   ·cases i with
    |zero=>simp at h1 h2;subst h1;subst h2;exact .int _ _ _
    |succ i=>simp at h1
   ·simp at hy;subst hy;exact⟨rfl,.int _ _⟩
   ·unfold Sh;rw[hu];exact⟨z,rfl,N⟩
  ·rename_i e hu;rw[XM,X9]at h;let⟨B,hp⟩:=h;rcases DataW.trod_slice hu hx with⟨rfl,-⟩|⟨a,len,cap,elems,rest,m,-,rfl,-,-,L,S,Q,r,-,-⟩
   ·refine⟨[.XC],⟨rfl,λi x v h1 h2=>?_⟩,λy hy=>?_,?_⟩
    ·cases i with
     |zero=>simp at h1 h2;subst h1;subst h2;exact .XC _
     |succ i=>simp at h1
    ·simp at hy;subst hy;exact⟨rfl,.XC⟩
    ·unfold Sh;rw[hu];exact .inl rfl
   ·have each:∀i,i<len->∃xs vs,w.cells? 0 (a.add (i*P.cellsOf e)) (P.cellsOf e)=some vs/\HG P w n e xs vs:=by intro i hi;have:=r i hi;rw[XJ (show i<elems.length by omega),Option.bind_eq_some_iff]at this;let⟨vs,h1,h2⟩:=this;let⟨xs,hg⟩:=ih e hp _ _ _ h2;exact⟨xs,vs,h1,hg⟩
    let rowf:Nat->List AV:=λi=>if hi:i<len then Classical.choose (each i hi) else []
    let valf:Nat->List Value:=λi=>if hi:i<len then Classical.choose (Classical.choose_spec (each i hi)) else []
    have c:∀i,i<len->w.cells? 0 (a.add (i*P.cellsOf e)) (P.cellsOf e)=some (valf i)/\HG P w n e (rowf i) (valf i):=by intro i hi;have:=Classical.choose_spec (Classical.choose_spec (each i hi));simpa only[rowf,valf,dif_pos hi] using this
    have d:∀(i:Nat) (row:List AV),((List.range len).map rowf)[i]?=some row->i<len/\row=rowf i:=by
     intro i row h1;rw[XK]at h1;rcases ZN i len with hi|hi
     ·rw[ZO hi]at h1;injection h1 with h1;exact⟨hi,h1.symm⟩
     ·rw[Yg (by simpa using hi)]at h1;cases h1
    refine⟨[.WO 0 (P.cellsOf e) ((List.range len).map rowf)],⟨rfl,λi x v h1 h2=>?_⟩,λy hy=>?_,?_⟩
    ·cases i with
     |succ i=>simp at h1
     | zero =>
      simp at h1 h2;subst h1;subst h2;rcases aaI len with h0|h0
      ·subst h0;exact .Wt 0 0 _ a cap (XH _)
      ·let⟨b,o,spot⟩:=a;have E:=World.cells?_some (c 0 h0).1;have M:(valf 0)[0]?=some (valf 0)[0]:=XJ (by rw[E.2.1];exact B);have C:=E.2.2 0 B;rw[M]at C;have D:spot=none:=by simpa [Addr.add] using World.cell?_spot C
       subst D;have cellat:∀i j row x,((List.range len).map rowf)[i]?=some row->row[j]?=some x->∃v,(valf i)[j]?=some v/\w.cell? (Wy b (o+i*P.cellsOf e+j))=some v/\RV w gm0 av0 0 x v:=by
        intro i j row x hr l;obtain⟨hi,rfl⟩:=d i row hr;obtain⟨O,q2⟩:=c i hi;have T:j<(rowf i).length:=(XI.1 l).1;have u:j<(valf i).length:=by rw[<-q2.1.1];exact T
        have F:=World.cells?_some O;have p:=F.2.2 j (by rw[<-F.2.1];exact u);rw[XJ u]at p;refine⟨_,XJ u,?_,q2.1.2 j x _ l (XJ u)⟩;rw[Lc,show Wy b (o+i*P.cellsOf e)=(⟨b,o+i*P.cellsOf e,none⟩:Addr) from rfl,Lc]at p;exact p
       have hb:b<w.heap.size:=by have:=Km C;simpa [Addr.add] using this
       have G:((List.range len).map rowf).length=len:=by simp
       have key:=RV.WO 0 0 (P.cellsOf e) ((List.range len).map rowf) b o cap (λi j=>(valf i)[j]?.getD undef) (XH _) (by rw[G];exact L) hb (Vf b) (λh=>h)
        (λi row hr=>by obtain⟨hi,rfl⟩:=d i row hr;obtain⟨O,q2⟩:=c i hi;rw[q2.1.1,(World.cells?_some O).2.1])
        (λi j row x hr l=>by obtain⟨hi,rfl⟩:=d i row hr;exact ((c i hi).2.2.1 x (XL l)).1)
        (λi j row x hr l=>by let⟨v,v1,v2,R⟩:=cellat i j row x hr l;rw[v2,v1];rfl)
        (λi j row x hr l=>by let⟨v,v1,v2,R⟩:=cellat i j row x hr l;rw[v1];exact R)
        (λrow hr x hx=>by let⟨i,hi⟩:=Yd hr;obtain⟨s,rfl⟩:=d i row hi;exact ((c i s).2.2.1 x hx).2)
       rw[G]at key;exact key
    ·simp only[Yy]at hy;subst hy;refine⟨rfl,.WO _ _ _ λrow hr x hx=>?_⟩;let⟨i,hi⟩:=Yd hr;obtain⟨s,rfl⟩:=d i row hi;exact ((c i s).2.2.1 x hx).2
    ·unfold Sh;rw[hu];refine .inr ⟨_,rfl,?_,λrow hr=>?_⟩
     ·rw[XN,abU];have:maxLen<2^63:=by decide
      omega
     ·let⟨i,hi⟩:=Yd hr;obtain⟨s,rfl⟩:=d i row hi;exact (c i s).2.2.2
  ·rename_i fs hu;rw[XM]at h;let⟨hc,hp⟩:=h;have hc:yx P fs.toList 0=some (P.cellsOf t):=eq_of_beq hc;obtain⟨ys,m,-,-,hl,I,r⟩:=DataW.trod_struct hu hx;obtain⟨xss,a1,a2,J⟩:=Qx hc λf hf=>by
    obtain⟨i,hi,e⟩:=Y7.1 hf;have K:fs[i]?=some f:=by rw[<-aap,XJ hi,e]
    have:=r i f K;rw[XJ (show i<ys.length by rw[I];simpa using hi)]at this;exact ih f.type (XQ.1 hp f hf) _ _ _ this
   rw[Zc,Zo,<-hl,XV]at a2;refine⟨xss.flatten,a2,J,?_⟩;unfold Sh;rw[hu];exact⟨xss,rfl,a1⟩
  ·rename_i m e hu;rw[XM,X9]at h;let⟨hc,hp⟩:=h;obtain⟨ys,q,-,-,hl,I,r⟩:=DataW.trod_array hu hx;obtain⟨xss,a0,a1,a2,J⟩:=Le (k:=0) λi hi=>by have:=r i hi;rw[XJ (show i<ys.length by omega)]at this;rw[YT];exact ih e hp _ _ _ this
   rw[aaV,Zc,hc,<-hl,XV]at a2;refine⟨xss.flatten,a2,J,?_⟩;unfold Sh;rw[hu];exact⟨xss,rfl,a0,a1⟩
  ·cases h
def Ev{n:Nat}{t:TypeId}{xs:List AV}(hu:P.underlying t=some (.int .i64))(h:Sh P n t xs):∃x:Int,Rp.rp Xt 0 .nil x xs:=by
 cases n with
 |zero=>exact h.elim
 | succ n =>unfold Sh at h;rw[hu]at h;obtain⟨z,rfl,-⟩:=h;exact⟨z,aK.2 rfl⟩
theorem hZ{n:Nat}{t:TypeId}{xs:List AV}(hu:P.underlying t=some (.int .u8))(h:Sh P n t xs):∃x:UInt8,Rp.rp Xt 0 .nil x xs:=by
 cases n with
 |zero=>exact h.elim
 | succ n =>
  unfold Sh at h;rw[hu]at h;obtain⟨z,rfl,hw⟩:=h;simp only[Lit.wf,IntKind.min,IntKind.max,IntKind.signed,IntKind.bits,XM]at hw;refine⟨UInt8.ofNat z.toNat,ea.2 ?_⟩;have h1:0<=z:=by simpa using hw.1
  have h2:z<=255:=by simpa using hw.2
  have h3:(UInt8.ofNat z.toNat).toNat=z.toNat:=UInt8.toNat_ofNat_of_lt' (by show z.toNat<256;omega);rw[h3,abF h1]
def qu{α:Type} [Rp α]{n:Nat}{t e:TypeId}{xs:List AV}(hu:P.underlying t=some (.slice e))(hsz:P.cellsOf e=Rp.sz α)(hel:∀ys,Sh P n e ys->∃y:α,Rp.rp Xt 0 .nil y ys)(h:Sh P (n+1) t xs) :
  ∃l:List α,Rp.rp Xt 0 .nil l xs:=by
 unfold Sh at h;rw[hu]at h;rcases h with rfl|⟨rows,rfl,hl,hr⟩
 ·exact⟨[],.XC,rfl,by simp,rfl⟩
 ·have:∀rows:List (List AV),(∀row∈rows,Sh P n e row)->∃l:List α,Xl (Rp.rp Xt 0 .nil) l rows:=by
   intro rows
   induction rows with
   |nil=>intro _;exact⟨[],trivial⟩
   | cons r rows ih =>intro h;let⟨y,k⟩:=hel r (h r (by simp));let⟨l,hl⟩:=ih λrow hrow=>h row (by simp[hrow]);exact⟨y::l,k,hl⟩
  let⟨l,ha⟩:=this rows hr;exact⟨l,_,rfl,by rw[ha.len];exact hl,XH _,.inl hsz,ha⟩
def Jt{n m:Nat}{t e:TypeId}{xs:List AV}(hu:P.underlying t=some (.array m e))(h:Sh P (n+1) t xs):∃xss:List (List AV),xs=xss.flatten/\xss.length=m/\∀ys∈xss,Sh P n e ys:=by unfold Sh at h;rw[hu]at h;exact h
def nM{n:Nat}{t:TypeId}{fs:Array Field}{xs:List AV}(hu:P.underlying t=some (.struct fs))(h:Sh P (n+1) t xs):∃xss,xs=xss.flatten/\Xl (λ(f:Field) ys=>Sh P n f.type ys) fs.toList xss:=by unfold Sh at h;rw[hu]at h;exact h
end Hx
end
namespace Hx
open Go
noncomputable section
variable {n:Xb}{e XF:List Int}{b lw odw rww:AV}
end
end Hx
