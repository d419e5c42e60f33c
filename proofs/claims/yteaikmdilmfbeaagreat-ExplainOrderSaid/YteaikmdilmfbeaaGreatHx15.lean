/- A part of the proof: what the functions of the chapter compute. -/
import Derived.Test.YteaikmdilmfbeaaGreatHx14
set_option linter.all false
set_option maxRecDepth 20000
set_option maxHeartbeats 8000000
namespace Hx
open Go
noncomputable section
variable {g g0:G}{d n i b k m nt kk:Nat}{w v u:AV}{t:T}{Q:QT}{gr:Int}{K:AV->G->Prop}{cs e vs:List Int}{V:Ky->AV}{D:ADf->Prop}{E:Ky->En}{df:List ADf}{P:Nat->Prop}
section
variable {t1 t2 ky:Nat}
theorem qX(h:m<vs.length):(vs.take (m+1)++List.replicate (vs.length - (m+1)) 0).set m 0=vs.take m++List.replicate (vs.length - m) 0:=by
 rw[Uh h,UJ,UU _ _ (by simp;omega),T_,UP (by omega),UD];rw[show vs.length - m=(vs.length - (m+1))+1 by omega,UY]
 rfl
theorem qW(h:m<vs.length)(y:Int):(vs.take (m+1)++List.replicate (vs.length - (m+1)) 0).set m y=vs.take m++y::List.replicate (vs.length - (m+1)) 0:=by
 rw[Uh h,UJ,UU _ _ (by simp;omega),T_,UP (by omega),UD]
 rfl
structure OdoJ (n:Net) (vs:List Int) (L:List (Nat×AV)) (u:AV) (g0:G) (m:Nat) (t:T) (g:G):Prop where
 st:tat t 6=XL ((m:Int) - 1)
 ss:St t L
 ow:Own g g0.nx u 1 ((vs.take m++List.replicate (vs.length - m) 0).map ci)
 mx:∀(j:Nat) (c:Int),m<=j->(S.RN n)[j]?=some c->vs[j]?.getD 0=c - 1
def LM(id:Nat)(gr:Int)(b fl S_ w u:AV)(k t1 t2:Nat):List (Nat×AV):=[(0,.yld id),(1,.tptr t1 4 [[XL gr,b,fl,S_]] 0 0),(2,.tptr t2 1 [[w]] 0 0),(4,u),(5,XL (k:Int))]
theorem J2{id:Nat}{n:Net}{b fl S_:AV}(hr:NR n)(hN:SlR NoP ky .nil n.nodes b)(hc:InC (S.RN n) vs)(hm:m<=n.nodes.length)
  (h0:OdoJ n vs (LM id n.grain b fl S_ w u k t1 t2) u g0 m t g)
  (fin:∀m' t g',m'<=n.nodes.length->OdoJ n vs (LM id n.grain b fl S_ w u k t1 t2) u g0 m' t g'->g.nx<=g'.nx->(∀i,vid u≠some i->g'.h.get i=g.h.get i)->(m'=0\/∃x c,vs[m' - 1]?=some x/\(S.RN n)[m' - 1]?=some c/\x≠c - 1/\0<m')->Q (.exit 2) t [] g') :
  wpL (wp C0 d none bu) Q t [] g:=by
 obtain⟨rows,y,M,J,K⟩:=hN.all;have y:∀h',ak h' 3 b=some rows:=y;have A:=hc.len;rw[aB]at A;have F:=hr.l2;refine eW (λm t df g'=>df=[]/\m<=n.nodes.length/\OdoJ n vs (LM id n.grain b fl S_ w u k t1 t2) u g0 m t g'/\g.nx<=g'.nx/\∀i,vid u≠some i->g'.h.get i=g.h.get i) m ⟨rfl,hm,h0,TG _,λ_ _=>rfl⟩ ?_;rintro m t df g1 ⟨rfl,hm,⟨h6,⟨h0,h1,h2,h4,h5,-⟩,f,q⟩,r,p⟩;simp only[bu];cases m with
 | zero =>
  have c1:¬((0:Int)<=((0:Nat):Int) - 1):=by omega
  simp only[sz,simprocAttr,h6,c1];refine fin 0 _ _ (Uj _) ⟨?_,?_,?_,q⟩ ?_ ?_ (.inl rfl)
  ·simp[sx,h6]
  ·simp[St,LM,sx,h0,h1,h2,h4,h5]
  ·exact f
  ·exact r
  ·exact p
 | succ m =>
  have c1:(0:Int)<=((m+1:Nat):Int) - 1:=by omega
  have e1:((m+1:Nat):Int) - 1=(m:Int):=by omega
  rw[e1]at c1 h6;obtain⟨x,hx,-,-⟩:=ae (l:=n.nodes) (j:=m) (by omega);obtain⟨row,C,q2⟩:=J m x hx;obtain⟨pa,ra,rfl,-,-⟩:=cI.1 q2;have hlt:m<rows.length:=by omega
  have s:=K (by omega);have o:(S.RN n)[m]?=some x.card:=by simp[S.RN,hx]
  obtain⟨v,z,H,I⟩:=hc.get o;have E:=hr.card x (TL hx);have D:m<((vs.take (m+1)++List.replicate (vs.length - (m+1)) 0).map ci).length:=by simp;omega
  have B:((vs.take (m+1)++List.replicate (vs.length - (m+1)) 0).map ci)[m]?=some (ci v):=by rw[TK,T5 (by simp;omega),T7 (by omega),z];rfl
  have ru:=f.rows;have w1:IntKind.wrap .i64 (x.card - 1)=x.card - 1:=ap (by omega) (by omega)
  by_cases c2:v=x.card - 1
  ·simp only[sz,simprocAttr,h6,h1,h4,c1,ru,D,B,y,hlt,C,s,bH,aT,ci,w1,c2];refine bC (v:=u) (sz:=1) (n:=1) (i:=m) (off:=0) (x:=XL 0) (row':=ci 0) f B rfl rfl rfl λg4 hu4 n4 f4=>?_;rw[<-Vf,qX (by omega)]at hu4;have L:IntKind.wrap .i64 ((m:Int) - 1)=(m:Int) - 1:=ap (by omega) (by omega);simp only[sz,simprocAttr,h6,L];refine⟨m,by omega,by omega,⟨by simp[sx],by simp[St,LM,sx,h0,h1,h2,h4,h5],hu4,λj c hj a=>?_⟩,by omega,λi hi=>by rw[f4 i hi,p i hi]⟩
   by_cases e:j=m
   ·subst e;rw[o]at a;injection a with a;rw[z,TS];omega
   ·exact q j c (by omega) a
  ·simp only[sz,simprocAttr,h6,h1,h4,c1,ru,D,B,y,hlt,C,s,bH,aT,ci,w1,c2];refine fin (m+1) _ _ hm ⟨?_,?_,?_,q⟩ ?_ ?_ (.inr ⟨v,x.card,z,o,c2,by omega⟩)
   ·simp[sx,h6]
   ·simp[St,LM,sx,h0,h1,h2,h4,h5]
   ·exact f
   ·exact r
   ·exact p
theorem Qt{a b:AV}(ha:a.cells=[a]/\a.isTup=false)(hb:b.cells=[b]/\b.isTup=false)(hu:u.cells=[u]/\u.isTup=false):d7 [XL 0,XL 0,.nils] [((0,1),a),((1,1),b),((2,1),u)]=some [a,b,u]:=by
 simp[d7,ha,hb,hu,fQ]
 rfl
theorem J3{id ke:Nat}{n:Net}{y:QnM}{b fl S_:AV}(hd:0<d)(hr:NR n)(hq:QnOk n y)(hcs:Rp.rp NoP ky .nil y [XL n.grain,b,fl,S_])(hw:SlR NoP ke .nil e w)(hel:e.length<=n.nodes.length)
  (J:Nat->H->Prop) (E:G->Prop) (hJ:∀j h h',(∀i,i<g0.nx->h'.get i=h.get i)->J j h->J j h')
  (skip:∀(j:Nat) (h:H),j<S.RR n->S.jm (S.RT (S.RN n) j) e=false->J j h->J (j+1) h)
  (step:∀(j:Nat) (u:AV) (g:G) (K':AV->G->Prop) (D:ADf->Prop),j<S.RR n->S.jm (S.RT (S.RN n) j) e=true->g0.nx<=g.nx->J j g.h->SlR (λi=>g0.nx<=i/\i<g.nx) 0 g.h (S.RT (S.RN n) j) u ->
   (∀g',J (j+1) g'.h->g.nx<=g'.nx->(∀i,g0.nx<=i->i<g.nx->g'.h.get i=g.h.get i)->K' (.bool true) g')->(∀g',E g'->K' (.bool false) g')->(bP (I C0) d id [.agg [XL (j:Int),XL (S.Sw n (S.RT (S.RN n) j)),u]] g).sat K' g D)
  (h0:J 0 g0.h) (fin:∀g',J (S.RR n) g'.h->g0.nx<=g'.nx->K (.tup []) g') (finE:∀g',E g'->K (.tup []) g') :
  wp C0 d none aK.code (fnQ C0 d aK.res K) (bN 0 [.yld id,.tptr t1 4 [[XL n.grain,b,fl,S_]] 0 0,.tptr t2 1 [[w]] 0 0] .nil) [] g0:=by
 obtain⟨b',fl',S',e1,hN,hh,hS⟩:=yG.1 hcs;injection e1 with e1 e2;injection e2 with e2 e3;injection e3 with e3 X;injection X with X e5;subst e2;subst e3;subst X;have hN:SlR NoP ky .nil n.nodes b:=by rw[<-hq.net];exact hN
 have hp:=hr.l2;have hn:=hr.l1;obtain⟨W1,W2,W3⟩:=hr.wl;have q:=λc hc=>(hr.cs c hc).1;have nl:=hN.len;have hcl:=aB n;obtain⟨Qf,L⟩:∃Qf,Qf=fnQ C0 d aK.res K:=⟨_,rfl⟩;rw[<-L];simp only[sz,simprocAttr,aK,bH,aT,nl];refine mb (b:=g0.nx) (n:=n.nodes.length) (by unfold aQ;omega) (by unfold aQ;omega) (TG _) λu g1 hu n1 fr1 v1=>?_;simp only[sz,simprocAttr];have h7:∀(g:G) (l:List Int),l.length=n.nodes.length->Own g g0.nx u 1 (l.map ci)->∀g2:G,cH .slice u g2=.val (XL (n.nodes.length:Int)):=λg l hl ho g2=>by rw[j9 ho.rows];simp[hl]
 obtain⟨INV,p⟩:∃INV:Nat->PT,INV=(λm t df g=>df=[]/\∃(j:Nat) (vs:List Int),m=S.RR n - j/\j<S.RR n/\InC (S.RN n) vs/\S.RQ (S.RN n) vs=(j:Int)/\St t (LM id n.grain b fl S_ w u j t1 t2)/\Own g g0.nx u 1 (vs.map ci)/\J j g.h/\g0.nx<=g.nx):=⟨_,rfl⟩;refine eW INV (S.RR n) ?_ ?_
 ·rw[p];exact⟨rfl,0,List.replicate n.nodes.length 0,rfl,by omega,by rw[<-hcl];exact BF q,by rw[pX];rfl,by simp[St,LM,sx],by simpa [ci] using hu,hJ 0 _ _ (λi hi=>fr1 i hi) h0,by omega⟩
 intro m t df g hI;have P:=hI;rw[p]at P;obtain⟨rfl,j,vs,rfl,hj,f,A,⟨h0,h1,h2,h4,h5,-⟩,ho,s,O⟩:=P;clear hI;have V:=f.len;rw[aB]at V;have o:S.RT (S.RN n) (j:Int)=vs:=by rw[<-A];exact q9 q f
 have W:vid u=some g0.nx:=v1;have hsl:SlR (λi=>g0.nx<=i/\i<g.nx) 0 g.h vs u:=Own.sl (α:=Int) ho (by omega) (RN (λa=>ax.2 rfl) _) λi hi=>ho.lt hi;have z:=G5 (d:=d) (g:=g) (v:=u) (w:=w) (vals:=vs) (e:=e) hd hsl (hw.tree (h':=g.h) (TG _)) (by omega);have h3:=h7 g vs V ho;have w1:IntKind.wrap .i64 ((n.nodes.length:Int) - 1)=(n.nodes.length:Int) - 1:=ap (by omega) (by omega);obtain⟨R,hR⟩:∃R,R=sQ [oM 28 4,oN 29 28,W_ 30 .sub 29 1,oM 6 30] (XK (.blk 2 (.loop bu)) bz):=⟨_,rfl⟩;simp only[dI];rw[<-hR,b_,HM];obtain⟨Q1,F⟩:∃Q1,Q1=kB 1 (kS (wp C0 d none bV (kL INV (S.RR n - j) (kB 0 Qf))) (kL INV (S.RR n - j) (kB 0 Qf))):=⟨_,rfl⟩;rw[<-F];have rest:∀(t:T) (g:G),St t (LM id n.grain b fl S_ w u j t1 t2)->Own g g0.nx u 1 (vs.map ci)->J (j+1) g.h->g0.nx<=g.nx->wp C0 d none R Q1 t [] g:=by
  rintro t g ⟨h0,h1,h2,h4,h5,-⟩ ho s O;rw[hR,F];simp only[sz,simprocAttr,h4,h3,w1];refine J2 (t1:=t1) (t2:=t2) (id:=id) (k:=j) (m:=n.nodes.length) (n:=n) (b:=b) (fl:=fl) (S_:=S_) (w:=w) (u:=u) (vs:=vs) (g0:=g0) hr hN f (TG _) ⟨by simp[sx],by simp[St,LM,sx,h0,h1,h2,h4,h5],?_,λi c hi hc=>?_⟩ ?_
  ·rw[TX (by omega),show vs.length - n.nodes.length=0 by omega];simpa using ho
  ·have:=(TJ.1 hc).1;omega
  rintro m' t2 g2 hs ⟨h6,⟨h0,h1,h2,h4,h5,-⟩,U,Q⟩ hv Y M;have C:J (j+1) g2.h:=hJ _ _ _ (λi hi=>Y i λe=>by rw[W]at e;injection e with e;omega) s;rcases M with rfl|⟨x,c,hx,hc,he,ht⟩
  ·have N:j+1=S.RR n:=by have:=wM (cs:=S.RN n) (vs:=vs) f.len.symm λi c hc=>Q i c (Uj _) hc;omega
   have c1:(((0:Nat):Int) - 1<0):=by omega
   rw[L];simp only[sz,simprocAttr,bz,aK,h6,c1];rw[N]at C;exact fin g2 C (by omega)
  ·obtain⟨i,rfl⟩:∃i,m'=i+1:=⟨m' - 1,by omega⟩;rw[VP]at hx hc;have Z:=(TJ.1 hx).1;have e1:((i+1:Nat):Int) - 1=(i:Int):=by omega
   rw[e1]at h6;have c1:¬((i:Int)<0):=by omega
   have u1:i<((vs.take (i+1)++List.replicate (vs.length - (i+1)) 0).map ci).length:=by simp;omega
   have u2:((vs.take (i+1)++List.replicate (vs.length - (i+1)) 0).map ci)[i]?=some (ci x):=by rw[TK,T5 (by simp;omega),T7 (by omega),hx];rfl
   have ru:=U.rows;obtain⟨x',h9,ha,hb⟩:=f.get hc;rw[DO h9 hx]at ha hb;have hg:=hr.cs c (TL hc);have w2:IntKind.wrap .i64 (x+1)=x+1:=ap (by omega) (by omega);simp only[sz,simprocAttr,bz,h6,c1,h4,ru,u1,u2,ci,w2];refine bC (v:=u) (sz:=1) (n:=1) (i:=i) (off:=0) (x:=XL (x+1)) (row':=ci (x+1)) U u2 rfl rfl rfl λg4 hu4 n4 f4=>?_;rw[<-Vf,qW Z]at hu4;have B:=A4 f q hx hc he;have r:=AJ (cs:=S.RN n) (vs:=vs) f.len.symm hx λk c hk hc=>Q k c (by omega) hc;rw[A]at r;have hf:=bI hr.cs B;have w3:IntKind.wrap .i64 ((j:Int)+1)=((j+1:Nat):Int):=by rw[ap (by omega) (by omega)];rfl
   simp only[sz,simprocAttr,bV,h5,w3];refine⟨S.RR n - (j+1),by omega,?_⟩;rw[p];refine⟨rfl,j+1,_,rfl,by omega,B,by rw[r];rfl,by simp[St,LM,sx,h0,h1,h2,h4],hu4,hJ _ _ _ (λi hi=>f4 i λe=>by rw[W]at e;injection e with e;omega) C,by omega⟩
 cases hm:S.jm vs e with
 | false =>
  rw[hm]at z;rw[b_];simp only[sz,simprocAttr,h4,h2,aT,z];exact rest _ _ (by simp[St,LM,sx,h0,h1,h2,h4,h5]) ho (skip j _ hj (by rw[o];exact hm) s) O
 | true =>
  rw[hm]at z;rw[b_];have h8:=KL (d:=d) (g:=g) (v:=.agg [XL n.grain,b,fl,S_]) (w:=u) (vals:=vs) (y:=y) hd hr ⟨_,rfl,Rp.tree hcs (TG _)⟩ hq hsl f;simp only[sz,simprocAttr,h0,h1,h5,h4,h2,aT,z,h8,Qt (a:=XL (j:Int)) (b:=XL (S.Sw n vs)) ⟨rfl,rfl⟩ ⟨rfl,rfl⟩ ho.cell];have st:=λK' D=>step j u g K' D hj (by rw[o];exact hm) O s (by rw[o];exact hsl);rw[o]at st;show (bP (I C0) d id [.agg [XL (j:Int),XL (S.Sw n vs),u]] g).sat _ _ _;refine st _ _ (λg' hJ' hn' hf'=>?_) λg' hE=>?_
  ·simp only[sz,simprocAttr];exact rest _ _ (by simp[St,LM,sx,h0,h1,h2,h4,h5]) (ho.fr hn' λi hi=>hf' i (ho.lt hi).1 (ho.lt hi).2) hJ' (by omega)
  ·rw[F,L];simp only[sz,simprocAttr,aK];exact finE g' hE
theorem xY{C:Cfg}{id:Nat}{ps:List Nat}{assign body:Code}{a b:SC}{dfr:Nat}{args:List AV}{t':T}
  (hg:g.h.get id=.loop nt t ps assign body dfr .ready none) (ha:eL C nt assign=a) (hb:eL C nt body=b) (hp:cp t nt ps args=some t')
  (h:wp C d (some id) a (λe t1 df g1=>e=.norm/\df=[]/\g1.h.get id=.loop nt t ps assign body dfr .ready none /\
   wp C d (some id) b (λe _ df g2=>df=[]/\g2.h.get id=.loop nt t ps assign body dfr .busy none/\((e=.norm/\K (.bool true) (g2.put id (.loop nt t ps assign body dfr .ready none)))\/(e=.ret/\K (.bool false) (g2.put id (.loop nt t ps assign body dfr .done (some .ret))))))
    t1 [] (g1.put id (.loop nt t ps assign body dfr .busy none))) t' [] g) :
  (bP (I C) d id args g).sat K g D:=by
 subst ha;subst hb;unfold bP;rw[show g.get id=_ from hg];dsimp only;rw[hp];dsimp only;have h1:=tZ h;cases hc:(I C).code nt d (some id) assign t' [] g with
 |fail=>rw[hc]at h1;exact h1.elim
 | ok e t1 df g1 =>
  rw[hc]at h1;obtain⟨rfl,rfl,k,h2⟩:=h1;dsimp only;rw[show g1.get id=_ from k];dsimp only;have h3:=tZ h2;cases hc2:(I C).code nt d (some id) body t1 [] (g1.put id (.loop nt t ps assign body dfr .busy none)) with
  |fail=>rw[hc2]at h3;exact h3.elim
  | ok e t2 df2 g2 =>
   rw[hc2]at h3;obtain⟨rfl,h4,h5⟩:=h3;dsimp only;rw[show g2.get id=_ from h4];rcases h5 with⟨rfl,h5⟩|⟨rfl,h5⟩<;>exact h5
theorem Fb:C0.ext 113=none:=by kernel_rfl
theorem C5{p r ke:Nat}{n:Net}{y:QnM}{cs:List AV}{ca cb:SC}(hd:0<d)(hr:NR n)(hq:QnOk n y)(hcs:Rp.rp NoP ky .nil y cs)(hw:SlR NoP ke .nil e w)(hel:e.length<=n.nodes.length)
  (hv:tat t r=.clo 113 [] [.tptr t1 4 [cs] 0 0,.tptr t2 1 [[w]] 0 0]) (hp:p<nt)
  (J:Nat->H->Prop) (E:H->Prop) (hJ:∀j h h',(∀i,i<g.nx->h'.get i=h.get i)->J j h->J j h') (hE:∀h h',(∀i,i<g.nx->h'.get i=h.get i)->E h->E h') (h0:J 0 g.h)
  (skip:∀(j:Nat) (h:H),j<S.RR n->S.jm (S.RT (S.RN n) j) e=false->J j h->J (j+1) h)
  (step:∀(j:Nat) (u:AV) (g1:G),j<S.RR n->S.jm (S.RT (S.RN n) j) e=true->J j g1.h->g.nx+2<=g1.nx->SlR (λi=>g.nx+2<=i/\i<g1.nx) 0 g1.h (S.RT (S.RN n) j) u ->
   wp C0 d (some (g.nx+1)) ca (λe t1 df g1'=>e=.norm/\df=[]/\Fr g1 g1'/\∀g2:G,g2.nx=g1'.nx->(∀i,i≠g.nx+1->g2.h.get i=g1'.h.get i) ->
    wp C0 d (some (g.nx+1)) cb (λe _ df g3=>df=[]/\RowQ g.nx g2 g3 e (J (j+1) g3.h) (E g3.h)) t1 [] g2)
    (d6 t p (.agg [XL (j:Int),XL (S.Sw n (S.RT (S.RN n) j)),u])) [] g1)
  (fin:∀g',J (S.RR n) g'.h->g.nx+2<=g'.nx->g'.h.get g.nx=.dfr true->Q .norm t (.mark g.nx::df) g')
  (finE:∀g',E g'.h->g.nx+2<=g'.nx->g'.h.get g.nx=.dfr true->Q .ret t (.mark g.nx::df) g') :
  wp C0 d none (.rng nt (.t r) [p] ca cb) Q t df g:=by
 obtain⟨b,fl,S_,rfl,-,-,-⟩:=yG.1 hcs;rw[hq.net]at hv hcs;refine nC (fn:=113) (first:=[]) (cap:=[.tptr t1 4 [[XL n.grain,b,fl,S_]] 0 0,.tptr t2 1 [[w]] 0 0]) (s:=aK) hv Fb lA (by simp[aK]) ?_;intro assign body ha hb;have e1:((g.new (.dfr true)).new (.loop nt t [p] assign body g.nx .ready none)).nx=g.nx+2:=by simp
 refine J3 (g0:=(g.new (.dfr true)).new (.loop nt t [p] assign body g.nx .ready none)) (id:=g.nx+1) hd hr hq hcs hw hel
  (λj h=>J j h/\h.get g.nx=.dfr true/\h.get (g.nx+1)=.loop nt t [p] assign body g.nx .ready none)
  (λg'=>E g'.h/\g'.h.get g.nx=.dfr true/\g'.h.get (g.nx+1)=.loop nt t [p] assign body g.nx .done (some .ret)/\g.nx+2<=g'.nx) ?_ ?_ ?_ ?_ ?_ ?_
 ·rintro j h h' l ⟨a1,a2,a⟩;rw[e1]at l;exact⟨hJ j h h' (λi hi=>l i (by omega)) a1,by rw[l _ (by omega),a2],by rw[l _ (by omega),a]⟩
 ·rintro j h v hm ⟨a1,a2,a⟩;exact⟨skip j h v hm a1,a2,a⟩
 ·rintro j u g1 K' D v hm c ⟨a1,a2,a⟩ hsl kk kE;rw[e1]at c kk hsl;refine xY a ha hb (t':=d6 t p (.agg [XL (j:Int),XL (S.Sw n (S.RT (S.RN n) j)),u])) ?_ ?_
  ·simp only[cp,aa,UH,TO hp];rfl
  ·refine bE _ (step j u g1 v hm a1 (by omega) hsl) ?_;rintro e t1 df g1' ⟨rfl,rfl,k,h⟩;have f:g.nx+1<g1.nx:=by omega
   have hl:g.nx+1<g1'.nx:=TU f k.1;have m:g1'.h.get g.nx=.dfr true:=by rw[k.2 _ (by omega),a2]
   have o:g1'.h.get (g.nx+1)=.loop nt t [p] assign body g.nx .ready none:=by rw[k.2 _ f,a]
   refine⟨rfl,rfl,o,?_⟩;refine bE _ (h (g1'.put (g.nx+1) (.loop nt t [p] assign body g.nx .busy none)) (by simp) (λi hi=>by simp[RQ,hi])) ?_;rintro e t2 df g3 ⟨rfl,⟨b2,q,b1⟩⟩;have B:g3.h.get (g.nx+1)=.loop nt t [p] assign body g.nx .busy none:=by rw[q _ (by omega) (by simpa using hl)];simp[RQ]
   have z:g3.h.get g.nx=.dfr true:=by rw[q _ (by omega) (by simp;omega)];simp[RQ,m]
   refine⟨rfl,B,?_⟩;have A:g1'.nx<=g3.nx:=by simpa using b2
   have C:=k.1;rcases b1 with⟨rfl,b1⟩|⟨rfl,b1⟩
   ·refine .inl ⟨rfl,kk _ ⟨hJ _ g3.h _ (λi hi=>by simp[RQ,show ¬i=g.nx+1 by omega]) b1,?_,?_⟩ (by simp;omega) λi h1 h2=>?_⟩
    ·simp[RQ,z]
    ·simp[RQ]
    ·have x:¬i=g.nx+1:=by omega
     have:=q i (by omega) (by simp;omega);simp[RQ,x]at this ⊢;rw[this,k.2 i h2]
   ·refine .inr ⟨rfl,kE _ ⟨hE g3.h _ (λi hi=>by simp[RQ,show ¬i=g.nx+1 by omega]) b1,?_,?_,?_⟩⟩
    ·simp[RQ,z]
    ·simp[RQ]
    ·simp;omega
 ·refine⟨hJ 0 g.h _ (λi hi=>?_) h0,?_,?_⟩
  ·simp[RQ,show ¬i=g.nx+1 by omega,show ¬i=g.nx by omega]
  ·simp[RQ]
  ·simp[RQ]
 ·rintro g' ⟨a1,a2,a⟩ c;rw[e1]at c;refine⟨_,_,_,_,_,_,.inl ⟨a,fin _ (hJ _ g'.h _ (λi hi=>by simp[RQ,show ¬i=g.nx+1 by omega]) a1) (by simpa using c) ?_⟩⟩;simp[RQ,a2]
 ·rintro g' ⟨a1,a2,a,c⟩;refine⟨_,_,_,_,_,_,.inr ⟨a,finE _ (hE g'.h _ (λi hi=>by simp[RQ,show ¬i=g.nx+1 by omega]) a1) (by simpa using c) ?_⟩⟩;simp[RQ,a2]
end
structure CsOk (cs:List Int):Prop where
 b:∀c∈cs,1<=c/\c<=4
 l:cs.length<=8
def S.nc(cs:List Int):Nat:=(S.RP cs).toNat
theorem CsOk.nc{cs:List Int}(h:CsOk cs):1<=S.nc cs/\S.nc cs<=65536/\((S.nc cs:Nat):Int)=S.RP cs:=by
 obtain⟨h1,h2⟩:=bG h.b;have h3:(4:Int) ^ cs.length<=4 ^ 8:=by
  have:(4:Nat) ^ cs.length<=4 ^ 8:=UG (by decide) h.l
  exact_mod_cast this
 have h4:(4:Int) ^ 8=65536:=by decide
 unfold S.nc;omega
def Up(B:Nat)(g g':G):Prop:=(∀i,i<B->g'.h.get i=g.h.get i)/\∀i∈g'.lg,i∈g.lg\/B<=i
theorem Up.refl(B:Nat)(g:G):Up B g g:=⟨λ_ _=>rfl,λ_ h=>.inl h⟩
theorem Up.trans{B:Nat}{g1 g2:G}(h:Up B g g1)(h2:Up B g1 g2):Up B g g2:=⟨λi hi=>by rw[h2.1 i hi,h.1 i hi],λi hi=>(h2.2 i hi).elim (λh3=>h.2 i h3) .inr⟩
theorem Up.mono{B B':Nat}{g':G}(h:Up B g g')(hb:B'<=B):Up B' g g':=⟨λi hi=>h.1 i (by omega),λi hi=>(h.2 i hi).imp id λh=>by omega⟩
theorem Up.new{B:Nat}{g:G}(hb:B<=g.nx)(o:AObj):Up B g (g.new o):=⟨λi hi=>by rw[G.new_h,au _ _ _ (by omega)],λi hi=>by simp at hi;rcases hi with rfl|hi;exact .inr hb;exact .inl hi⟩
theorem Up.put{B:Nat}{g:G}{j:Nat}(hb:B<=j)(o:AObj):Up B g (g.put j o):=⟨λi hi=>by rw[G.put_h,au _ _ _ (by omega)],λi hi=>by simp at hi;rcases hi with rfl|hi;exact .inr hb;exact .inl hi⟩
theorem qU{sz off:Nat}{rows:List (List AV)}{row row':List AV}{x:AV}(hv:Own g b v sz rows)(hr:rows[i]?=some row)
  (hl:x.cells.length=n) (ht:x.isTup=false) (hp:bX row off x.cells=some row')
  (k:∀g',Own g' b v sz (rows.set i row')->g'.nx=g.nx->(∀i,vid v≠some i->g'.h.get i=g.h.get i)->Up b g g'->K .undef g'):(nz n (jF sz v i off) x g).sat K g D:=by
 rcases hv with⟨rfl,rfl⟩|⟨id,ep,lo,h1,h2,rfl,h3⟩
 ·simp at hr
 ·simp only[jF,Uy];rw[Bv h3 hr rfl ht hl hp];refine k _ (.inr ⟨id,ep,lo,h1,by simpa using h2,by simp,by simp[aP]⟩) (by simp) (λi hne=>?_) (Up.put h1 _);rw[G.put_h,au _ _ _ (λe=>hne (by rw[e];rfl))]
def Uo(B:Nat)(g g':G):Prop:=Up B g g'/\g.nx<=g'.nx/\∀i,i≠B->i<g.nx->g'.h.get i=g.h.get i
theorem Uo.refl(B:Nat)(g:G):Uo B g g:=⟨Up.refl _ _,TG _,λ_ _ _=>rfl⟩
theorem Uo.trans{B:Nat}{g g1 g2:G}(h:Uo B g g1)(h2:Uo B g1 g2):Uo B g g2:=⟨h.1.trans h2.1,T6 h.2.1 h2.2.1,λi hi hn=>by rw[h2.2.2 i hi (TU hn h.2.1),h.2.2 i hi hn]⟩
def Ul(B:Nat)(g g':G):Prop:=Up B g g'/\g.nx<=g'.nx/\∀i,(i<B\/B+3<=i)->i<g.nx->g'.h.get i=g.h.get i
theorem Ul.put{B:Nat}{g:G}{j:Nat}(hb:B<=j)(hb2:j<B+3)(o:AObj):Ul B g (g.put j o):=⟨Up.put hb o,by simp,λi hi _=>by rw[G.put_h,au _ _ _ (by omega)]⟩
def LMc(id:Nat)(w u:AV)(k:Nat):List (Nat×AV):=[(0,.yld id),(1,.tptr 0 1 [[w]] 0 0),(3,u),(4,XL (k:Int))]
structure OdoC (cs vs:List Int) (L:List (Nat×AV)) (u:AV) (g0:G) (m:Nat) (t:T) (g:G):Prop where
 st:tat t 5=XL ((m:Int) - 1)
 ss:St t L
 ow:Own g g0.nx u 1 ((vs.take m++List.replicate (vs.length - m) 0).map ci)
 mx:∀(j:Nat) (c:Int),m<=j->cs[j]?=some c->vs[j]?.getD 0=c - 1
theorem Oa{id:Nat}(hb:CsOk cs)(hw:SlR NoP 0 .nil cs w)(hc:InC cs vs)(hm:m<=cs.length)
  (h0:OdoC cs vs (LMc id w u k) u g0 m t g) (hvu:vid u=some g0.nx)
  (fin:∀m' t g',m'<=cs.length->OdoC cs vs (LMc id w u k) u g0 m' t g'->g.nx<=g'.nx->Uo g0.nx g g'->(m'=0\/∃x c,vs[m' - 1]?=some x/\cs[m' - 1]?=some c/\x≠c - 1/\0<m')->Q (.exit 2) t [] g') :
  wpL (wp C0 d none bQ) Q t [] g:=by
 have H:=hc.len;have D:=hb.l;have ri:=λh=>(hw.tree (h':=h) (TG 0):SlR NoP 0 h cs w).ints;refine eW (λm t df g'=>df=[]/\m<=cs.length/\OdoC cs vs (LMc id w u k) u g0 m t g'/\g.nx<=g'.nx/\Uo g0.nx g g') m ⟨rfl,hm,h0,TG _,Uo.refl _ _⟩ ?_;rintro m t df g1 ⟨rfl,hm,⟨h5,⟨h0,h1,h3,h4,-⟩,f,p⟩,q,o⟩;simp only[bQ];cases m with
 | zero =>
  have c1:¬((0:Int)<=((0:Nat):Int) - 1):=by omega
  simp only[sz,simprocAttr,h5,c1];refine fin 0 _ _ (Uj _) ⟨?_,?_,?_,p⟩ ?_ ?_ (.inl rfl)
  ·simp[sx,h5]
  ·simp[St,LMc,sx,h0,h1,h3,h4]
  ·exact f
  ·exact q
  ·exact o
 | succ m =>
  have c1:(0:Int)<=((m+1:Nat):Int) - 1:=by omega
  have e1:((m+1:Nat):Int) - 1=(m:Int):=by omega
  rw[e1]at c1 h5;obtain⟨x,hx,-,s⟩:=ae (l:=cs) (j:=m) (by omega);obtain⟨v,r,E,F⟩:=hc.get hx;have C:=hb.b x s;have z:m<((vs.take (m+1)++List.replicate (vs.length - (m+1)) 0).map ci).length:=by simp;omega
  have y:((vs.take (m+1)++List.replicate (vs.length - (m+1)) 0).map ci)[m]?=some (ci v):=by rw[TK,T5 (by simp;omega),T7 (by omega),r];rfl
  have A:m<(cs.map ci).length:=by simp;omega
  have B:(cs.map ci)[m]?=some (ci x):=by rw[TK,hx];rfl
  have ru:=f.rows;have w1:IntKind.wrap .i64 (x - 1)=x - 1:=ap (by omega) (by omega)
  by_cases c2:v=x - 1
  ·simp only[sz,simprocAttr,h5,h1,h3,c1,ru,z,y,ri,A,B,aT,ci,w1,c2];refine qU (v:=u) (sz:=1) (n:=1) (i:=m) (off:=0) (x:=XL 0) (row':=ci 0) f y rfl rfl rfl λg4 hu4 n4 f4 p4=>?_;rw[<-Vf,qX (by omega)]at hu4;have I:IntKind.wrap .i64 ((m:Int) - 1)=(m:Int) - 1:=ap (by omega) (by omega);simp only[sz,simprocAttr,h5,I];refine⟨m,by omega,by omega,⟨by simp[sx],by simp[St,LMc,sx,h0,h1,h3,h4],hu4,λj c hj a=>?_⟩,by omega,o.trans ⟨p4,by omega,λi hi _=>f4 i λe=>hi (by rw[hvu]at e;injection e with e;exact e.symm)⟩⟩
   by_cases e:j=m
   ·subst e;rw[hx]at a;injection a with a;rw[r,TS];omega
   ·exact p j c (by omega) a
  ·simp only[sz,simprocAttr,h5,h1,h3,c1,ru,z,y,ri,A,B,aT,ci,w1,c2];refine fin (m+1) _ _ hm ⟨?_,?_,?_,p⟩ ?_ ?_ (.inr ⟨v,x,r,hx,c2,by omega⟩)
   ·simp[sx,h5]
   ·simp[St,LMc,sx,h0,h1,h3,h4]
   ·exact f
   ·exact q
   ·exact o
theorem Ob{id:Nat}(hb:CsOk cs)(hw:SlR NoP 0 .nil cs w)
  (J:Nat->G->Prop) (E:G->Prop) (hJ:∀j g g',Uo g0.nx g g'->J j g->J j g')
  (step:∀(j:Nat) (u:AV) (g:G) (K':AV->G->Prop) (D:ADf->Prop),j<S.nc cs->g0.nx+1<=g.nx->J j g->SlR (λi=>g0.nx<=i/\i<g.nx) 0 g.h (S.RT cs j) u ->
   (∀g',J (j+1) g'->g.nx<=g'.nx->(∀i,g0.nx<=i->i<g.nx->g'.h.get i=g.h.get i)->K' (.bool true) g')->(∀g',E g'->K' (.bool false) g')->(bP (I C0) d id [XL (j:Int),u] g).sat K' g D)
  (h0:J 0 g0) (fin:∀g',J (S.nc cs) g'->g0.nx<=g'.nx->K (.tup []) g') (finE:∀g',E g'->K (.tup []) g') :
  wp C0 d none aW.code (fnQ C0 d aW.res K) (bN 0 [.yld id,.tptr 0 1 [[w]] 0 0] .nil) [] g0:=by
 have h6:=hb.l;obtain⟨W1,W2,W3⟩:=hb.nc;have p:=λc hc=>(hb.b c hc).1;have nl:=hw.len;have ri:=λh=>(hw.tree (h':=h) (TG 0):SlR NoP 0 h cs w).ints;obtain⟨Qf,B⟩:∃Qf,Qf=fnQ C0 d aW.res K:=⟨_,rfl⟩;rw[<-B];simp only[sz,simprocAttr,aW,aT,nl];refine nj (b:=g0.nx) (n:=cs.length) (by unfold aQ;omega) (by unfold aQ;omega) (TG _) λu g1 hu n1 fr1 v1 l1=>?_;simp only[sz,simprocAttr];obtain⟨INV,o⟩:∃INV:Nat->PT,INV=(λm t df g=>df=[]/\∃(j:Nat) (vs:List Int),m=S.nc cs - j/\j<S.nc cs/\InC cs vs/\S.RQ cs vs=(j:Int)/\St t (LMc id w u j)/\Own g g0.nx u 1 (vs.map ci)/\J j g/\g0.nx+1<=g.nx):=⟨_,rfl⟩;refine eW INV (S.nc cs) ?_ ?_
 ·rw[o];exact⟨rfl,0,List.replicate cs.length 0,rfl,by omega,BF p,by rw[pX];rfl,by simp[St,LMc,sx],by simpa [ci] using hu,hJ 0 _ _ ⟨⟨fr1,λi hi=>by rw[l1]at hi;rcases Us.1 hi with rfl|hi;exact .inr (TG _);exact .inl hi⟩,by omega,λi _ hn=>fr1 i hn⟩ h0,by omega⟩
 intro m t df g hI;have H:=hI;rw[o]at H;obtain⟨rfl,j,vs,rfl,hj,f,r,⟨h0,h1,h3,h4,-⟩,ho,z,M⟩:=H;clear hI;have ha:=f.len;have O:S.RT cs (j:Int)=vs:=by rw[<-r];exact q9 p f
 have P:vid u=some g0.nx:=v1;have hsl:SlR (λi=>g0.nx<=i/\i<g.nx) 0 g.h vs u:=Own.sl (α:=Int) ho (by omega) (RN (λa=>ax.2 rfl) _) λi hi=>ho.lt hi;have w1:IntKind.wrap .i64 ((cs.length:Int) - 1)=(cs.length:Int) - 1:=ap (by omega) (by omega);obtain⟨R,hR⟩:∃R,R=(XK (.blk 1 (sQ [oL 15 1,oN 16 15,W_ 17 .sub 16 1,oM 5 17] (XK (.blk 2 (.loop bQ)) bS))) cY):=⟨_,rfl⟩;simp only[gm];rw[<-hR,b_];obtain⟨Q1,A⟩:∃Q1,Q1=kL INV (S.nc cs - j) (kB 0 Qf):=⟨_,rfl⟩;rw[<-A];have rest:∀(t:T) (g:G),St t (LMc id w u j)->Own g g0.nx u 1 (vs.map ci)->J (j+1) g->g0.nx+1<=g.nx->wp C0 d none R Q1 t [] g:=by
  rintro t g ⟨h0,h1,h3,h4,-⟩ ho z M;rw[hR,A];simp only[sz,simprocAttr,h1,aT,nl,w1];refine Oa (id:=id) (k:=j) (m:=cs.length) (w:=w) (u:=u) (vs:=vs) (g0:=g0) hb hw f (TG _) ⟨by simp[sx],by simp[St,LMc,sx,h0,h1,h3,h4],?_,λi c hi hc=>?_⟩ P ?_
  ·rw[TX (by omega),show vs.length - cs.length=0 by omega];simpa using ho
  ·have:=(TJ.1 hc).1;omega
  rintro m' t2 g2 h7 ⟨h5,⟨h0,h1,h3,h4,-⟩,N,L⟩ h9 Q C;have y:J (j+1) g2:=hJ _ _ _ Q z;rcases C with rfl|⟨x,c,hx,hc,Y,h8⟩
  ·have F:j+1=S.nc cs:=by have:=wM (cs:=cs) (vs:=vs) f.len.symm λi c hc=>L i c (Uj _) hc;omega
   have c1:(((0:Nat):Int) - 1<0):=by omega
   rw[B];simp only[sz,simprocAttr,bS,aW,h5,c1];rw[F]at y;exact fin g2 y (by omega)
  ·obtain⟨i,rfl⟩:∃i,m'=i+1:=⟨m' - 1,by omega⟩;rw[VP]at hx hc;have U:=(TJ.1 hx).1;have e1:((i+1:Nat):Int) - 1=(i:Int):=by omega
   rw[e1]at h5;have c1:¬((i:Int)<0):=by omega
   have u1:i<((vs.take (i+1)++List.replicate (vs.length - (i+1)) 0).map ci).length:=by simp;omega
   have u2:((vs.take (i+1)++List.replicate (vs.length - (i+1)) 0).map ci)[i]?=some (ci x):=by rw[TK,T5 (by simp;omega),T7 (by omega),hx];rfl
   have ru:=N.rows;obtain⟨x',V,W,X⟩:=f.get hc;rw[DO V hx]at W X;have h2:=hb.b c (TL hc);have w2:IntKind.wrap .i64 (x+1)=x+1:=ap (by omega) (by omega);simp only[sz,simprocAttr,bS,h5,c1,h3,ru,u1,u2,ci,w2];refine qU (v:=u) (sz:=1) (n:=1) (i:=i) (off:=0) (x:=XL (x+1)) (row':=ci (x+1)) N u2 rfl rfl rfl λg4 hu4 n4 f4 p4=>?_;rw[<-Vf,qW U]at hu4;have s:=A4 f p hx hc Y;have q:=AJ (cs:=cs) (vs:=vs) f.len.symm hx λk c hk hc=>L k c (by omega) hc;rw[r]at q;have Z:=bI hb.b s;have w3:IntKind.wrap .i64 ((j:Int)+1)=((j+1:Nat):Int):=by rw[ap (by omega) (by omega)];rfl
   simp only[sz,simprocAttr,cY,h4,w3];refine⟨S.nc cs - (j+1),by omega,?_⟩;rw[o];refine⟨rfl,j+1,_,rfl,by omega,s,by rw[q];rfl,by simp[St,LMc,sx,h0,h1,h3],hu4,hJ _ _ _ ⟨p4,by omega,λi hi _=>f4 i λe=>hi (by rw[P]at e;injection e with e;exact e.symm)⟩ y,by omega⟩
 simp only[sz,simprocAttr,h0,h3,h4];have st:=λK' D=>step j u g K' D hj M z (by rw[O];exact hsl);show (bP (I C0) d id [XL (j:Int),u] g).sat _ _ _;refine st _ _ (λg' hJ' hn' hf'=>?_) λg' hE=>?_
 ·simp only[sz,simprocAttr];exact rest _ _ (by simp[St,LMc,sx,h0,h1,h3,h4]) (ho.fr hn' λi hi=>hf' i (ho.lt hi).1 (ho.lt hi).2) hJ' (by omega)
 ·rw[A,B];simp only[sz,simprocAttr,aW];exact finE g' hE
theorem Lu:C0.ext 131=none:=by kernel_rfl
theorem C4{p q r:Nat}{ca cb:SC}(hb:CsOk cs)(hw:SlR NoP 0 .nil cs w)
  (hv:tat t r=.clo 131 [] [.tptr 0 1 [[w]] 0 0]) (hp:p<nt) (hq:q<nt)
  (J:Nat->G->Prop) (E:G->Prop) (hJ:∀j g1 g2,Ul g.nx g1 g2->J j g1->J j g2) (hE:∀g1 g2,Ul g.nx g1 g2->E g1->E g2) (h0:J 0 g)
  (step:∀(j:Nat) (u:AV) (g1:G),j<S.nc cs->J j g1->g.nx+3<=g1.nx->SlR (λi=>g.nx+2<=i/\i<g1.nx) 0 g1.h (S.RT cs j) u ->
   wp C0 d (some (g.nx+1)) ca (λe t1 df g1'=>e=.norm/\df=[]/\Fr g1 g1'/\∀g2:G,g2.nx=g1'.nx->(∀i,i≠g.nx+1->g2.h.get i=g1'.h.get i)->Up g.nx g1' g2 ->
    wp C0 d (some (g.nx+1)) cb (λe _ df g3=>df=[]/\RowQ g.nx g2 g3 e (J (j+1) g3) (E g3)) t1 [] g2)
    (d6 (d6 t p (XL (j:Int))) q u) [] g1)
  (fin:∀g',J (S.nc cs) g'->g.nx+2<=g'.nx->g'.h.get g.nx=.dfr true->Q .norm t (.mark g.nx::df) g')
  (finE:∀g',E g'->g.nx+2<=g'.nx->g'.h.get g.nx=.dfr true->Q .ret t (.mark g.nx::df) g') :
  wp C0 d none (.rng nt (.t r) [p,q] ca cb) Q t df g:=by
 refine nC (fn:=131) (first:=[]) (cap:=[.tptr 0 1 [[w]] 0 0]) (s:=aW) hv Lu pD (by simp[aW]) ?_;intro assign body ha o;have e1:((g.new (.dfr true)).new (.loop nt t [p,q] assign body g.nx .ready none)).nx=g.nx+2:=by simp
 refine Ob (g0:=(g.new (.dfr true)).new (.loop nt t [p,q] assign body g.nx .ready none)) (id:=g.nx+1) hb hw
  (λj g'=>J j g'/\g'.h.get g.nx=.dfr true/\g'.h.get (g.nx+1)=.loop nt t [p,q] assign body g.nx .ready none)
  (λg'=>E g'/\g'.h.get g.nx=.dfr true/\g'.h.get (g.nx+1)=.loop nt t [p,q] assign body g.nx .done (some .ret)/\g.nx+2<=g'.nx) ?_ ?_ ?_ ?_ ?_
 ·rintro j h h' c ⟨a1,a2,b⟩;rw[e1]at c;exact⟨hJ j h h' ⟨c.1.mono (by omega),c.2.1,λi hi a=>c.2.2 i (by omega) a⟩ a1,by rw[c.1.1 _ (by omega),a2],by rw[c.1.1 _ (by omega),b]⟩
 ·rintro j u g1 K' D B a ⟨a1,a2,b⟩ hsl kk kE;rw[e1]at a kk hsl;refine xY b ha o (t':=d6 (d6 t p (XL (j:Int))) q u) ?_ ?_
  ·simp only[cp,aa,UH,TO hp,TO hq];rfl
  ·refine bE _ (step j u g1 B a1 (by omega) hsl) ?_;rintro e t1 df g1' ⟨rfl,rfl,k,h⟩;have f:g.nx+1<g1.nx:=by omega
   have hl:g.nx+1<g1'.nx:=TU f k.1;have l:g1'.h.get g.nx=.dfr true:=by rw[k.2 _ (by omega),a2]
   have m:g1'.h.get (g.nx+1)=.loop nt t [p,q] assign body g.nx .ready none:=by rw[k.2 _ f,b]
   refine⟨rfl,rfl,m,?_⟩;refine bE _ (h (g1'.put (g.nx+1) (.loop nt t [p,q] assign body g.nx .busy none)) (by simp) (λi hi=>by simp[RQ,hi]) (Up.put (by omega) _)) ?_;rintro e t2 df g3 ⟨rfl,⟨b2,n,b1⟩⟩;have z:g3.h.get (g.nx+1)=.loop nt t [p,q] assign body g.nx .busy none:=by rw[n _ (by omega) (by simpa using hl)];simp[RQ]
   have x:g3.h.get g.nx=.dfr true:=by rw[n _ (by omega) (by simp;omega)];simp[RQ,l]
   refine⟨rfl,z,?_⟩;have y:g1'.nx<=g3.nx:=by simpa using b2
   have A:=k.1;rcases b1 with⟨rfl,b1⟩|⟨rfl,b1⟩
   ·refine .inl ⟨rfl,kk _ ⟨hJ _ g3 _ (Ul.put (by omega) (by omega) _) b1,?_,?_⟩ (by simp;omega) λi h1 h2=>?_⟩
    ·simp[RQ,x]
    ·simp[RQ]
    ·have v:¬i=g.nx+1:=by omega
     have:=n i (by omega) (by simp;omega);simp[RQ,v]at this ⊢;rw[this,k.2 i h2]
   ·refine .inr ⟨rfl,kE _ ⟨hE g3 _ (Ul.put (by omega) (by omega) _) b1,?_,?_,?_⟩⟩
    ·simp[RQ,x]
    ·simp[RQ]
    ·simp;omega
 ·refine⟨hJ 0 g _ ⟨(Up.new (TG _) _).trans (Up.new (by simp) _),by simp;omega,λi hi a=>by simp[RQ,show ¬i=g.nx by omega,show ¬i=g.nx+1 by omega]⟩ h0,?_,?_⟩
  ·simp[RQ]
  ·simp[RQ]
 ·rintro g' ⟨a1,a2,b⟩ a;rw[e1]at a;refine⟨_,_,_,_,_,_,.inl ⟨b,fin _ (hJ _ g' _ (Ul.put (by omega) (by omega) _) a1) (by simpa using a) ?_⟩⟩;simp[RQ,a2]
 ·rintro g' ⟨a1,a2,b,a⟩;refine⟨_,_,_,_,_,_,.inr ⟨b,finE _ (hE g' _ (Ul.put (by omega) (by omega) _) a1) (by simpa using a) ?_⟩⟩;simp[RQ,a2]
theorem Bl{p q r:Nat}{ca cb:SC}(hb:CsOk cs)(hw:SlR NoP 0 .nil cs w)
  (hv:tat t r=.clo 131 [] [.tptr 0 1 [[w]] 0 0]) (hp:p<nt) (hq:q<nt)
  (J:Nat->G->Prop) (E:G->Prop) (hJ:∀j g1 g2,Up g.nx g1 g2->J j g1->J j g2) (hE:∀g1 g2,Up g.nx g1 g2->E g1->E g2) (h0:J 0 g)
  (step:∀(j:Nat) (u:AV) (g1:G),j<S.nc cs->J j g1->g.nx+2<=g1.nx->SlR (λi=>g.nx+2<=i/\i<g1.nx) 0 g1.h (S.RT cs j) u ->
   wp C0 d (some (g.nx+1)) ca (λe t1 df g1'=>e=.norm/\df=[]/\Fr g1 g1'/\∀g2:G,g2.nx=g1'.nx->(∀i,i≠g.nx+1->g2.h.get i=g1'.h.get i)->Up g.nx g1' g2 ->
    wp C0 d (some (g.nx+1)) cb (λe _ df g3=>df=[]/\RowQ g.nx g2 g3 e (J (j+1) g3) (E g3)) t1 [] g2)
    (d6 (d6 t p (XL (j:Int))) q u) [] g1)
  (fin:∀g',J (S.nc cs) g'->g.nx+2<=g'.nx->g'.h.get g.nx=.dfr true->Q .norm t (.mark g.nx::df) g')
  (finE:∀g',E g'->g.nx+2<=g'.nx->g'.h.get g.nx=.dfr true->Q .ret t (.mark g.nx::df) g') :
  wp C0 d none (.rng nt (.t r) [p,q] ca cb) Q t df g :=
 C4 hb hw hv hp hq J E (λj g1 g2 h=>hJ j g1 g2 h.1) (λg1 g2 h=>hE g1 g2 h.1) h0 (λj u g1 hj hJj hn=>step j u g1 hj hJj (by omega)) fin finE
def CbV(cs:List Int):VS:=λP k h v=>∃p,v=.clo 131 [] [p]/\yL cs 1 P k h p
theorem QX(cs:List Int):Snb (CbV cs) 2:=by
 refine⟨λ{P k h v n} d r hn=>?_,λ{k h v n} r hn=>?_⟩
 ·obtain⟨p,rfl,a⟩:=r;obtain⟨n,rfl⟩:∃q,n=q+2:=⟨n - 2,by omega⟩;obtain⟨p',e1,b⟩:=nm (n:=n) d a (T6 (show Rp.dp (List Int)<=20 by decide) (by omega));refine⟨.clo 131 [] [p'],?_,p',rfl,b⟩;simp only[Hx.snap,aF]at e1 ⊢;rw[e1]
 ·obtain⟨p,rfl,a⟩:=r;obtain⟨n,rfl⟩:∃q,n=q+2:=⟨n - 2,by omega⟩;obtain⟨c,e1,l1⟩:=qP (n:=n) a;refine⟨Nat.max c 0,?_,by show max c 0<=k;omega⟩;show eV (dZ (n+1)) [p]=_;simp only[eV,e1]
theorem zg(hd:0<d)(hw:SlR NoP 0 g.h cs w) :
  ∃z,ah C0 d 96 [w] g=.val (.clo 131 [] [.tptr 0 1 [[z]] 0 0])/\SlR NoP 0 .nil cs z:=by
 have key:∃r,ah C0 d 96 [w] g=.val r/\CbV cs NoP 0 .nil r:=by rw[pz];refine aL sg (xs:=[w]) (by simp only[aF,jC d hw]) (by simp[fL]) (QX cs) (by decide) hd ?_;simp only[sz,simprocAttr,fL,ju,zO hw];refine⟨λ_=>True,_,rfl,.inl ⟨0,[w],rfl,trivial,by simp[sx,RQ],?_⟩⟩;exact⟨w,rfl,hw.wide (TG 0)⟩
 obtain⟨r,hr,p,rfl,k⟩:=key;rcases k with⟨id,cs,rfl,a,-⟩|⟨t,cs2,rfl,ht,k⟩
 ·exact a.elim
 obtain⟨z,rfl,hz⟩:=eC.1 k;have:t=0:=by omega
 subst this;exact⟨z,hr,hz⟩
theorem AK{c v:Int}(h:cs.length=vs.length):S.RQ (cs++[c]) (vs++[v])=S.RQ cs vs*c+v:=by
 have h1:=vD (cs++[c]) (vs++[v]) 0 (by simp[h]);have h2:=vD cs vs 0 h;have h3:S.Tg (cs++[c]) (vs++[v]) 0=S.Tg cs vs 0*c+v:=by
  unfold S.Tg;rw[List.zip_append h,Wr]
  rfl
 rw[Int.zero_mul,Int.zero_add]at h1 h2;rw[<-h1,h3,h2]
theorem dc(hc:∀c∈cs,1<=c/\c<=4)(hl:cs.length<=8)(j:Nat):S.RP (cs.take j)<=65536:=by
 obtain⟨-,h2⟩:=bG (l:=cs.take j) λc h=>hc c (Uc h);have h3:(4:Int) ^ (cs.take j).length<=4 ^ 8:=by
  have:(4:Nat) ^ (cs.take j).length<=4 ^ 8:=UG (by decide) (by rw[T_];omega)
  exact_mod_cast this
 have h4:(4:Int) ^ 8=65536:=by decide
 omega
theorem Pv{k2:Nat}{P2:Nat->Prop}{n:Net}{x:Node}{vals:List Int}(hd:0<d)(hv:SlR NoP 0 .nil n.nodes v)(hr:NR n)(hx:n.nodes[i]?=some x)(hw:SlR P2 k2 g.h vals w)(hin:InC (S.RN n) vals) :
  ah C0 d 130 [v,XL (i:Int),w] g=.val (XL (S.RQ (S.RO (S.RN n) x.parents) (S.RO vals x.parents))):=by
 obtain⟨w',e2,I⟩:=bm hw d;have e1:=jC (h:=g.h) d (hv.tree (h':=g.h) (TG 0));obtain⟨rows,B,r2,O,r4⟩:=hv.all;have B:∀h',ak h' 3 v=some rows:=B;have R:=(TJ.1 hx).1;have r:=TL hx;obtain⟨row,Z,q2⟩:=O i x hx;obtain⟨pa,ra,rfl,o,-⟩:=cI.1 q2;have hlt:i<rows.length:=by omega
 have q:=r4 (by omega);have T:=hr.l2;have H:=hin.len;rw[aB]at H;have W:=dy (hr.places x r) (by omega);have k:=hr.pin r;have lpa:=o.len;have rpa:=λh=>(o.tree (h':=h) (TG 0)).ints;have rw':=λh=>(I h).ints;have hC:=dx hin k;have hb:=aZ hr.cs k;have b:(S.RO (S.RN n) x.parents).length=x.parents.length:=by simp[S.RO]
 have C:(S.RO vals x.parents).length=x.parents.length:=by simp[S.RO]
 rw[Aa];refine ff DG (xs:=[v,XL (i:Int),w']) (by simp only[aF,e1,e2,bD 0]) (by simp[tw]) hd ?_;simp only[sz,simprocAttr,tw,B,hlt,Z,q,lpa,tx];refine aI (m:=x.parents.length) (by omega) (λj t df g=>df=[]/\St t [(0,v),(2,w'),(14,pa),(7,XL (S.RQ ((S.RO (S.RN n) x.parents).take j) ((S.RO vals x.parents).take j)))]) ⟨rfl,by simp[St,sx,S.RQ]⟩ (by simp[sx]) (by simp[sx]) (by decide)
  (by rintro j t df g v s (rfl|rfl|rfl)<;>simp[sx,St]) ?_ ?_
 ·rintro j t df g u ⟨rfl,h0,h2,a,h7,-⟩ e h15;obtain⟨p,hp,-,D⟩:=ae u;obtain⟨Y,N⟩:=k p D;rw[aB]at N;obtain⟨pn,rfl⟩:=TP Y;have E:pn<n.nodes.length:=by omega
  obtain⟨y,K,-,J⟩:=ae (l:=n.nodes) (j:=pn) E;obtain⟨row2,s1,s2⟩:=O pn y K;obtain⟨pa2,ra2,rfl,-,-⟩:=cI.1 s2;have f:pn<rows.length:=by omega
  obtain⟨z,hz,-,-⟩:=ae (l:=vals) (j:=pn) (by omega);have a1:j<(x.parents.map ci).length:=by simpa using u
  have a2:(x.parents.map ci)[j]?=some (ci (pn:Int)):=by rw[TK,hp];rfl
  have b1:pn<(vals.map ci).length:=by rw[TT];omega
  have b2:(vals.map ci)[pn]?=some (ci z):=by rw[TK,hz];rfl
  have c1:(S.RO (S.RN n) x.parents).take (j+1)=(S.RO (S.RN n) x.parents).take j++[y.card]:=by
   rw[Uh (by omega)];congr 1;simp only[S.RO,WN];have:x.parents[j]=(pn:Int):=by rw[TH u]at hp;injection hp
   rw[this];simp[S.RN,K]
  have P:(S.RO vals x.parents).take (j+1)=(S.RO vals x.parents).take j++[z]:=by
   rw[Uh (by omega)];congr 1;simp only[S.RO,WN];have:x.parents[j]=(pn:Int):=by rw[TH u]at hp;injection hp
   rw[this];simp[hz]
  have F:S.RQ ((S.RO (S.RN n) x.parents).take (j+1)) ((S.RO vals x.parents).take (j+1))=S.RQ ((S.RO (S.RN n) x.parents).take j) ((S.RO vals x.parents).take j)*y.card+z:=by rw[c1,P];exact AK (by simp[b,C])
  have L:=bI (λc h=>hb c (Uc h)) (hC.take j);have M:=bI (λc h=>hb c (Uc h)) (hC.take (j+1));have N:=dc hb (by rw[b];omega) j;have p2:=dc hb (by rw[b];omega) (j+1);rw[F]at M ⊢;have X:=hr.card y J;obtain⟨A,Q⟩:∃A,A=S.RQ ((S.RO (S.RN n) x.parents).take j) ((S.RO vals x.parents).take j):=⟨_,rfl⟩;rw[<-Q]at h7 L M ⊢;have U:0<=A*y.card:=Vp L.1 (by omega);have V:A*y.card<=65536*4:=Wy (by omega) (by omega) (by omega) (by omega);have w1:IntKind.wrap .i64 (A*y.card)=A*y.card:=ap (by omega) (by omega);have w2:IntKind.wrap .i64 (A*y.card+z)=A*y.card+z:=ap (by omega) (by omega);simp only[sz,simprocAttr,h0,h2,a,h7,e,rpa,a1,a2,ci,B,f,s1,q,rw',b1,b2,w1,w2];simp[St,sx,h0,h2,a,h15,e]
 ·rintro t df g ⟨rfl,h0,h2,a,h7,-⟩;rw[TX (by omega),TX (by omega)]at h7;simp only[sz,simprocAttr,tz,h7]
theorem QA(hn:n<=65536)(k:∀g',g'.h.get g.nx=W8 1 ((List.replicate n 0).map ci)->g'.nx=g.nx+1->Up g.nx g g'->K (.hsl g.nx 0 0 0 none) g') :
  (A0 1 8 [XL 0] (XL 0) (XL (n:Int)) g).sat K g D:=by
 have h1:n<=aQ:=by unfold aQ;omega
 have h2:n*8<=aQ:=by unfold aQ;omega
 have key:A0 1 8 [XL 0] (XL 0) (XL (n:Int)) g=.upd (.hsl g.nx 0 0 0 none) (g.new (W8 1 (fj n [XL 0]))):=by
  show (match bU aQ (XL (.ofNat n)) with
   | some cn=>match bU cn (XL 0) with
    |some ln=>ay (Nat.ble (cn*8) aQ) (OR.upd (.hsl g.nx 0 0 ln none) (g.new (W8 1 (fj cn [XL 0])))) .fail
    |none=>.fail
   |none=>.fail)=_
  have a1:bU aQ (XL (.ofNat n))=some n:=by show ay (Nat.ble n aQ) (some n) none=_;rw[aa,TO (by simpa using h1)]
  have a2:bU n (XL 0)=some 0:=by show ay (Nat.ble 0 n) (some 0) none=_;rw[aa,TO (by simp)]
  rw[a1];dsimp only;rw[a2];dsimp only;rw[aa,TO (by simpa using h2)]
 rw[key];refine k _ ?_ (by simp) (Up.new (TG _) _);simp[aP,fj,ci]
theorem Jo{id:Nat}{l tl:List Int}{x y:Int}(hv:g.h.get id=W8 1 (l.map ci++(y::tl).map ci))(hx:ak g.h 1 w=some [ci x])(hr:l.length<=65536)
  (k:K (.hsl id 0 0 (l++[x]).length none) (g.put id (W8 1 ((l++[x]).map ci++tl.map ci)))):(di 1 8 (.hsl id 0 0 l.length none) w g).sat K g D:=by
 unfold di;rw[hx];simp only[bg,G.get_eq,hv,aA,aa,Uv,U7,Uw,TM,Uy,Vc,VY,Vl,TT,Uq,Vq];rw[TO ⟨by omega,by unfold aQ;omega⟩,TO (by omega)];have a:jz false=true:=rfl;rw[TO ⟨by omega,a⟩];have e:jA (l.map ci++(y::tl).map ci) l.length [ci x]=(l++[x]).map ci++tl.map ci:=by simp only[jA,g7];rw[U_,UJ,VT,UU _ _ (by simp)];simp
 rw[e];have e3:l.length+1=(l++[x]).length:=by simp
 rw[e3];exact k
def S.wt(n:Net)(w:Nat):Int:=S.Sw n (S.RT (S.RN n) (w:Int))
def S.R8(n:Net)(j:Nat):List Int:=(List.range j).map (S.wt n)
theorem NQ(n:Net)(j:Nat):S.R8 n (j+1)=S.R8 n j++[S.wt n j]:=by simp[S.R8,VL]
theorem Ji(n:Net)(j:Nat):(S.R8 n j).length=j:=by simp[S.R8]
def LWt(B:Nat):List (Nat×AV):=[(1,XM B),(4,XM (B+2))]
theorem HJ{B:Nat}{n:Net}{b:AV}{vals:List Int}{rd:Option Nat}(hd:0<d)(hr:NR n)(hN:SlR NoP 0 .nil n.nodes b)(hin:InC (S.RN n) vals)(hu:SlR P 0 g.h vals u)(hP:∀i,P i->i<g.nx)(hB:B<g.nx)
  (gB:g.h.get B=W8 2 [[XL n.grain,b]])
  (ht:St t ((6,u)::(21,b)::LWt B)) (h7:tat t 7=XL 1) (h23:tat t 23=XL 0) (h22:tat t 22=XL (n.nodes.length:Int))
  (fin:∀t g',St t ((7,XL (S.Sw n vals))::(6,u)::LWt B)->Fr g g'->Up g.nx g g'->Q (.exit 2) t [] g'):wpL (wp C0 d rd ia) Q t [] g:=by
 obtain⟨rows,I,r2,Z,r4⟩:=hN.all;have I:∀h',ak h' 3 b=some rows:=I;have R:=hr.l2;have F:=hin.len;rw[aB]at F;simp only[ia];refine aI (m:=n.nodes.length) (by omega) (λk t df g'=>df=[]/\St t ((7,XL (S.RP ((List.range k).map (S.R2 n vals))))::(6,u)::(21,b)::LWt B)/\Fr g g'/\Up g.nx g g') ⟨rfl,by
   obtain⟨h6,a,h1,h4,-⟩:=ht;simp[St,LWt,h1,h4,h6,h7,a,S.RP],Fr.refl _,Up.refl _ _⟩ h23 h22 (by decide)
  (by rintro j t df g v s (rfl|rfl|rfl) ⟨a1,⟨b1,b2,K,L,M,-⟩,c1,N⟩<;>exact⟨a1,by simp[St,LWt,sx,b1,b2,K,L,M],c1,N⟩) ?_ ?_
 ·rintro k t df g1 hk ⟨rfl,⟨h7,h6,a,h1,h4,-⟩,f,A⟩ h23 h22;obtain⟨x,hx,-,-⟩:=ae hk;obtain⟨row,Y,q2⟩:=Z k x hx;obtain⟨pa,ra,rfl,U,D⟩:=cI.1 q2;obtain⟨i,r,c,y,V,i2,W,J,i5,i6,H,X,i9⟩:=wE hr hin hx;obtain⟨cn,rfl⟩:=TP i5;rw[Ux]at H;obtain⟨rr,s1,s2,s3,s4⟩:=zq D;obtain⟨z,t1,t2,hz⟩:=s3 i r W;have hlt:k<rows.length:=by omega
  have E:=r4 (by omega);have o:=s4 (by omega);have p:∀g2:G,Fr g1 g2->SlR P 0 g2.h vals u:=λg2 e=>hu.far8 λi hi=>by have:=hP i hi;rw[e.2 i (TU this f.1),f.2 i this]
  have q:B<g1.nx:=TU hB f.1;have gB1:g1.h.get B=W8 2 [[XL n.grain,b]]:=by rw[f.2 B hB,gB]
  have rz:=λh=>(hz.tree (h':=h) (TG 0)).ints;have u1:k<(vals.map ci).length:=by rw[TT];exact (TJ.1 J).1
  have u2:(vals.map ci)[k]?=some (ci (cn:Int)):=by rw[TK,J];rfl
  have v1:cn<(r.map ci).length:=by rw[TT];exact (TJ.1 H).1
  have v2:(r.map ci)[cn]?=some (ci y):=by rw[TK,H];rfl
  have wb:=kG hr hin (j:=k+1) (by omega);have ws:=q_ n vals k;rw[X]at ws;have w1:IntKind.wrap .i64 (S.RP ((List.range k).map (S.R2 n vals))*y)=S.RP ((List.range (k+1)).map (S.R2 n vals)):=by rw[<-ws,ap (by omega) (by omega)]
  refine ge (P:=λt' df g'=>df=[]/\g'=(g1.new (W8 3 [[XL 0,.nils,.nils]])).put g1.nx (W8 3 [[XL x.card,pa,ra]])/\St t' ((9,XM g1.nx)::(8,XL (k:Int))::(23,XL (k:Int))::(22,XL (n.nodes.length:Int))::(7,XL (S.RP ((List.range k).map (S.R2 n vals))))::(6,u)::(21,b)::LWt B)) ?_ ?_
  ·have fw:d7 [XL 0,.nils,.nils] [((0,3),.agg [XL x.card,pa,ra])]=some [XL x.card,pa,ra]:=rfl;simp only[sz,simprocAttr,h23,a,I,hlt,Y,E];simp[St,LWt,sx,h1,h4,h6,h7,a,h22,h23]
  clear h1 h4 h6 h7 a h22 h23;rintro t df g2 ⟨rfl,l,h9,h8,h23,h22,h7,h6,a,h1,h4,-⟩;have e:Fr g1 g2:=by rw[l];exact⟨by simp,λi hi=>by simp[RQ,show ¬i=g1.nx by omega]⟩
  have C:Up g.nx g1 g2:=by rw[l];exact (Up.new f.1 _).trans (Up.put f.1 _)
  have O:g2.h.get g1.nx=W8 3 [[XL x.card,pa,ra]]:=by rw[l];simp[RQ]
  have gB2:g2.h.get B=W8 2 [[XL n.grain,b]]:=by rw[e.2 B q,gB1]
  have kr:=Pv (d:=d) (i:=k) (g:=aR g2 []) (P2:=P) (k2:=0) (v:=b) (w:=u) (x:=x) (vals:=vals) hd hN hr hx (by simpa using p g2 e) hin;rw[V]at kr;have ru:=(p g2 e).ints;simp only[sz,simprocAttr,h7,h9,O,h1,gB2,h8,h6,kr,s1,t1,t2,o,ru,u1,u2,ci,rz,v1,v2,w1];exact⟨⟨by simp[St,LWt,sx,h1,h4,h6,a],f.trans e,A.trans C⟩,h23,h22⟩
 ·rintro t df g' ⟨rfl,⟨h7,h6,a,h1,h4,-⟩,f,A⟩;exact fin t g' ⟨h7,h6,h1,h4,trivial⟩ f A
theorem HK{n:Net}(hd:0<d)(hr:NR n)(hm:Agg n NoP 0 .nil v)
  (kk:∀g',g'.h.get (g.nx+1)=W8 1 ((S.R8 n (S.RR n)).map ci)->g.nx+2<=g'.nx->Fr g g'->Up g.nx g g'->K (.hsl (g.nx+1) 0 0 (S.RR n) none) g') :
  (ah C0 d 95 [v] g).sat K g D:=by
 obtain⟨cs,rfl,hc⟩:=hm;obtain⟨b,rfl,hN⟩:=ie.1 hc;have X:=hr.l2;obtain⟨W1,W2,W3⟩:=hr.wl;have C:CsOk (S.RN n):=⟨hr.cs,by rw[aB];omega⟩;have m:S.nc (S.RN n)=S.RR n:=rfl;obtain⟨B,q⟩:∃B,B=g.nx:=⟨_,rfl⟩;have f:∀h,SlR NoP 0 h n.nodes b:=λh=>hN.tree (TG 0);have lb:∀g:G,cH .slice b g=.val (XL (n.nodes.length:Int)):=λg=>(f .nil).len g;rw[uV];refine wz xR (by simp[lI]) ?_;simp only[sz,simprocAttr,lI];unfold nQ;refine ge (P:=λt' df g'=>df=[]/\g'=g.new (W8 2 [[XL n.grain,b]])/\∃rc,IT 0 (S.RN n) rc/\St t' [(1,XM B),(3,rc)]) ?_ ?_
 ·simp only[sz,simprocAttr,<-q];refine bi (yi hd (f _) (by omega)) λrc e=>?_;simp only[sz,simprocAttr];exact⟨rc,e,by simp[St,sx,Ed]⟩
 rintro t df g1 ⟨rfl,a,rc,e,h1,h3,-⟩;have J:=Gp (d:=d) (g:=g1) hd (e.sl g1.h);rw[x9 hr.cs (by rw[aB];omega),<-W3]at J;have n1:g1.nx=B+1:=by rw[a,q];simp
 have gB:g1.h.get B=W8 2 [[XL n.grain,b]]:=by rw[a,q];simp[RQ]
 have F1:Fr g g1:=by rw[a];exact Fr.new _ _
 have U1:Up B g g1:=by rw[a];exact Up.new (by omega) _
 clear a;refine ge (P:=λt' df g'=>df=[]/\g'.nx=B+3/\g'.h.get B=W8 2 [[XL n.grain,b]]/\g'.h.get (B+1)=W8 1 ((List.replicate (S.RR n) 0).map ci)/\g'.h.get (B+2)=W8 1 [[.hsl (B+1) 0 0 0 none]]/\Fr g g'/\Up B g g'/\St t' [(1,XM B),(3,rc),(4,XM (B+2))]) ?_ ?_
 ·simp only[sz,simprocAttr,h3,J];refine QA (by omega) λg2 m2 n2 u2=>?_;rw[n1]at m2 n2 u2 ⊢;simp only[sz,simprocAttr,n2];refine⟨?_,?_,?_,?_,by simp[St,sx,h1,h3]⟩
  ·rw[TN (by omega),TN (by omega),u2.1 B (by omega),gB]
  ·rw[TN (by omega),TN (by omega),m2]
  ·exact⟨by have:=F1.1;simp[n2];omega,λi hi=>by
    have:=F1.2 i hi;simp[RQ,show ¬i=B+1+1 by omega,show ¬i=g2.nx by omega,u2.1 i (by omega),this]⟩
  ·exact (U1.trans (u2.mono (by omega))).trans ((Up.new (by omega) _).trans (Up.put (by omega) _))
 clear h1 h3 J n1 gB F1 U1;rintro t df g2 ⟨rfl,n2,gB,gA,gS,F2,U2,h1,h3,h4,-⟩;obtain⟨z,kz,hz⟩:=zg (d:=d) (g:=g2) (w:=rc) (cs:=S.RN n) hd (e.sl g2.h);rw[b_,b_];simp only[sz,simprocAttr,h3,kz];refine Bl (cs:=S.RN n) (w:=z) C hz (by simp[sx]) (by decide) (by decide)
  (λj g'=>g'.h.get B=W8 2 [[XL n.grain,b]]/\g'.h.get (B+1)=W8 1 ((S.R8 n j).map ci++(List.replicate (S.RR n - j) 0).map ci)/\g'.h.get (B+2)=W8 1 [[.hsl (B+1) 0 0 (S.R8 n j).length none]]/\(∀i,i<B->g'.h.get i=g.h.get i)/\Up B g g')
  (λ_=>False) ?_ (λ_ _ _ h=>h) ?_ ?_ ?_ (λ_ h=>h.elim)
 ·rintro j g3 p r ⟨a1,a2,o,a4,s⟩;rw[n2]at r;exact⟨by rw[r.1 _ (by omega),a1],by rw[r.1 _ (by omega),a2],by rw[r.1 _ (by omega),o],λi hi=>by rw[r.1 i (by omega),a4 i hi],s.trans (r.mono (by omega))⟩
 ·exact⟨gB,by simpa [S.R8] using gA,by simpa [S.R8] using gS,λi hi=>F2.2 i (by omega),U2⟩
 ·rintro j u g3 U ⟨a1,a2,o,a4,s⟩ H hu;rw[n2]at H hu;simp only[sz,simprocAttr,mY];refine⟨Fr.refl _,λp n4 f4 u4=>?_⟩;rw[n2]at f4 u4;have F:=eD (λc hc=>(hr.cs c hc).1) (j:Int);have b1:p.h.get B=W8 2 [[XL n.grain,b]]:=by rw[f4 _ (by omega),a1]
  have b2:p.h.get (B+1)=W8 1 ((S.R8 n j).map ci++(List.replicate (S.RR n - j) 0).map ci):=by rw[f4 _ (by omega),a2]
  have Q:p.h.get (B+2)=W8 1 [[.hsl (B+1) 0 0 (S.R8 n j).length none]]:=by rw[f4 _ (by omega),o]
  have I:SlR (λi=>B+3+2<=i/\i<g3.nx) 0 p.h (S.RT (S.RN n) (j:Int)) u:=hu.far8 λi hi=>f4 i (by omega);rw[m]at U;simp only[sz,simprocAttr,mZ,h1,b1,lb];refine HJ (n:=n) (b:=b) (u:=u) (B:=B) hd hr hN F I (λi hi=>by omega) (by omega) b1 (by simp[St,LWt,sx,h1,h4]) (by simp[sx]) (by simp[sx]) (by simp[sx]) ?_;rintro Z k ⟨h7,-,T,A,-⟩ F5 U5;have L:k.h.get (B+2)=W8 1 [[.hsl (B+1) 0 0 (S.R8 n j).length none]]:=by rw[F5.2 _ (by omega),Q]
  have R:k.h.get (B+1)=W8 1 ((S.R8 n j).map ci++((0:Int)::List.replicate (S.RR n - (j+1)) 0).map ci):=by rw[F5.2 _ (by omega),b2,show S.RR n - j=(S.RR n - (j+1))+1 by omega,UY]
  simp only[sz,simprocAttr,m6,A,L,h7];have W:B+2<k.nx:=TU (by omega) F5.1;refine Jo (x:=S.wt n j) (g:=k.new (W8 1 [[XL (S.wt n j)]])) (l:=S.R8 n j) (y:=0) (tl:=List.replicate (S.RR n - (j+1)) 0) ?_ ?_ (by rw[Ji];omega) ?_
  ·rw[G.new_h,au _ _ _ (by omega),R]
  ·simp only[ak,G.new_h,aP,ci];rfl
  rw[<-NQ];have M:((k.new (W8 1 [[XL (S.wt n j)]])).put (B+1) (W8 1 ((S.R8 n (j+1)).map ci++(List.replicate (S.RR n - (j+1)) 0).map ci))).h.get (B+2)=W8 1 [[.hsl (B+1) 0 0 (S.R8 n j).length none]]:=by rw[G.put_h,au _ _ _ (by omega),G.new_h,au _ _ _ (by omega),L]
  have d1:Up B k ((k.new (W8 1 [[XL (S.wt n j)]])).put (B+1) (W8 1 ((S.R8 n (j+1)).map ci++(List.replicate (S.RR n - (j+1)) 0).map ci))):=(Up.new (by omega) _).trans (Up.put (by omega) _);have d2:∀i,B+3<=i->i<k.nx->((k.new (W8 1 [[XL (S.wt n j)]])).put (B+1) (W8 1 ((S.R8 n (j+1)).map ci++(List.replicate (S.RR n - (j+1)) 0).map ci))).h.get i=k.h.get i:=λi h1 h2=>by rw[G.put_h,au _ _ _ (by omega),G.new_h,au _ _ _ (by omega)]
  have d3:((k.new (W8 1 [[XL (S.wt n j)]])).put (B+1) (W8 1 ((S.R8 n (j+1)).map ci++(List.replicate (S.RR n - (j+1)) 0).map ci))).nx=k.nx+1:=by simp
  have N:((k.new (W8 1 [[XL (S.wt n j)]])).put (B+1) (W8 1 ((S.R8 n (j+1)).map ci++(List.replicate (S.RR n - (j+1)) 0).map ci))).h.get (B+1)=W8 1 ((S.R8 n (j+1)).map ci++(List.replicate (S.RR n - (j+1)) 0).map ci):=by rw[G.put_h,aP]
  have O:((k.new (W8 1 [[XL (S.wt n j)]])).put (B+1) (W8 1 ((S.R8 n (j+1)).map ci++(List.replicate (S.RR n - (j+1)) 0).map ci))).h.get B=k.h.get B:=by rw[G.put_h,au _ _ _ (by omega),G.new_h,au _ _ _ (by omega)]
  generalize (k.new (W8 1 [[XL (S.wt n j)]])).put (B+1) (W8 1 ((S.R8 n (j+1)).map ci++(List.replicate (S.RR n - (j+1)) 0).map ci))=g6 at M d1 d2 d3 N O ⊢;simp only[sz,simprocAttr,A,M];have V:p.nx<=k.nx:=F5.1;refine⟨by simp[d3];omega,λi h1 h2=>?_,.inl ⟨rfl,?_,?_,λi hi=>?_,?_⟩⟩
  ·rw[n2]at h1;rw[G.put_h,au _ _ _ (by omega),d2 i h1 (by omega),F5.2 i h2]
  ·rw[TN (by omega),O,F5.2 B (by omega),b1]
  ·rw[TN (by omega),N]
  ·rw[TN (by omega),d1.1 i hi,F5.2 i (by omega),f4 i (by omega),a4 i hi]
  ·exact ((s.trans (u4.mono (by omega))).trans (U5.mono (by omega))).trans (d1.trans (Up.put (by omega) _))
 ·rintro g' ⟨a1,a2,o,a4,s⟩ Y E;rw[m,UD]at a2;rw[m,Ji]at o;simp only[sz,simprocAttr,m7,h4,o];refine eM E ?_;simp only[sx,↓reduceIte];rw[q];have e1:∀i,i<B+3->(g'.put g2.nx (.dfr false)).h.get i=g'.h.get i:=λi hi=>by rw[G.put_h,au _ _ _ (by omega)]
  refine kk _ ?_ (by simp;omega) ⟨by simp;omega,λi hi=>?_⟩ (by rw[<-q];exact s.trans (Up.put (by omega) _))
  ·rw[<-q,e1 _ (by omega),a2];simp
  ·rw[e1 i (by omega),a4 i (by omega)]
theorem AC{n:Net}(h:S.Sc n e=true):e.length=n.nodes.length/\∀x∈e,-1<=x:=by simp only[S.Sc,TM,T9,Ue]at h;refine⟨h.1,λx hx=>?_⟩;obtain⟨i,hi,he⟩:=Vk.1 hx;have:=(h.2 i (T8.2 hi)).1;rw[TH hi,he]at this;exact this
def S.pe(n:Net)(e:List Int)(w:Nat):Bool:=S.S4 (S.RT (S.RN n) (w:Int)) e
theorem FD(n:Net)(e:List Int):S.R6 n e=S.RW n (S.pe n e) (S.RR n):=rfl
theorem qV{n:Net}(h:NR n){p:Nat->Bool}{j:Nat}(hj:j<=1024):0<=S.RW n p j/\S.RW n p j<=171992678400000000:=by have:=vQ h p j;omega
theorem LF(g:G)(o o':AObj):Fr g ((g.new o).put g.nx o'):=⟨by simp,λi hi=>by simp[RQ,show ¬i=g.nx by omega]⟩
theorem OF{n:Net}{y:QnM}(hd:0<d)(hr:NR n)(hm:Agg y NoP 0 g.h v)(hq:QnOk n y)(he:SlR NoP kk g.h e w)(hev:S.Sc n e=true)(hk:kk<=d:=by omega) :
  ah C0 d 82 [v,w] g=.val (XL (S.R6 n e)):=by
 have e0:=mo d hm;have ew:=jC d he;obtain⟨cs,rfl,c⟩:=hm;obtain⟨b,fl,S_,rfl,-,-,-⟩:=yG.1 c;obtain⟨el,ege⟩:=AC hev;obtain⟨W1,W2,W3⟩:=hr.wl;rw[n_];refine ff qt (xs:=[.agg [XL y.1.grain,b,fl,S_],w]) (by simp only[aF,e0,ew]) (by simp[eT]) hd ?_;simp only[sz,simprocAttr,eT];unfold ip;refine iX (P:=λt' df g'=>df=[]/\g'.nx=2/\g'.h.get 0=W8 4 [[XL y.1.grain,b,fl,S_]]/\g'.h.get 1=W8 1 [[XL 0]]/\St t' [(1,w),(2,XM 0),(5,XM 1)]) ?_ ?_
 ·simp only[sz,simprocAttr];simp[St,sx]
 rintro t df g0 ⟨rfl,f2,f0,f1,h1,h2,h5,-⟩;obtain⟨cs,z,t1,t2,ez,f,hz⟩:=yz (d:=d+1) (g:=g0) (y:=y) (e:=e) (v:=.agg [XL y.1.grain,b,fl,S_]) (w:=w) (TW d) ⟨_,rfl,Rp.tree c (TG _)⟩ (he.tree (TG _));rw[b_,b_];simp only[sz,simprocAttr,h1,h2,f0,ez];refine C5 (t1:=t1) (t2:=t2) (n:=n) (y:=y) (e:=e) (cs:=cs) (w:=z) (TW d) hr hq f hz (by omega) (by simp[sx]) (by decide)
  (λj h=>h.get 1=W8 1 [[XL (S.RW n (S.pe n e) j)]]) (λ_=>False) (λj h h' hh h1=>by rw[hh 1 (by omega),h1]) (λ_ _ _ h=>h) f1 ?_ ?_ ?_ (λ_ h=>h.elim)
 ·intro j h m k h1;have hp:S.pe n e j=false:=by rw[S.pe,<-Iv ege];exact k
  rw[h1,S.RW,hp];simp
 ·intro j u g1 m k h1 o hu;have hp:S.pe n e j=true:=by rw[S.pe,<-Iv ege];exact k
  have hb:=qV hr (p:=S.pe n e) (j:=j+1) (by omega);have hs:S.RW n (S.pe n e) (j+1)=S.RW n (S.pe n e) j+S.Sw n (S.RT (S.RN n) (j:Int)):=by rw[S.RW,hp];simp
  have w1:IntKind.wrap .i64 (S.RW n (S.pe n e) j+S.Sw n (S.RT (S.RN n) (j:Int)))=S.RW n (S.pe n e) (j+1):=by rw[<-hs,ap (by omega) (by omega)]
  simp only[sz,simprocAttr,gJ];refine⟨LF _ _ _,?_⟩;intro g2 n2 a;have r:g2.h.get g1.nx=W8 3 [[XL (j:Int),XL (S.Sw n (S.RT (S.RN n) (j:Int))),u]]:=by rw[a _ (by omega),TO rfl]
  have q:g2.h.get 1=W8 1 [[XL (S.RW n (S.pe n e) j)]]:=by rw[a 1 (by omega),TN (by omega),TN (by omega),h1]
  simp only[sz,simprocAttr,gK,h5,q,r,w1];exact⟨by simp,λi h1 h2=>by simp[RQ,show ¬i=1 by omega],.inl ⟨rfl,by simp[RQ]⟩⟩
 ·intro g' h1 o l;simp only[sz,simprocAttr,gL,h5,h1];refine eM l ?_;simp only[sx,↓reduceIte];rw[FD]
section
variable {h:H}
theorem M8{l:List Int}(hl:SlR NoP k .nil l v):Rp.rp (λ_=>True) k h l [v]:=by obtain⟨w,hw,q⟩:=Rp.tree (P:=λ_=>True) (k':=k) (h':=h) (show Rp.rp NoP k .nil l [v] from ⟨v,rfl,hl⟩) (TG _);exact⟨w,hw,q⟩
theorem Rk{a:List Int}{va:AV}{q:Nat}(ha:SlR NoP k .nil a va)(hq:h.get q=W8 1 [[va]]):SlR (λ_=>True) k h [a] (.hsl q 0 0 1 none):=by refine⟨by show 1<_;decide,trivial,[[va]],?_,M8 ha,trivial⟩;show ak h 1 _=_;simp only[ak,hq];rfl
theorem zI{n:Net}{ls:List (List Int)}(hv:NS n ls P k h v) :
  ∃y cs,v=.tup [.agg cs,XL (S.SH n ls)]/\(S.SH n ls=0->QnOk n y)/\Rp.rp P k h y cs/\∃a1 a2 a3 a4,cs=[a1,a2,a3,a4]:=by
 obtain⟨y,b,a,c,rfl,⟨cs,rfl,hc⟩,hi⟩:=hv;have hi:=ax.1 hi;injection hi with hi;subst hi;obtain⟨a2,a3,a4,rfl,-⟩:=yG.1 hc;exact⟨y,_,rfl,b,hc,_,_,_,_,rfl⟩
theorem yB(n:Net)(e:List Int):S.SH n [e]=S.RZ n e:=by rw[S.SH,S.RZ];simp
theorem iO{n:Net}:S.RZ n e=0↔S.Sl n=true/\S.Sc n e=true:=by rw[S.RZ];cases S.Sl n<;>cases S.Sc n e<;>simp
def S.S2(n:Net)(e:List Int):Int:=if S.RZ n e=0 then S.R6 n e else 0
theorem Mi{k0:Nat}{w0:AV}{n:Net}(hd:0<d)(hm:Agg n NoP 0 g.h v)(he:SlR P k0 g.h e w0)(hk:k0<=d:=by omega) :
  ah C0 d 38 [v,w0] g=.val (.tup [XL (S.S2 n e),XL (S.RZ n e)]):=by
 have key:∃r,ah C0 d 38 [v,w0] g=.val r/\pj (One (S.S2 n e)) (One (S.RZ n e)) NoP 0 .nil r:=by
  obtain⟨b,rows,rfl,e1,f,hN,o,p,q,s⟩:=fP d hm;obtain⟨w,ew,hw⟩:=bm he d;rw[Nat.max_eq_right hk]at hw;have hw:=hw .nil;rw[yP];refine aL BX (xs:=[.agg [XL n.grain,b],w]) (by simp only[aF,e1,ew]) (by simp[qy]) (bO (m:=1) (aJ _) (aJ _) (by decide) (by decide)) (by decide) hd ?_;simp only[sz,simprocAttr,qy,sS,hw.cell.1,hw.cell.2];refine bi (KV (n:=n) (ls:=[e]) (TW d) (f _) (Rk hw (by simp[sx]))) λz hz=>?_;obtain⟨y,cs,rfl,j,hc,a1,a2,l,a4,rfl⟩:=zI hz;rw[yB]at j ⊢
  by_cases h0:S.RZ n e=0
  ·have i:=j h0;obtain⟨h1,h2⟩:=iO.1 h0;have hr:=cA.1 h1;have k:S.S2 n e=S.R6 n e:=by rw[S.S2,TO h0]
   simp only[sz,simprocAttr,h0];rw[OF (y:=y) (n:=n) (e:=e) (TW d) hr ⟨_,rfl,Rp.tree hc (TG _)⟩ i (hw.tree (TG _)) h2];simp only[sz,simprocAttr];rw[k];exact⟨λ_=>True,_,_,rfl,ax.2 rfl,ax.2 rfl⟩
  ·have k:S.S2 n e=0:=by rw[S.S2,TN h0]
   simp only[sz,simprocAttr,h0];rw[k];exact⟨λ_=>True,_,_,rfl,ax.2 rfl,ax.2 rfl⟩
 obtain⟨r,hr,a,c,rfl,ha,hc⟩:=key;have ha:=ax.1 ha;have hc:=ax.1 hc;injection ha with ha;injection hc with hc;rw[hr,ha,hc]
end
theorem Qw{A:PT}(p:T->G->Prop)(hp:p t g)(h:∀t1 g1,p t1 g1->A t1 df g1):A t df g:=h t g hp
structure GvJ (g0:G) (q:Nat) (s:Int) (h:H):Prop where
 fr:∀i,i<g0.nx->i≠q->h.get i=g0.h.get i
 hq:h.get q=W8 1 [[XL s]]
structure ND where
 c:Nat->Int
 P:Nat->List Int
 m:Nat->Nat
 R:Nat->Nat->List Int
 o:Nat->Nat
def LN(n:Nat)(D:ND):Ky->Prop:=λk=>k=(0,0)\/∃i q,k=(i+1,q)/\i<n/\q<2+D.o i
theorem LN.z{D:ND}:LN n D (0,0):=.inl rfl
theorem LN.s{D:ND}{q:Nat}(h:i<n)(hq:q<2+D.o i):LN n D (i+1,q):=.inr ⟨i,q,rfl,h,hq⟩
theorem LN.p{D:ND}(h:i<n):LN n D (i+1,0):=LN.s h (by omega)
theorem LN.r{n:Nat}{D:ND}{i:Nat}(h:i<n):LN n D (i+1,1):=LN.s h (by omega)
def gz(D:ND)(V:Ky->AV)(i:Nat):List AV:=[XL (D.c i),V (i+1,0),V (i+1,1)]
def Hs(V:Ky->AV)(i r:Nat):List AV:=[V (i+1,2+r)]
structure BN (K n:Nat) (V:Ky->AV) (E:Ky->En) (D:ND):Prop where
 ns:E (0,0)=.sl 3 ((List.range n).map (gz D V))
 ps:∀i,i<n->E (i+1,0)=.sl 1 ((D.P i).map ci)/\(D.P i).length<=K
 rs:∀i,i<n->E (i+1,1)=.sl 1 ((List.range (D.m i)).map (Hs V i))/\D.m i<=K
 rr:∀i r,i<n->r<D.m i->(D.R i r).length<=K/\((r<D.o i/\E (i+1,2+r)=.sl 1 ((D.R i r).map ci))\/SlR NoP 0 .nil (D.R i r) (V (i+1,2+r)))
def ND.node(D:ND)(i:Nat):Node:=⟨D.c i,D.P i,(List.range (D.m i)).map (D.R i)⟩
theorem I6{l:List Int}(h:Own g b v 1 (l.map ci))(hl:l.length<9223372036854775808)(hp:∀i,b<=i->P i):SlR P 0 g.h l v :=
 Own.sl (α:=Int) h hl (RN (λa=>ax.2 rfl) _) λi hi=>hp i (h.lt hi).1
theorem BN.rows{K:Nat}{D:ND}{L:Ky->Prop}(hB:BN K n V E D)(hH:Hp g b L V E)(hL:∀k,LN n D k->L k)(hK:K<=1000000)(hi:i<n):SlR (λj=>b<=j) 0 g.h ((List.range (D.m i)).map (D.R i)) (V (i+1,1)):=by
 obtain⟨h1,h2⟩:=hB.rs i hi;have ho:=hH.own (hL _ (LN.r hi)) h1;refine Own.sl (α:=List Int) ho (by simp;omega) (xq λr hr=>?_) λj hj=>(ho.lt hj).1;have hr:=T8.1 hr;obtain⟨h4,h3⟩:=hB.rr i r hi hr;rcases h3 with⟨h5,h3⟩|h3
 ·exact eC.2 ⟨_,rfl,I6 (hH.own (hL _ (LN.s hi (by omega))) h3) (by omega) λ_ h=>h⟩
 ·exact eC.2 ⟨_,rfl,(h3.tree (h':=g.h) (TG 0)).wd λ_ h=>h.elim⟩
theorem Hp.off{κ:Type} [DecidableEq κ]{L:κ->Prop}{V:κ->AV}{E:κ->En}{k:κ}{x:AV}(h:Hp g b L V E)(hk:¬L k):Hp g b L (ups V k x) E:=by have ne:∀j,L j->j≠k:=λj hj e=>hk (by rw[<-e];exact hj);exact⟨λj hj=>by rw[aq V x (ne j hj)];exact h.ok j hj,λj l hj hl hne id=>by rw[aq V x (ne j hj),aq V x (ne l hl)];exact h.sep j l hj hl hne id,h.nx⟩
theorem BN.pars{K:Nat}{D:ND}{L:Ky->Prop}(hB:BN K n V E D)(hH:Hp g b L V E)(hL:∀k,LN n D k->L k)(hK:K<=1000000)(hi:i<n):SlR (λj=>b<=j) 0 g.h (D.P i) (V (i+1,0)):=by obtain⟨h1,h2⟩:=hB.ps i hi;exact I6 (hH.own (hL _ (LN.p hi)) h1) (by omega) λ_ h=>h
theorem BN.nodes{K:Nat}{D:ND}{L:Ky->Prop}(hB:BN K n V E D)(hH:Hp g b L V E)(hL:∀k,LN n D k->L k)(hK:K<=1000000)(hn:n<=1000000):SlR (λj=>b<=j) 0 g.h ((List.range n).map D.node) (V (0,0)):=by have ho:=hH.own (hL _ LN.z) hB.ns;refine Own.sl (α:=Node) ho (by simp;omega) (xq λi hi=>?_) λj hj=>(ho.lt hj).1;have hi:=T8.1 hi;exact cI.2 ⟨_,_,rfl,hB.pars hH hL hK hi,hB.rows hH hL hK hi⟩
theorem oY{α:Type}(f:Nat->α)(x:α)(hi:i<n):((List.range n).map f).set i x=(List.range n).map (ups f i x):=by
 refine WM (by simp) λj h1 h2=>?_;rw[List.getElem_set]
 by_cases e:i=j
 ·subst e;simp[aM]
 ·rw[TN e];simp[aq _ _ (VG e)]
theorem gP{α:Type}(f:Nat->α)(hi:i<n):((List.range n).map f)[i]?=some (f i):=by simp[hi]
theorem A6{D D':ND}{V':Ky->AV}{row:List AV}(h0:row=gz D' V' i)(h:∀j,j<n->j≠i->gz D V j=gz D' V' j):(List.range n).map (ups (gz D V) i row)=(List.range n).map (gz D' V'):=by
 refine U8 λj k=>?_;have k:=T8.1 k
 by_cases e:j=i
 ·subst e;rw[aM,h0]
 ·rw[aq _ _ e,h j k e]
section
variable {X:List Int}{C:Nat}
def NT(gr c:Int)(l:List Int):Prop:=(l.length:Int)=c/\(∀y∈l,0<=y/\y<=gr)/\l.sum=gr
def RI(gr:Int)(C:Nat):VS:=λP k h v=>∃l:List Int,(l.length=C/\NT gr C l)/\One l P k h v
def S.rq(gr s x:Int):Int:=gr*x / s
theorem IV(gr s:Int):S.rq gr s 0=0:=by simp[S.rq]
theorem Hr{gr s:Int}(hs:0<=s)(hg:0<=gr):∀l:List Int,(∀x∈l,0<=x/\x<=s)->0<=(l.map (S.rq gr s)).sum/\(l.map (S.rq gr s)).sum*s<=gr*l.sum
 |[],_=>by simp
 | x::l,h=>by
  have ih:=Hr hs hg l λy hy=>h y (UC _ hy);have hx:=h x (UK ..);have h1:0<=S.rq gr s x:=Int.ediv_nonneg (Vp hg hx.1) hs;have h2:S.rq gr s x*s<=gr*x:=by
   by_cases e:s=0
   ·have:x=0:=by omega
    subst this;simp[S.rq,e]
   ·exact Int.ediv_mul_le _ e
  simp only[VT,VJ];refine⟨by omega,?_⟩;rw[Wh,Int.mul_add];omega
theorem zl:∀(l:List Int),(∀x∈l,0<=x)->0<=l.sum/\∀x∈l,x<=l.sum
 |[],_=>by simp
 | a::l,h=>by
  have ih:=zl l λy hy=>h y (UC _ hy);have ha:=h a (UK ..);simp only[VJ];refine⟨by omega,λx hx=>?_⟩;rcases Us.1 hx with rfl|hx
  ·omega
  ·have:=ih.2 x hx;omega
theorem I7:∀(l:List Int) (i:Nat) (x y:Int),l[i]?=some x->(l.set i y).sum=l.sum - x+y
 |[],i,x,y,h=>by simp at h
 | a::l,0,x,y,h=>by simp at h;subst h;simp only[Vm,VJ];omega
 | a::l,i+1,x,y,h=>by rw[WC,VJ,VJ,I7 l i x y (by simpa using h)];omega
theorem O3{s:Int}{la:Nat}(hg:0<=gr)(hX:∀x∈X,0<=x/\x<=s)(hs:s=X.sum)(hla:la<X.length){x:Int}(hx:(X.map (S.rq gr s))[la]?=some x):NT gr X.length ((X.map (S.rq gr s)).set la (x+(gr - (X.map (S.rq gr s)).sum)))/\0<=x+(gr - (X.map (S.rq gr s)).sum)/\x+(gr - (X.map (S.rq gr s)).sum)<=gr:=by
 have b:0<=s:=by rw[hs];exact (zl X λx hx=>(hX x hx).1).1
 have hq:=Hr b hg X hX;have d:(X.map (S.rq gr s)).sum<=gr:=by
  by_cases e:s=0
  ·have h0:∀x∈X,x=0:=λx hx=>by have:=hX x hx;omega
   have:X.map (S.rq gr s)=List.replicate X.length 0:=by rw[List.eq_replicate_iff];refine⟨by simp,λy hy=>?_⟩;obtain⟨z,hz,rfl⟩:=UF.1 hy;rw[h0 z hz,IV]
   rw[this];have:∀n:Nat,(List.replicate n (0:Int)).sum=0:=λn=>by induction n with
    |zero=>rfl
    |succ n ih=>rw[UY,VJ,ih];rfl
   rw[this];exact hg
  ·have h1:=hq.2;rw[<-hs]at h1;exact Int.le_of_mul_le_mul_right h1 (by omega)
 have c:∀y∈X.map (S.rq gr s),0<=y:=λy hy=>by obtain⟨z,hz,rfl⟩:=UF.1 hy;exact Int.ediv_nonneg (Vp hg (hX z hz).1) b
 have f:=c x (TL hx);have k:((X.map (S.rq gr s)).set la (x+(gr - (X.map (S.rq gr s)).sum))).sum=gr:=by rw[I7 _ _ _ _ hx];omega
 have a:∀y∈(X.map (S.rq gr s)).set la (x+(gr - (X.map (S.rq gr s)).sum)),0<=y:=λy hy=>by
  rcases List.mem_or_eq_of_mem_set hy with h|rfl
  ·exact c y h
  ·omega
 have hb:=zl _ a;rw[k]at hb;refine⟨⟨by simp,λy hy=>⟨a y hy,hb.2 y hy⟩,k⟩,by omega,hb.2 _ ?_⟩;exact List.mem_set (by simpa using hla) _
structure Rw1 (gr:Int) (nv u:AV) (C F j:Nat) (t:T) (g:G):Prop where
 st:St t [(0,XL gr),(1,XL (C:Int)),(2,nv),(3,XL (F:Int)),(9,u)]
 hX:∃(X:List Int) (s:Int),tat t 10=XL s/\X.length=C/\Own g 0 u 1 (X.map ci)/\(∀x∈X,0<=x/\x<=7)/\s=(X.take j).sum/\0<=s/\s<=7*j
theorem QP{F:Nat}{nv:AV}{l:List UInt8}(hC:C<=3)(hF:F<=1000)(hl:SlR NoP kk .nil l nv)(h0:Rw1 gr nv u C F 0 t g)(h11:tat t 11=XL 0)
  (fin:∀t g,Rw1 gr nv u C F C t g->Q (.exit 0) t [] g):wpL (wp C0 d none mW) Q t [] g:=by
 obtain⟨nr,E,r2,r3,r4⟩:=hl.all;have E:∀h',ak h' 1 nv=some nr:=E;have U:=hl.1;have ll:=hl.len;simp only[mW,th];refine jE C (by omega) (λj t df g=>df=[]/\Rw1 gr nv u C F j t g) ⟨rfl,h0⟩ h11 (by decide) ?_ ?_ ?_ ?_
 ·rintro j t df g v s (rfl|rfl|rfl) ⟨a1,⟨b1,b2,M,N,O,-⟩,X,s',c1,R⟩<;>exact⟨a1,by simp[St,sx,b1,b2,M,N,O],X,s',by simp[sx,c1],R⟩
 ·rintro j t df g S ⟨rfl,⟨h0,h1,h2,h3,h9,-⟩,X,s,h10,hX⟩ h11;simp only[sz,simprocAttr,h11,h1];exact⟨by simp[St,sx,h0,h1,h2,h3,h9],X,s,by simp[sx,h10],hX⟩
 ·rintro j t df g S ⟨rfl,⟨h0,h1,h2,h3,h9,-⟩,X,s,h10,q,hX,o,A,V,W⟩ h11;refine iX (P:=λt' df g'=>df=[]/\∃(X':List Int) (x':Int),St t' [(0,XL gr),(1,XL (C:Int)),(2,nv),(3,XL (F:Int)),(9,u),(10,XL s),(11,XL (j:Int))]/\X'.length=C/\Own g' 0 u 1 (X'.map ci)/\(∀x∈X',0<=x/\x<=7)/\X'[j]?=some x'/\∀i,i≠j->X'[i]?=X[i]?) ?_ ?_
  ·have p:X[j]?=some X[j]:=TH (by omega);simp only[sz,simprocAttr,h2,ll];refine dz (λhb=>?_) (λhb=>?_)
   ·have hb:0<l.length:=by simpa using hb
    have w1:IntKind.wrap .i64 ((F:Int)+(j:Int))=((F+j:Nat):Int):=by rw[ap (by omega) (by omega)];simp
    have J:=xd (x:=F+j) (y:=l.length) hb;have c:=US (F+j) hb;generalize (F+j) % l.length=a at J c;obtain⟨y,Z,-,-⟩:=ae (l:=l) (j:=a) c;obtain⟨row,L,z2⟩:=r3 a y Z;rw[gT.1 z2]at L;have hlt:a<nr.length:=by omega
    have q2:=lZ .u8 (a:=(y.toNat:Int)) (b:=8) (by omega) (by omega);have B:0<=(y.toNat:Int) % 8:=WT _ (by decide);have D:(y.toNat:Int) % 8<8:=WB _ (by decide);have K:IntKind.wrap .i64 ((y.toNat:Int) % 8)=(y.toNat:Int) % 8:=ap (by omega) (by omega);generalize (y.toNat:Int) % 8=z at q2 B D K;have H:j<(X.map ci).length:=by simp;omega
    have I:(X.map ci)[j]?=some (ci X[j]):=by rw[TK,p];rfl
    have rX:=hX.rows;simp only[sz,simprocAttr,h2,h3,h9,h11,ll,w1,J,E,hlt,L,q2,K,rX,H];refine bC (v:=u) (sz:=1) (n:=1) (i:=j) (off:=0) (x:=XL z) (row':=ci z) hX I rfl rfl rfl λg4 hu4 n4 f4=>?_;rw[<-Vf]at hu4;simp only[sx,sy];refine⟨X.set j z,z,by simp[St,sx,h0,h1,h2,h3,h9,h10,h11],by simp[q],hu4,λx hx=>?_,by rw[VV (by omega)],λi hi=>by rw[Ws (VG hi)]⟩;rcases List.mem_or_eq_of_mem_set hx with h|rfl
    ·exact o x h
    ·omega
   ·simp only[sx,sy];exact⟨X,X[j],by simp[St,sx,h0,h1,h2,h3,h9,h10,h11],q,hX,o,p,λ_ _=>rfl⟩
  clear h0 h1 h2 h3 h9 h10 h11 hX;rintro t df g ⟨rfl,X',x',⟨h0,h1,h2,h3,h9,h10,h11,-⟩,r,m,k,f,w⟩;have H:j<(X'.map ci).length:=by simp;omega
  have I:(X'.map ci)[j]?=some (ci x'):=by rw[TK,f];rfl
  have rX:=m.rows;have Y:=k x' (TL f);have w1:IntKind.wrap .i64 (s+x')=s+x':=ap (by omega) (by omega);simp only[sz,simprocAttr,tf,h10,h9,h11,rX,H,I,ci,w1];have ht:X'.take j=X.take j:=Wd λi=>by
   by_cases e:i<j
   ·rw[T7 e,T7 e,w i (by omega)]
   ·rw[Ut (by simp;omega),Ut (by simp;omega)]
  refine⟨by simp[St,sx,h0,h1,h2,h3,h9],X',s+x',by simp[sx],r,m,k,?_,by omega,by omega⟩;rw[We,f,ht,WV,<-A];simp
 ·rintro t df g ⟨rfl,h⟩;exact fin t g h
structure Rw2 (gr s:Int) (u:AV) (C:Nat) (X:List Int) (j:Nat) (t:T) (g:G):Prop where
 st:St t [(0,XL gr),(1,XL (C:Int)),(9,u),(10,XL s)]
 hX:∃(la:Nat),tat t 12=XL (gr - ((X.take j).map (S.rq gr s)).sum)/\tat t 13=XL (la:Int)/\la<C/\Own g 0 u 1 (((X.take j).map (S.rq gr s)++X.drop j).map ci)
theorem O4{s:Int}{j:Nat}(h:j<X.length):((X.take j).map (S.rq gr s)++X.drop j).set j (S.rq gr s X[j])=(X.take (j+1)).map (S.rq gr s)++X.drop (j+1):=by
 have hl:((X.take j).map (S.rq gr s)).length=j:=by simp;omega
 rw[UU _ _ (by omega),hl,UD,UM h,Vm,Uh h,U_,UJ]
 rfl
theorem QQ{s:Int}(hC:C<=3)(hg:0<=gr/\gr<=60)(hXl:X.length=C)(hXb:∀x∈X,0<=x/\x<=7/\x<=s)(h0:Rw2 gr s u C X 0 t g)(h14:tat t 14=XL 0)
  (fin:∀t g,Rw2 gr s u C X C t g->Q (.exit 2) t [] g):wpL (wp C0 d none mX) Q t [] g:=by
 simp only[mX,tk];refine jE C (by omega) (λj t df g=>df=[]/\Rw2 gr s u C X j t g) ⟨rfl,h0⟩ h14 (by decide) ?_ ?_ ?_ ?_
 ·rintro j t df g v s (rfl|rfl|rfl) ⟨a1,⟨b1,b2,N,O,-⟩,la,c1,K,R⟩<;>exact⟨a1,by simp[St,sx,b1,b2,N,O],la,by simp[sx,c1],by simp[sx,K],R⟩
 ·rintro j t df g H ⟨rfl,⟨h0,h1,h9,h10,-⟩,la,k,c,hX⟩ h14;simp only[sz,simprocAttr,h14,h1];exact⟨by simp[St,sx,h0,h1,h9,h10],la,by simp[sx,k],by simp[sx,c],hX⟩
 ·rintro j t df g H ⟨rfl,⟨h0,h1,h9,h10,-⟩,la,k,c,m,hX⟩ h14;have f:j<X.length:=by omega
  obtain⟨J,b1,b2⟩:=hXb X[j] (Vr f);have E:((X.take j).map (S.rq gr s)++X.drop j).length=C:=by simp;omega
  have r:((X.take j).map (S.rq gr s)++X.drop j)[j]?=some X[j]:=by rw[T0 (by simp;omega)];simp[show min j X.length=j by omega,f]
  have D:j<(((X.take j).map (S.rq gr s)++X.drop j).map ci).length:=by rw[TT,E];exact H
  have p:(((X.take j).map (S.rq gr s)++X.drop j).map ci)[j]?=some (ci X[j]):=by rw[TK,r];rfl
  have rX:=hX.rows;have F:0<=gr*X[j]:=Vp hg.1 J;have L:gr*X[j]<=60*7:=Wy hg.2 b1 J (by decide);have o:=O4 (gr:=gr) (s:=s) f;have B:(X.take (j+1)).map (S.rq gr s)=(X.take j).map (S.rq gr s)++[S.rq gr s X[j]]:=by rw[Uh f,U_];rfl
  have W:=Hr (gr:=gr) (s:=s) (by omega) hg.1 (X.take j) λy hy=>by have:=hXb y (Uc hy);omega
  have A:∀x∈X,0<=S.rq gr s x/\S.rq gr s x<=420:=λx hx=>by obtain⟨c0,c1,K⟩:=hXb x hx;have h1:0<=gr*x:=Vp hg.1 c0;have h2:gr*x<=60*7:=Wy hg.2 c1 c0 (by decide);refine⟨Int.ediv_nonneg h1 (by omega),?_⟩;have:=Int.ediv_le_self (b:=s) h1;unfold S.rq;omega
  have I:∀l:List Int,(∀x∈l,x∈X)->(l.map (S.rq gr s)).sum<=420*l.length:=λl=>by
   induction l with
   |nil=>intro _;simp
   | cons a l ih =>
    intro h;have h1:=A a (h a (UK ..));have h2:=ih λy hy=>h y (UC _ hy);simp only[VT,VJ,Uq]
    push_cast
    omega
  have V:=I (X.take j) λx hx=>Uc hx;have M:(X.take j).length<=3:=by simp;omega
  have U:=A X[j] (Vr f);refine iX (P:=λt' df g'=>df=[]/\∃(la':Nat),St t' [(0,XL gr),(1,XL (C:Int)),(9,u),(10,XL s),(12,XL (gr - ((X.take j).map (S.rq gr s)).sum)),(13,XL (la':Int)),(14,XL (j:Int))]/\la'<C/\Own g' 0 u 1 (((X.take (j+1)).map (S.rq gr s)++X.drop (j+1)).map ci)) ?_ ?_
  ·simp only[sz,simprocAttr,h9,h14,rX,D,p,ci];refine dz (λhb=>?_) (λhb=>?_)
   ·have hb:0<X[j]:=by simpa using hb
    have w1:IntKind.wrap .i64 (gr*X[j])=gr*X[j]:=ap (by omega) (by omega);have Y:ct .quo (XL (gr*X[j])) (XL s)=.val (XL (S.rq gr s X[j])):=po (x:=gr*X[j]) (y:=s) F (by omega) (by omega);simp only[sz,simprocAttr,h0,h9,h10,h14,rX,D,p,ci,w1,Y];refine bC (v:=u) (sz:=1) (n:=1) (i:=j) (off:=0) (x:=XL (S.rq gr s X[j])) (row':=ci (S.rq gr s X[j])) hX p rfl rfl rfl λg4 hu4 n4 f4=>?_;rw[<-Vf,o]at hu4;simp only[sz,simprocAttr,h14];exact⟨j,by simp[St,sx,h0,h1,h9,h10,k,h14],by omega,hu4⟩
   ·have hb:X[j]=0:=by
     have:¬0<X[j]:=by simpa using hb
     omega
    simp only[sx,sy];refine⟨la,by simp[St,sx,h0,h1,h9,h10,k,c,h14],m,?_⟩;rw[<-o,hb,IV,<-hb];have:((X.take j).map (S.rq gr s)++X.drop j).set j X[j]=(X.take j).map (S.rq gr s)++X.drop j:=by
     refine Wd λi=>?_
     by_cases e:j=i
     ·subst e;rw[VV (by omega),r]
     ·rw[Ws e]
    rw[this];exact hX
  clear h0 h1 h9 h10 k c h14 hX rX m D p;rintro t df g ⟨rfl,la',⟨h0,h1,h9,h10,k,c,h14,-⟩,m,q⟩;have z:((X.take (j+1)).map (S.rq gr s)++X.drop (j+1)).length=C:=by simp;omega
  have w:((X.take (j+1)).map (S.rq gr s)++X.drop (j+1))[j]?=some (S.rq gr s X[j]):=by rw[T5 (by simp;omega),B,T0 (by simp;omega)];simp[show min j X.length=j by omega]
  have D:j<(((X.take (j+1)).map (S.rq gr s)++X.drop (j+1)).map ci).length:=by rw[TT,z];exact H
  have p:(((X.take (j+1)).map (S.rq gr s)++X.drop (j+1)).map ci)[j]?=some (ci (S.rq gr s X[j])):=by rw[TK,w];rfl
  have rX:=q.rows;have w1:IntKind.wrap .i64 (gr - ((X.take j).map (S.rq gr s)).sum - S.rq gr s X[j])=gr - ((X.take (j+1)).map (S.rq gr s)).sum:=by rw[B,WV,ap (by omega) (by omega)];simp;omega
  simp only[sz,simprocAttr,tj,k,h9,h14,rX,D,p,ci,w1];exact⟨by simp[St,sx,h0,h1,h9,h10],la',by simp[sx],by simp[sx,c],m,q⟩
 ·rintro t df g ⟨rfl,h⟩;exact fin t g h
theorem QR{F:Nat}{nv:AV}{l:List UInt8}(hd:0<d)(hC:1<=C/\C<=3)(hF:F<=1000)(hg:0<=gr/\gr<=60)(hl:SlR NoP kk .nil l nv) :
  ∃r,ah C0 d 50 [XL gr,XL (C:Int),nv,XL (F:Int)] g=.val r/\RI gr C NoP 0 .nil r:=by
 rw[z_];refine aL DF (xs:=[XL gr,XL (C:Int),nv,XL (F:Int)]) (by simp only[aF,jC d (hl.tree (h':=g.h) (TG _)),bD 0]) (by simp[te]) (md λo=>aJ _) (by decide) hd ?_;simp only[sz,simprocAttr,te];refine mb (b:=0) (n:=C) (by unfold aQ;omega) (by unfold aQ;omega) (Uj _) λu g1 hu n1 f1 vu=>?_;simp only[sz,simprocAttr];refine QP (gr:=gr) (nv:=nv) (u:=u) (C:=C) (F:=F) hC.2 hF hl ⟨by simp[St,sx],List.replicate C 0,0,by simp[sx],by simp,by simpa [ci] using hu,λx hx=>by rw[(Wl.1 hx).2];decide,by simp,by omega,by omega⟩ (by simp[sx]) ?_;rintro t g2 ⟨⟨h0,h1,h2,h3,h9,-⟩,X,s,h10,c,hX,k,a,q,w⟩;rw[TX (by omega)]at a;have f:=zl X λx hx=>(k x hx).1;simp only[sz,simprocAttr,tv,h0];refine QQ (gr:=gr) (s:=s) (u:=u) (C:=C) (X:=X) hC.2 hg c (λx hx=>⟨(k x hx).1,(k x hx).2,by rw[a];exact f.2 x hx⟩) ⟨by simp[St,sx,h0,h1,h9,h10],0,by simp[sx],by simp[sx],by omega,by simpa using hX⟩ (by simp[sx]) ?_;clear h0 h1 h2 h3 h9 h10 hX;rintro t g3 ⟨⟨h0,h1,h9,h10,-⟩,la,e,j,p,hX⟩;rw[TX (by omega)]at e hX;rw[List.drop_eq_nil_of_le (by omega),T3]at hX;obtain⟨x,hx⟩:∃x,(X.map (S.rq gr s))[la]?=some x:=⟨_,TH (by simp;omega)⟩;obtain⟨f1,f2,z⟩:=O3 (gr:=gr) (s:=s) (X:=X) (la:=la) hg.1 (λx hx=>⟨(k x hx).1,by rw[a];exact f.2 x hx⟩) a (by omega) hx;have y:la<((X.map (S.rq gr s)).map ci).length:=by simp;omega
 have m:((X.map (S.rq gr s)).map ci)[la]?=some (ci x):=by rw[TK,hx];rfl
 have rX:=hX.rows;have w1:IntKind.wrap .i64 (x+(gr - (X.map (S.rq gr s)).sum))=x+(gr - (X.map (S.rq gr s)).sum):=ap (by omega) (by omega);simp only[sz,simprocAttr,tu,h9,j,e,rX,y,m,ci,w1];refine bC (v:=u) (sz:=1) (n:=1) (i:=la) (off:=0) (x:=XL (x+(gr - (X.map (S.rq gr s)).sum))) (row':=ci (x+(gr - (X.map (S.rq gr s)).sum))) hX m rfl rfl rfl λg4 hu4 n4 f4=>?_;rw[<-Vf]at hu4;simp only[sz,simprocAttr,h9];exact⟨λ_=>True,_,⟨by simp[c],by rw[<-c];exact f1⟩,hu4.ints (by simp;omega)⟩
end
theorem Be(os:List UInt8):∀k,(S.R_ os k).Perm ((List.range k).map λi:Nat=>(i:Int))
 |0=>.refl _
 | k+1=>by rw[VL,U_,S.R_];refine List.perm_middle.trans ?_;rw[UE];exact ((Be os k).cons _).trans (List.perm_append_comm (l₁:=[(k:Int)]))
structure Num (n:Nat) (pl:List Int) (num:Nat->Nat):Prop where
 len:pl.length=n
 at_:∀k,k<n->pl[k]?=some (num k:Int)
 lt:∀k,k<n->num k<n
 inj:∀i j,i<n->j<n->num i=num j->i=j
 sur:∀u,u<n->∃k,k<n/\num k=u
theorem QF(os:List UInt8)(n:Nat):∃num,Num n (S.R_ os n) num:=by
 have hp:=Be os n;have hl:=qc os n;have f:∀x∈S.R_ os n,∃i:Nat,i<n/\x=(i:Int):=λx hx=>by have:=hp.mem_iff.1 hx;obtain⟨i,hi,rfl⟩:=UF.1 this;exact⟨i,T8.1 hi,rfl⟩
 have l:(S.R_ os n).Nodup:=by rw[hp.nodup_iff];refine List.Pairwise.map _ ?_ (List.nodup_range (n:=n));intro a b h e;exact h (by omega)
 have c:∀k,k<n->(S.R_ os n)[k]?=some (((S.R_ os n)[k]?.getD 0).toNat:Int)/\((S.R_ os n)[k]?.getD 0).toNat<n:=λk hk=>by
  have d:k<(S.R_ os n).length:=by omega
  have e:=TH d;obtain⟨i,hi,h⟩:=f _ (Vr d);rw[e,TS,h];simp[hi]
 refine⟨λk=>((S.R_ os n)[k]?.getD 0).toNat,hl,λk hk=>(c k hk).1,λk hk=>(c k hk).2,λi j hi hj h=>?_,λu hu=>?_⟩
 ·have h1:=(c i hi).1;have h2:=(c j hj).1;refine (List.getElem?_inj (by omega) l).1 ?_;rw[h1,h2];exact congrArg (λx:Nat=>some (x:Int)) h
 ·have:(u:Int)∈S.R_ os n:=hp.mem_iff.2 (UF.2 ⟨u,T8.2 hu,rfl⟩);obtain⟨k,hk,he⟩:=Vk.1 this;refine⟨k,by omega,?_⟩;rw[TH hk,he];rfl
theorem O9(m n:Nat):∃z:Int,ct .shl (XL (m:Int)) (XN (n:Int))=.val (XL z):=⟨_,rfl⟩
def LNX(X:Ky->Prop)(n:Nat)(D:ND):Ky->Prop:=λk=>LN n D k\/X k
def X1:Ky->Prop:=λk=>k=(0,1)
def X2:Ky->Prop:=λk=>k=(0,1)\/k=(0,2)
structure DN (X:Ky->Prop) (r0:List AV) (n q K:Nat) (gr:Int) (V:Ky->AV) (E:Ky->En) (D:ND) (g:G):Prop where
 hp:Hp g 2 (LNX X n D) V E
 bn:BN K n V E D
 vb:V (0,1)=XM q
 bx:E (0,1)=.bx [XL gr,V (0,0)]
 h0:g.h.get 0=W8 3 [r0]
 h1:g.h.get 1=W8 2 [[XL 0,.nils]]
theorem DN.q{X:Ky->Prop}{r0:List AV}{n q K:Nat}{gr:Int}{V:Ky->AV}{E:Ky->En}{D:ND}{g:G}(h:DN X r0 n q K gr V E D g)(hX:X (0,1)):g.h.get q=W8 2 [[XL gr,V (0,0)]]/\2<=q/\q<g.nx:=by obtain⟨id,h1,h2,h3,h4⟩:=h.hp.box (k:=(0,1)) (.inr hX) h.bx;rw[h.vb]at h3;injection h3 with h3;subst h3;exact⟨h4,h1,h2⟩
theorem DN.ns{X:Ky->Prop}{r0:List AV}{n q K:Nat}{gr:Int}{V:Ky->AV}{E:Ky->En}{D:ND}{g:G}(h:DN X r0 n q K gr V E D g):Own g 2 (V (0,0)) 3 ((List.range n).map (gz D V)):=h.hp.own (.inl LN.z) h.bn.ns
theorem DN.same{X:Ky->Prop}{r0:List AV}{q K:Nat}{D:ND}{g':G}(h:DN X r0 n q K gr V E D g)(hf:Fr g g'):DN X r0 n q K gr V E D g':=by have:=h.hp.nx;exact⟨h.hp.step hf.1 λi _ hi=>hf.2 i hi,h.bn,h.vb,h.bx,by rw[hf.2 0 (by omega),h.h0],by rw[hf.2 1 (by omega),h.h1]⟩
theorem wV{sz:Nat}{rows:List (List AV)}(h:Own g b v sz rows)(hr:0<rows.length):vN v=true:=by
 rcases h with⟨rfl,rfl⟩|⟨id,ep,lo,-,-,rfl,-⟩
 ·simp at hr
 ·rfl
theorem DN.card{X:Ky->Prop}{r0:List AV}{q K:Nat}{c:Int}{D:ND}{KK:AV->G->Prop}{DD:ADf->Prop}(h:DN X r0 n q K gr V E D g)(hi:i<n)(hX:∀k,X k->k≠(0,0))
  (kk:∀g' E',DN X r0 n q K gr V E' { D with c:=ups D.c i c } g'->g'.nx=g.nx->KK .undef g'):(nz 1 (jF 3 (V (0,0)) i 0) (XL c) g).sat KK g DD:=by
 refine h.hp.put (k:=(0,0)) (row:=gz D V i) (row':=[XL c,V (i+1,0),V (i+1,1)]) (.inl LN.z) h.bn.ns (gP _ hi) rfl rfl rfl λg' hH hn hf1 hf2=>?_;refine kk g' _ ⟨hH.sub λk hk=>hk,⟨?_,λj hj=>?_,λj hj=>?_,λj r hj hr=>?_⟩,h.vb,?_,by rw[hf1 0 (by omega),h.h0],by rw[hf1 1 (by omega),h.h1]⟩ hn
 ·rw[aM,oY _ _ hi];congr 1;refine A6 (by simp[gz,aM]) λj hj hne=>by simp[gz,aq _ _ hne]
 ·rw[aq _ _ (by simp)];exact h.bn.ps j hj
 ·rw[aq _ _ (by simp)];exact h.bn.rs j hj
 ·rw[aq _ _ (by simp)];exact h.bn.rr j r hj hr
 ·rw[aq _ _ (by simp)];exact h.bx
structure DAok (D:ND) (n i:Nat) (num:Nat->Nat):Prop where
 e:∀v,v<n->D.P v=[]/\D.m v=0
 c:∀k,k<i->D.c (num k)=2\/D.c (num k)=3
 o:∀u,D.o u=0
def LDA(n q:Nat)(r5:AV):List (Nat×AV):=[(1,XM 0),(2,XM 1),(3,XL (n:Int)),(4,XM q),(5,r5)]
structure DA (r0:List AV) (n q:Nat) (gr:Int) (r5:AV) (num:Nat->Nat) (i:Nat) (t:T) (g:G):Prop where
 st:St t (LDA n q r5)
 w:∃w:Nat,tat t 6=XL (w:Int)/\w<=3 ^ i
 hd:∃V E D,DN X1 r0 n q 1000 gr V E D g/\DAok D n i num
theorem RL(h:i<=5):3 ^ i<=243:=by
 have:i=0\/i=1\/i=2\/i=3\/i=4\/i=5:=by omega
 rcases this with rfl|rfl|rfl|rfl|rfl|rfl<;>decide
theorem QB{q:Nat}{x:xn}{a b r5:AV}{pl:List Int}{num:Nat->Nat}(hn:1<=n/\n<=5)(ha:SlR NoP kk .nil x.2.1 a)(h5:IT 0 pl r5)(hN:Num n pl num)
  (h0:DA [u8v x.1,a,b] n q gr r5 num 0 t g) (h7:tat t 7=XL 0)
  (fin:∀t g,DA [u8v x.1,a,b] n q gr r5 num n t g->Q (.exit 0) t [] g):wpL (wp C0 d none fG) Q t [] g:=by
 obtain⟨pr,M,r2,r3,r4⟩:=ha.all;have M:∀h',ak h' 3 a=some pr:=M;have la:=ha.len;have hc:=ha.1;have N:∀h,ak h 1 r5=some (pl.map ci):=λh=>(h5.sl h).ints;simp only[fG,kJ];refine jE n (by omega) (λj t df g=>df=[]/\DA [u8v x.1,a,b] n q gr r5 num j t g) ⟨rfl,h0⟩ h7 (by decide) ?_ ?_ ?_ ?_
 ·rintro j t df g v s (rfl|rfl|rfl) ⟨a1,⟨b1,b2,W,X,Y,-⟩,⟨w,c1,Z⟩,c3⟩<;>exact⟨a1,by simp[St,LDA,sx,b1,b2,W,X,Y],⟨w,by simp[sx,c1],Z⟩,c3⟩
 ·rintro j t df g K ⟨rfl,⟨h1,h2,h3,h4,h5,-⟩,⟨w,h6,hw⟩,F⟩ h7;simp only[sz,simprocAttr,h7,h3];exact⟨by simp[St,LDA,sx,h1,h2,h3,h4,h5],⟨w,by simp[sx,h6],hw⟩,F⟩
 ·rintro j t df g K ⟨rfl,⟨h1,h2,h3,h4,h5,-⟩,⟨w,h6,hw⟩,V,E,D,F,u⟩ h7;obtain⟨p,A⟩:∃p,p=g.nx:=⟨_,rfl⟩;have he:=F.hp.nx;refine iX (P:=λt' df g'=>df=[]/\g'=g.new (W8 3 [[.int .u8 0,.int .u8 0,.nils]])/\St t' ((6,XL (w:Int))::(7,XL (j:Int))::(8,XM p)::LDA n q r5)) ?_ ?_
  ·simp only[sz,simprocAttr];simp[St,LDA,sx,h1,h2,h3,h4,h5,h6,h7,A]
  clear h1 h2 h3 h4 h5 h6 h7;rintro t df g1 ⟨rfl,l,⟨h6,h7,h8,h1,h2,h3,h4,h5,-⟩⟩;have f1:Fr g g1:=by rw[l];exact Fr.new _ _
  have J:g1.h.get p=W8 3 [[.int .u8 0,.int .u8 0,.nils]]:=by rw[l,A];simp[RQ]
  have n1:p<g1.nx:=by rw[l,A];simp
  clear l;have H:=F.same f1;have e0:=H.h0;refine iX (P:=λt' df g'=>df=[]/\Fr g g'/\St t' ((6,XL (w:Int))::(7,XL (j:Int))::(8,XM p)::LDA n q r5)/\p<g'.nx/\∃(y:UInt8) (S U:AV),g'.h.get p=W8 3 [[u8v y,S,U]]) ?_ ?_
  ·simp only[sz,simprocAttr,h7,h1,e0,la];refine dz (λhb=>?_) (λhb=>?_)
   ·have hb:j<x.2.1.length:=by simpa using hb
    obtain⟨y,hy,-,-⟩:=ae hb;obtain⟨row,q1,q2⟩:=r3 j y hy;obtain⟨wv,rfl,hg⟩:=C_.1 q2;have hlt:j<pr.length:=by omega
    have I:=r4 (by omega);simp only[sz,simprocAttr,h7,h1,e0,M,hlt,q1,h8,J];refine⟨?_,by simp[St,LDA,sx,h1,h2,h3,h4,h5,h6,h7,h8],by simpa using n1,y.1,u8v y.2.1,wv,by simp[RQ]⟩;exact⟨T6 f1.1 (by simp),λi hi=>by simp[RQ,show ¬i=p by omega];exact f1.2 i hi⟩
   ·simp only[sx,sy];exact⟨f1,by simp[St,LDA,sx,h1,h2,h3,h4,h5,h6,h7,h8],n1,0,.int .u8 0,.nils,J⟩
  clear h1 h2 h3 h4 h5 h6 h7 h8 e0 H J n1 f1;rintro t df g2 ⟨rfl,f2,⟨h6,h7,h8,h1,h2,h3,h4,h5,-⟩,n2,y,S,U,J⟩;have f:=F.same f2;have q2:=lZ .u8 (a:=(y.toNat:Int)) (b:=2) (by omega) (by omega);obtain⟨m,hm⟩:∃m:Nat,(y.toNat:Int) % 2=(m:Int):=TP (WT _ (by decide));have hd:m<2:=by have:=WB (y.toNat:Int) (show (0:Int)<2 by decide);omega
  rw[hm]at q2;have w2:IntKind.wrap .i64 (m:Int)=(m:Int):=ap (by omega) (by omega);have R:IntKind.wrap .i64 (2+(m:Int))=((2+m:Nat):Int):=by rw[ap (by omega) (by omega)];rfl
  have hf:=RL (i:=j) (by omega);have B:w*(2+m)<=243*3:=W7 (by omega) (by omega);have L:IntKind.wrap .i64 ((w:Int)*((2+m:Nat):Int))=((w*(2+m):Nat):Int):=by rw[<-UW,ap (by omega) (by omega)]
  have w5:IntKind.wrap .i64 ((n:Int) - 1)=((n - 1:Nat):Int):=by rw[ap (by omega) (by omega)];omega
  have w6:IntKind.wrap .i64 (((n - 1:Nat):Int) - (j:Int))=((n - 1 - j:Nat):Int):=by rw[ap (by omega) (by omega)];omega
  have w7:IntKind.wrap .u64 ((n - 1 - j:Nat):Int)=((n - 1 - j:Nat):Int):=ut (by omega) (by omega);obtain⟨z,hz⟩:=O9 (w*(2+m)) (n - 1 - j);refine iX (P:=λt' df g'=>df=[]/\g'=g2/\St t' ((6,XL (w:Int))::(7,XL (j:Int))::(9,XL ((2+m:Nat):Int))::LDA n q r5)) ?_ ?_
  ·simp only[sz,simprocAttr,h8,J,u8v,q2,w2,R];simp[St,LDA,sx,h1,h2,h3,h4,h5,h6,h7]
  clear h1 h2 h3 h4 h5 h6 h7 h8;rintro t df g3 ⟨rfl,rfl,⟨h6,h7,h9,h1,h2,h3,h4,h5,-⟩⟩;refine iX (P:=λt' df g'=>df=[]/\g'=g3/\∃C:Nat,(C=2\/C=3)/\St t' ((6,XL (w:Int))::(7,XL (j:Int))::(9,XL (C:Int))::LDA n q r5)) ?_ ?_
  ·simp only[sz,simprocAttr,h6,h7,h9,h3,L,w5,w6,w7,hz];refine dz (λhb=>?_) (λhb=>?_)
   ·simp only[sz,simprocAttr];refine⟨2,.inl rfl,?_⟩;simp[St,LDA,sx,h1,h2,h3,h4,h5,h6,h7]
   ·simp only[sx,sy];refine⟨2+m,by omega,?_⟩;simp[St,LDA,sx,h1,h2,h3,h4,h5,h6,h7,h9]
  clear h1 h2 h3 h4 h5 h6 h7 h9 B L hz R;rintro t df g4 ⟨rfl,rfl,C,hC,⟨h6,h7,h9,h1,h2,h3,h4,h5,-⟩⟩;have B:w*C<=3 ^ j*3:=W7 hw (by omega);have O:w*C<=243*3:=W7 (by omega) (by omega);have L:IntKind.wrap .i64 ((w:Int)*(C:Int))=((w*C:Nat):Int):=by rw[<-UW,ap (by omega) (by omega)]
  refine iX (P:=λt' df g'=>df=[]/\g'=g4/\St t' ((6,XL ((w*C:Nat):Int))::(7,XL (j:Int))::(9,XL (C:Int))::LDA n q r5)) ?_ ?_
  ·simp only[sz,simprocAttr,h6,h9,L];simp[St,LDA,sx,h1,h2,h3,h4,h5,h7,h9]
  clear h1 h2 h3 h4 h5 h6 h7 h9;rintro t df g5 ⟨rfl,rfl,⟨h6,h7,h9,h1,h2,h3,h4,h5,-⟩⟩;obtain⟨kq,hh,hl⟩:=f.q rfl;have rns:=f.ns.rows;have I:=wV f.ns (by simp;omega);have r:=hN.lt j K;have u1:j<(pl.map ci).length:=by rw[TT,hN.len];exact K
  have u2:(pl.map ci)[j]?=some (ci (num j:Int)):=by rw[TK,hN.at_ j K];rfl
  have u3:num j<((List.range n).map (gz D V)).length:=by simpa using r
  have u4:=gP (gz D V) r;simp only[sz,simprocAttr,sf,h4,kq,h5,h7,h9,N,u1,u2,rns,u3,I,ci];refine (f.same (g':=_) ⟨?_,?_⟩).card (i:=num j) (c:=(C:Int)) r (λk hk=>by rw[hk];simp) λg6 E' hD6 n6=>?_
  ·simp;omega
  ·intro i hi;simp
  simp only[sx,sy,↓reduceIte,Nat.reduceEqDiff];refine⟨?_,⟨by simp[St,LDA,sx,h1,h2,h3,h4,h5],⟨w*C,by simp[sx,h6],by rw[VX];exact B⟩,V,E',_,hD6.same ⟨by simp,λi _=>by simp⟩,u.e,λk hk=>?_,u.o⟩,by simp[h7]⟩
  ·simp only[Uf,Ug,Ud,T4];exact aN (false::(Xn (true::[]))) [] (by simp[All2,am,aE]) (by decide) (by simp)
  ·by_cases e:num k=num j
   ·simp[e,aM];omega
   ·show ups D.c (num j) (C:Int) (num k)=2\/ups D.c (num j) (C:Int) (num k)=3;rw[aq _ _ e];refine u.c k ?_;have:k≠j:=λh=>e (by rw[h]);omega
 ·rintro t df g ⟨rfl,h⟩;exact fin t g h
end
end Hx
