/- A part of the proof: an interpreter over abstract values, shown right against the model, and what the functions of the chapter compute on it. -/
import Derived.Test.YteaikmdilmfbeaaGreatHx13
set_option linter.unusedVariables false
set_option linter.unusedSimpArgs false
set_option linter.unnecessarySimpa false
section
namespace Hx
open Go
noncomputable section
theorem qt {vs:List Int}{m:Nat}(h:m<vs.length):(vs.take (m+1)++List.replicate (vs.length - (m+1)) 0).set m 0=vs.take m++List.replicate (vs.length - m) 0:=by
 rw[List.take_succ_eq_append_getElem h,List.append_assoc,List.set_append_right _ _ (by simp;omega),List.length_take,Nat.min_eq_left (by omega),Nat.sub_self];rw[show vs.length - m=(vs.length - (m+1))+1 by omega,List.replicate_succ]
 rfl
theorem qs {vs:List Int}{m:Nat}(h:m<vs.length)(y:Int):(vs.take (m+1)++List.replicate (vs.length - (m+1)) 0).set m y=vs.take m++y::List.replicate (vs.length - (m+1)) 0:=by
 rw[List.take_succ_eq_append_getElem h,List.append_assoc,List.set_append_right _ _ (by simp;omega),List.length_take,Nat.min_eq_left (by omega),Nat.sub_self]
 rfl
structure OdoJ (n:Net) (vs:List Int) (L:List (Nat×AV)) (u:AV) (g0:G) (m:Nat) (t:T) (g:G):Prop where
 st:tat t 6=.int .i64 ((m:Int) - 1)
 ss:St t L
 ow:Own g g0.nx u 1 ((vs.take m++List.replicate (vs.length - m) 0).map ci)
 mx:∀(j:Nat) (c:Int),m<=j->(S.aa n)[j]?=some c->vs[j]?.getD 0=c - 1
def LM (id:Nat)(gr:Int)(b fl S_ w u:AV)(k t1 t2:Nat):List (Nat×AV):=[(0,.yld id),(1,.tptr t1 4 [[.int .i64 gr,b,fl,S_]] 0 0),(2,.tptr t2 1 [[w]] 0 0),(4,u),(5,.int .i64 (k:Int))]
theorem HZ {d id k m t1 t2 ky:Nat}{n:Net}{b fl S_ w u:AV}{vs:List Int}{Q:QT}{t:T}{g g0:G}(hr:NR n)(hN:SlR NoP ky .nil n.nodes b)(hc:InC (S.aa n) vs)(hm:m<=n.nodes.length)
  (h0:OdoJ n vs (LM id n.grain b fl S_ w u k t1 t2) u g0 m t g)
  (fin:∀m' t g',m'<=n.nodes.length->OdoJ n vs (LM id n.grain b fl S_ w u k t1 t2) u g0 m' t g'->g.nx<=g'.nx->(∀i,vid u≠some i->g'.h.get i=g.h.get i)->(m'=0\/∃x c,vs[m' - 1]?=some x/\(S.aa n)[m' - 1]?=some c/\x≠c - 1/\0<m')->Q (.exit 2) t [] g') :
  wpL (wp C0 d none bC) Q t [] g:=by
 obtain ⟨rows,r1,r2,r3,r4⟩:=hN.all;have r1:∀h',ah h' 3 b=some rows:=r1;have hvl:=hc.len;rw[aA] at hvl;have hl8:=hr.l2;refine fO (λm t df g'=>df=[]/\m<=n.nodes.length/\OdoJ n vs (LM id n.grain b fl S_ w u k t1 t2) u g0 m t g'/\g.nx<=g'.nx/\∀i,vid u≠some i->g'.h.get i=g.h.get i) m ⟨rfl,hm,h0,Nat.le_refl _,λ_ _=>rfl⟩ ?_;rintro m t df g1 ⟨rfl,hm,⟨h6,⟨h0,h1,h2,h4,h5,-⟩,how,hmx⟩,hnx,hfr⟩;simp only[bC];cases m with
 | zero =>
  have c1:¬((0:Int)<=((0:Nat):Int) - 1):=by omega
  simp only[sz,simprocAttr,h6,c1];refine fin 0 _ _ (Nat.zero_le _) ⟨?_,?_,?_,hmx⟩ ?_ ?_ (.inl rfl)
  ·simp[sx,h6]
  ·simp[St,LM,sx,h0,h1,h2,h4,h5]
  ·exact how
  ·exact hnx
  ·exact hfr
 | succ m =>
  have c1:(0:Int)<=((m+1:Nat):Int) - 1:=by omega
  have e1:((m+1:Nat):Int) - 1=(m:Int):=by omega
  rw[e1] at c1 h6;obtain ⟨x,hx,-,-⟩:=ae (l:=n.nodes) (j:=m) (by omega);obtain ⟨row,q1,q2⟩:=r3 m x hx;obtain ⟨pa,ra,rfl,-,-⟩:=cp.1 q2;have hlt:m<rows.length:=by omega
  have hry:=r4 (by omega);have hci:(S.aa n)[m]?=some x.card:=by simp[S.aa,hx]
  obtain ⟨v,hv,hv0,hv1⟩:=hc.get hci;have hcx:=hr.card x (List.mem_of_getElem? hx);have u1:m<((vs.take (m+1)++List.replicate (vs.length - (m+1)) 0).map ci).length:=by simp;omega
  have u2:((vs.take (m+1)++List.replicate (vs.length - (m+1)) 0).map ci)[m]?=some (ci v):=by rw[List.getElem?_map,List.getElem?_append_left (by simp;omega),List.getElem?_take_of_lt (by omega),hv];rfl
  have ru:=how.rows;have w1:IntKind.wrap .i64 (x.card - 1)=x.card - 1:=aq (by omega) (by omega)
  by_cases c2:v=x.card - 1
  ·simp only[sz,simprocAttr,h6,h1,h4,c1,ru,u1,u2,r1,hlt,q1,hry,cC,ba,ci,w1,c2];refine bF (v:=u) (sz:=1) (n:=1) (i:=m) (off:=0) (x:=.int .i64 0) (row':=ci 0) how u2 rfl rfl rfl λg4 hu4 n4 f4=>?_;rw[<-List.map_set,qt (by omega)] at hu4;have w2:IntKind.wrap .i64 ((m:Int) - 1)=(m:Int) - 1:=aq (by omega) (by omega);simp only[sz,simprocAttr,h6,w2];refine ⟨m,by omega,by omega,⟨by simp[sx],by simp[St,LM,sx,h0,h1,h2,h4,h5],hu4,λj c hj hc'=>?_⟩,by omega,λi hi=>by rw[f4 i hi,hfr i hi]⟩
   by_cases e:j=m
   ·subst e;rw[hci] at hc';injection hc' with hc';rw[hv,Option.getD_some];omega
   ·exact hmx j c (by omega) hc'
  ·simp only[sz,simprocAttr,h6,h1,h4,c1,ru,u1,u2,r1,hlt,q1,hry,cC,ba,ci,w1,c2];refine fin (m+1) _ _ hm ⟨?_,?_,?_,hmx⟩ ?_ ?_ (.inr ⟨v,x.card,hv,hci,c2,by omega⟩)
   ·simp[sx,h6]
   ·simp[St,LM,sx,h0,h1,h2,h4,h5]
   ·exact how
   ·exact hnx
   ·exact hfr
theorem NG {a b u:AV}(ha:a.cells=[a]/\a.isTup=false)(hb:b.cells=[b]/\b.isTup=false)(hu:u.cells=[u]/\u.isTup=false):dV [.int .i64 0,.int .i64 0,.nils] [((0,1),a),((1,1),b),((2,1),u)]=some [a,b,u]:=by
 simp[dV,ha,hb,hu,fM]
 rfl
theorem H0 {d id t1 t2 ky ke:Nat}{n:Net}{y:QnM}{e:List Int}{b fl S_ w:AV}{g0:G}{K:AV->G->Prop}(hd:0<d)(hr:NR n)(hq:QnOk n y)(hcs:Rp.rp NoP ky .nil y [.int .i64 n.grain,b,fl,S_])(hw:SlR NoP ke .nil e w)(hel:e.length<=n.nodes.length)
  (J:Nat->H->Prop) (E:G->Prop) (hJ:∀j h h',(∀i,i<g0.nx->h'.get i=h.get i)->J j h->J j h')
  (skip:∀(j:Nat) (h:H),j<S.am n->S.jm (S.an (S.aa n) j) e=false->J j h->J (j+1) h)
  (step:∀(j:Nat) (u:AV) (g:G) (K':AV->G->Prop) (D:ADf->Prop),j<S.am n->S.jm (S.an (S.aa n) j) e=true->g0.nx<=g.nx->J j g.h->SlR (λi=>g0.nx<=i/\i<g.nx) 0 g.h (S.an (S.aa n) j) u ->
   (∀g',J (j+1) g'.h->g.nx<=g'.nx->(∀i,g0.nx<=i->i<g.nx->g'.h.get i=g.h.get i)->K' (.bool true) g')->(∀g',E g'->K' (.bool false) g')->(cg (I C0) d id [.agg [.int .i64 (j:Int),.int .i64 (S.aX n (S.an (S.aa n) j)),u]] g).sat K' g D)
  (h0:J 0 g0.h) (fin:∀g',J (S.am n) g'.h->g0.nx<=g'.nx->K (.tup []) g') (finE:∀g',E g'->K (.tup []) g') :
  wp C0 d none aJ.code (fnQ C0 d aJ.res K) (bO 0 [.yld id,.tptr t1 4 [[.int .i64 n.grain,b,fl,S_]] 0 0,.tptr t2 1 [[w]] 0 0] .nil) [] g0:=by
 obtain ⟨b',fl',S',e1,hN,hfl,hS⟩:=tE.1 hcs;injection e1 with e1 e2;injection e2 with e2 e3;injection e3 with e3 e4;injection e4 with e4 e5;subst e2;subst e3;subst e4;have hN:SlR NoP ky .nil n.nodes b:=by rw[<-hq.net];exact hN
 have hl8:=hr.l2;have hl1:=hr.l1;obtain ⟨W1,W2,W3⟩:=hr.wl;have hcs1:=λc hc=>(hr.cs c hc).1;have nl:=hN.len;have hcl:=aA n;obtain ⟨Qf,hQf⟩:∃Qf,Qf=fnQ C0 d aJ.res K:=⟨_,rfl⟩;rw[<-hQf];simp only[sz,simprocAttr,aJ,cC,ba,nl];refine lD (b:=g0.nx) (n:=n.nodes.length) (by unfold aP;omega) (by unfold aP;omega) (Nat.le_refl _) λu g1 hu n1 fr1 v1=>?_;simp only[sz,simprocAttr];have hul:∀(g:G) (l:List Int),l.length=n.nodes.length->Own g g0.nx u 1 (l.map ci)->∀g2:G,dv .slice u g2=.val (.int .i64 (n.nodes.length:Int)):=λg l hl ho g2=>by rw[fW ho.rows];simp[hl]
 obtain ⟨INV,hINV⟩:∃INV:Nat->PT,INV=(λm t df g=>df=[]/\∃(j:Nat) (vs:List Int),m=S.am n - j/\j<S.am n/\InC (S.aa n) vs/\S.ah (S.aa n) vs=(j:Int)/\St t (LM id n.grain b fl S_ w u j t1 t2)/\Own g g0.nx u 1 (vs.map ci)/\J j g.h/\g0.nx<=g.nx):=⟨_,rfl⟩;refine fO INV (S.am n) ?_ ?_
 ·rw[hINV];exact ⟨rfl,0,List.replicate n.nodes.length 0,rfl,by omega,by rw[<-hcl];exact zJ hcs1,by rw[pA];rfl,by simp[St,LM,sx],by simpa [ci] using hu,hJ 0 _ _ (λi hi=>fr1 i hi) h0,by omega⟩
 intro m t df g hI;have hI2:=hI;rw[hINV] at hI2;obtain ⟨rfl,j,vs,rfl,hj,hin,hidx,⟨h0,h1,h2,h4,h5,-⟩,ho,hJj,hnx⟩:=hI2;clear hI;have hvl:=hin.len;rw[aA] at hvl;have hval:S.an (S.aa n) (j:Int)=vs:=by rw[<-hidx];exact qy hcs1 hin
 have hvu:vid u=some g0.nx:=v1;have hsl:SlR (λi=>g0.nx<=i/\i<g.nx) 0 g.h vs u:=Own.sl (α:=Int) ho (by omega) (All2.of_map (λa=>aF.2 rfl) _) λi hi=>ho.lt hi;have hmt:=EZ (d:=d) (g:=g) (v:=u) (w:=w) (vals:=vs) (e:=e) hd hsl (hw.tree (h':=g.h) (Nat.le_refl _)) (by omega);have hlu:=hul g vs hvl ho;have w1:IntKind.wrap .i64 ((n.nodes.length:Int) - 1)=(n.nodes.length:Int) - 1:=aq (by omega) (by omega);obtain ⟨R,hR⟩:∃R,R=sQ [oM 28 4,oN 29 28,o 30 (.bin .sub (.t 29) (qI 1)),oM 6 30] (.seq (.blk 2 (.loop bC)) bD):=⟨_,rfl⟩;simp only[dE];rw[<-hR,cj,FI];obtain ⟨Q1,hQ1⟩:∃Q1,Q1=kB 1 (kS (wp C0 d none bT (kL INV (S.am n - j) (kB 0 Qf))) (kL INV (S.am n - j) (kB 0 Qf))):=⟨_,rfl⟩;rw[<-hQ1];have rest:∀(t:T) (g:G),St t (LM id n.grain b fl S_ w u j t1 t2)->Own g g0.nx u 1 (vs.map ci)->J (j+1) g.h->g0.nx<=g.nx->wp C0 d none R Q1 t [] g:=by
  rintro t g ⟨h0,h1,h2,h4,h5,-⟩ ho hJj hnx;rw[hR,hQ1];simp only[sz,simprocAttr,h4,hlu,w1];refine HZ (t1:=t1) (t2:=t2) (id:=id) (k:=j) (m:=n.nodes.length) (n:=n) (b:=b) (fl:=fl) (S_:=S_) (w:=w) (u:=u) (vs:=vs) (g0:=g0) hr hN hin (Nat.le_refl _) ⟨by simp[sx],by simp[St,LM,sx,h0,h1,h2,h4,h5],?_,λi c hi hc=>?_⟩ ?_
  ·rw[List.take_of_length_le (by omega),show vs.length - n.nodes.length=0 by omega];simpa using ho
  ·have:=(List.getElem?_eq_some_iff.1 hc).1;omega
  rintro m' t2 g2 hm' ⟨h6,⟨h0,h1,h2,h4,h5,-⟩,ho2,hmx⟩ hn2 hf2 hcase;have hJ2:J (j+1) g2.h:=hJ _ _ _ (λi hi=>hf2 i λe=>by rw[hvu] at e;injection e with e;omega) hJj;rcases hcase with rfl | ⟨x,c,hx,hc,hxc,hm0⟩
  ·have hlast:j+1=S.am n:=by have:=uK (cs:=S.aa n) (vs:=vs) hin.len.symm λi c hc=>hmx i c (Nat.zero_le _) hc;omega
   have c1:(((0:Nat):Int) - 1<0):=by omega
   rw[hQf];simp only[sz,simprocAttr,bD,aJ,h6,c1];rw[hlast] at hJ2;exact fin g2 hJ2 (by omega)
  ·obtain ⟨i,rfl⟩:∃i,m'=i+1:=⟨m' - 1,by omega⟩;rw[Nat.add_sub_cancel] at hx hc;have hil:=(List.getElem?_eq_some_iff.1 hx).1;have e1:((i+1:Nat):Int) - 1=(i:Int):=by omega
   rw[e1] at h6;have c1:¬((i:Int)<0):=by omega
   have u1:i<((vs.take (i+1)++List.replicate (vs.length - (i+1)) 0).map ci).length:=by simp;omega
   have u2:((vs.take (i+1)++List.replicate (vs.length - (i+1)) 0).map ci)[i]?=some (ci x):=by rw[List.getElem?_map,List.getElem?_append_left (by simp;omega),List.getElem?_take_of_lt (by omega),hx];rfl
   have ru:=ho2.rows;obtain ⟨x',hx',hx0,hx1⟩:=hin.get hc;rw[xy hx' hx] at hx0 hx1;have hcb:=hr.cs c (List.mem_of_getElem? hc);have w2:IntKind.wrap .i64 (x+1)=x+1:=aq (by omega) (by omega);simp only[sz,simprocAttr,bD,h6,c1,h4,ru,u1,u2,ci,w2];refine bF (v:=u) (sz:=1) (n:=1) (i:=i) (off:=0) (x:=.int .i64 (x+1)) (row':=ci (x+1)) ho2 u2 rfl rfl rfl λg4 hu4 n4 f4=>?_;rw[<-List.map_set,qs hil] at hu4;have hin2:=y8 hin hcs1 hx hc hxc;have hidx2:=yN (cs:=S.aa n) (vs:=vs) hin.len.symm hx λk c hk hc=>hmx k c (by omega) hc;rw[hidx] at hidx2;have hlt2:=bE hr.cs hin2;have w3:IntKind.wrap .i64 ((j:Int)+1)=((j+1:Nat):Int):=by rw[aq (by omega) (by omega)];rfl
   simp only[sz,simprocAttr,bT,h5,w3];refine ⟨S.am n - (j+1),by omega,?_⟩;rw[hINV];refine ⟨rfl,j+1,_,rfl,by omega,hin2,by rw[hidx2];rfl,by simp[St,LM,sx,h0,h1,h2,h4],hu4,hJ _ _ _ (λi hi=>f4 i λe=>by rw[hvu] at e;injection e with e;omega) hJ2,by omega⟩
 cases hm:S.jm vs e with
 | false =>
  rw[hm] at hmt;rw[cj];simp only[sz,simprocAttr,h4,h2,ba,hmt];exact rest _ _ (by simp[St,LM,sx,h0,h1,h2,h4,h5]) ho (skip j _ hj (by rw[hval];exact hm) hJj) hnx
 | true =>
  rw[hm] at hmt;rw[cj];have hwt:=Iz (d:=d) (g:=g) (v:=.agg [.int .i64 n.grain,b,fl,S_]) (w:=u) (vals:=vs) (y:=y) hd hr ⟨_,rfl,Rp.tree hcs (Nat.le_refl _)⟩ hq hsl hin;simp only[sz,simprocAttr,h0,h1,h5,h4,h2,ba,hmt,hwt,NG (a:=.int .i64 (j:Int)) (b:=.int .i64 (S.aX n vs)) ⟨rfl,rfl⟩ ⟨rfl,rfl⟩ ho.cell];have st:=λK' D=>step j u g K' D hj (by rw[hval];exact hm) hnx hJj (by rw[hval];exact hsl);rw[hval] at st;show (cg (I C0) d id [.agg [.int .i64 (j:Int),.int .i64 (S.aX n vs),u]] g).sat _ _ _;refine st _ _ (λg' hJ' hn' hf'=>?_) λg' hE=>?_
  ·simp only[sz,simprocAttr];exact rest _ _ (by simp[St,LM,sx,h0,h1,h2,h4,h5]) (ho.fr hn' λi hi=>hf' i (ho.lt hi).1 (ho.lt hi).2) hJ' (by omega)
  ·rw[hQ1,hQf];simp only[sz,simprocAttr,aJ];exact finE g' hE
theorem wm {C:Cfg}{d id nt:Nat}{t:T}{ps:List Nat}{assign body:Code}{a b:SC}{dfr:Nat}{args:List AV}{g:G}{K:AV->G->Prop}{D:ADf->Prop}{t':T}
  (hg:g.h.get id=.loop nt t ps assign body dfr .ready none) (ha:eE C nt assign=a) (hb:eE C nt body=b) (hp:cJ t nt ps args=some t')
  (h:wp C d (some id) a (λe t1 df g1=>e=.norm/\df=[]/\g1.h.get id=.loop nt t ps assign body dfr .ready none /\
   wp C d (some id) b (λe _ df g2=>df=[]/\g2.h.get id=.loop nt t ps assign body dfr .busy none/\((e=.norm/\K (.bool true) (g2.put id (.loop nt t ps assign body dfr .ready none)))\/(e=.ret/\K (.bool false) (g2.put id (.loop nt t ps assign body dfr .done (some .ret))))))
    t1 [] (g1.put id (.loop nt t ps assign body dfr .busy none))) t' [] g) :
  (cg (I C) d id args g).sat K g D:=by
 subst ha;subst hb;unfold cg;rw[show g.get id=_ from hg];dsimp only;rw[hp];dsimp only;have h1:=sN h;cases hc:(I C).code nt d (some id) assign t' [] g with
 | fail=>rw[hc] at h1;exact h1.elim
 | ok e t1 df g1 =>
  rw[hc] at h1;obtain ⟨rfl,rfl,hg1,h2⟩:=h1;dsimp only;rw[show g1.get id=_ from hg1];dsimp only;have h3:=sN h2;cases hc2:(I C).code nt d (some id) body t1 [] (g1.put id (.loop nt t ps assign body dfr .busy none)) with
  | fail=>rw[hc2] at h3;exact h3.elim
  | ok e t2 df2 g2 =>
   rw[hc2] at h3;obtain ⟨rfl,h4,h5⟩:=h3;dsimp only;rw[show g2.get id=_ from h4];rcases h5 with ⟨rfl,h5⟩ | ⟨rfl,h5⟩<;>exact h5
theorem CW:C0.ext N.ae=none:=by kernel_rfl
theorem A2 {d nt p r t1 t2 ky ke:Nat}{n:Net}{y:QnM}{e:List Int}{cs:List AV}{w:AV}{ca cb:SC}{Q:QT}{t:T}{df:List ADf}{g:G}(hd:0<d)(hr:NR n)(hq:QnOk n y)(hcs:Rp.rp NoP ky .nil y cs)(hw:SlR NoP ke .nil e w)(hel:e.length<=n.nodes.length)
  (hv:tat t r=.clo N.ae [] [.tptr t1 4 [cs] 0 0,.tptr t2 1 [[w]] 0 0]) (hp:p<nt)
  (J:Nat->H->Prop) (E:H->Prop) (hJ:∀j h h',(∀i,i<g.nx->h'.get i=h.get i)->J j h->J j h') (hE:∀h h',(∀i,i<g.nx->h'.get i=h.get i)->E h->E h') (h0:J 0 g.h)
  (skip:∀(j:Nat) (h:H),j<S.am n->S.jm (S.an (S.aa n) j) e=false->J j h->J (j+1) h)
  (step:∀(j:Nat) (u:AV) (g1:G),j<S.am n->S.jm (S.an (S.aa n) j) e=true->J j g1.h->g.nx+2<=g1.nx->SlR (λi=>g.nx+2<=i/\i<g1.nx) 0 g1.h (S.an (S.aa n) j) u ->
   wp C0 d (some (g.nx+1)) ca (λe t1 df g1'=>e=.norm/\df=[]/\Fr g1 g1'/\∀g2:G,g2.nx=g1'.nx->(∀i,i≠g.nx+1->g2.h.get i=g1'.h.get i) ->
    wp C0 d (some (g.nx+1)) cb (λe _ df g3=>df=[]/\RowQ g.nx g2 g3 e (J (j+1) g3.h) (E g3.h)) t1 [] g2)
    (eV t p (.agg [.int .i64 (j:Int),.int .i64 (S.aX n (S.an (S.aa n) j)),u])) [] g1)
  (fin:∀g',J (S.am n) g'.h->g.nx+2<=g'.nx->g'.h.get g.nx=.dfr true->Q .norm t (.mark g.nx::df) g')
  (finE:∀g',E g'.h->g.nx+2<=g'.nx->g'.h.get g.nx=.dfr true->Q .ret t (.mark g.nx::df) g') :
  wp C0 d none (.rng nt (.t r) [p] ca cb) Q t df g:=by
 obtain ⟨b,fl,S_,rfl,-,-,-⟩:=tE.1 hcs;rw[hq.net] at hv hcs;refine qz (fn:=N.ae) (first:=[]) (cap:=[.tptr t1 4 [[.int .i64 n.grain,b,fl,S_]] 0 0,.tptr t2 1 [[w]] 0 0]) (s:=aJ) hv CW kN (by simp[aJ]) ?_;intro assign body ha hb;have e1:((g.new (.dfr true)).new (.loop nt t [p] assign body g.nx .ready none)).nx=g.nx+2:=by simp
 refine H0 (g0:=(g.new (.dfr true)).new (.loop nt t [p] assign body g.nx .ready none)) (id:=g.nx+1) hd hr hq hcs hw hel
  (λj h=>J j h/\h.get g.nx=.dfr true/\h.get (g.nx+1)=.loop nt t [p] assign body g.nx .ready none)
  (λg'=>E g'.h/\g'.h.get g.nx=.dfr true/\g'.h.get (g.nx+1)=.loop nt t [p] assign body g.nx .done (some .ret)/\g.nx+2<=g'.nx) ?_ ?_ ?_ ?_ ?_ ?_
 ·rintro j h h' hh ⟨a1,a2,a3⟩;rw[e1] at hh;exact ⟨hJ j h h' (λi hi=>hh i (by omega)) a1,by rw[hh _ (by omega),a2],by rw[hh _ (by omega),a3]⟩
 ·rintro j h hj hm ⟨a1,a2,a3⟩;exact ⟨skip j h hj hm a1,a2,a3⟩
 ·rintro j u g1 K' D hj hm hn ⟨a1,a2,a3⟩ hsl kk kE;rw[e1] at hn kk hsl;refine wm a3 ha hb (t':=eV t p (.agg [.int .i64 (j:Int),.int .i64 (S.aX n (S.an (S.aa n) j)),u])) ?_ ?_
  ·simp only[cJ,aa,Nat.blt_eq,if_pos hp];rfl
  ·refine bL _ (step j u g1 hj hm a1 (by omega) hsl) ?_;rintro e t1 df g1' ⟨rfl,rfl,hfr,h⟩;have hl0:g.nx+1<g1.nx:=by omega
   have hl:g.nx+1<g1'.nx:=Nat.lt_of_lt_of_le hl0 hfr.1;have a2':g1'.h.get g.nx=.dfr true:=by rw[hfr.2 _ (by omega),a2]
   have a3':g1'.h.get (g.nx+1)=.loop nt t [p] assign body g.nx .ready none:=by rw[hfr.2 _ hl0,a3]
   refine ⟨rfl,rfl,a3',?_⟩;refine bL _ (h (g1'.put (g.nx+1) (.loop nt t [p] assign body g.nx .busy none)) (by simp) (λi hi=>by simp[H.get_put,hi])) ?_;rintro e t2 df g3 ⟨rfl,⟨b2,b3,b1⟩⟩;have b4:g3.h.get (g.nx+1)=.loop nt t [p] assign body g.nx .busy none:=by rw[b3 _ (by omega) (by simpa using hl)];simp[H.get_put]
   have b5:g3.h.get g.nx=.dfr true:=by rw[b3 _ (by omega) (by simp;omega)];simp[H.get_put,a2']
   refine ⟨rfl,b4,?_⟩;have b2':g1'.nx<=g3.nx:=by simpa using b2
   have hf1:=hfr.1;rcases b1 with ⟨rfl,b1⟩ | ⟨rfl,b1⟩
   ·refine .inl ⟨rfl,kk _ ⟨hJ _ g3.h _ (λi hi=>by simp[H.get_put,show ¬i=g.nx+1 by omega]) b1,?_,?_⟩ (by simp;omega) λi h1 h2=>?_⟩
    ·simp[H.get_put,b5]
    ·simp[H.get_put]
    ·have hne:¬i=g.nx+1:=by omega
     have:=b3 i (by omega) (by simp;omega);simp[H.get_put,hne] at this ⊢;rw[this,hfr.2 i h2]
   ·refine .inr ⟨rfl,kE _ ⟨hE g3.h _ (λi hi=>by simp[H.get_put,show ¬i=g.nx+1 by omega]) b1,?_,?_,?_⟩⟩
    ·simp[H.get_put,b5]
    ·simp[H.get_put]
    ·simp;omega
 ·refine ⟨hJ 0 g.h _ (λi hi=>?_) h0,?_,?_⟩
  ·simp[H.get_put,show ¬i=g.nx+1 by omega,show ¬i=g.nx by omega]
  ·simp[H.get_put]
  ·simp[H.get_put]
 ·rintro g' ⟨a1,a2,a3⟩ hn;rw[e1] at hn;refine ⟨_,_,_,_,_,_,.inl ⟨a3,fin _ (hJ _ g'.h _ (λi hi=>by simp[H.get_put,show ¬i=g.nx+1 by omega]) a1) (by simpa using hn) ?_⟩⟩;simp[H.get_put,a2]
 ·rintro g' ⟨a1,a2,a3,hn⟩;refine ⟨_,_,_,_,_,_,.inr ⟨a3,finE _ (hE g'.h _ (λi hi=>by simp[H.get_put,show ¬i=g.nx+1 by omega]) a1) (by simpa using hn) ?_⟩⟩;simp[H.get_put,a2]
structure CsOk (cs:List Int):Prop where
 b:∀c∈cs,1<=c/\c<=4
 l:cs.length<=8
def S.nc (cs:List Int):Nat:=(S.af cs).toNat
theorem CsOk.nc {cs:List Int}(h:CsOk cs):1<=S.nc cs/\S.nc cs<=65536/\((S.nc cs:Nat):Int)=S.af cs:=by
 obtain ⟨h1,h2⟩:=bB h.b;have h3:(4:Int) ^ cs.length<=4 ^ 8:=by
  have:(4:Nat) ^ cs.length<=4 ^ 8:=Nat.pow_le_pow_right (by decide) h.l
  exact_mod_cast this
 have h4:(4:Int) ^ 8=65536:=by decide
 unfold S.nc;omega
def Up (B:Nat)(g g':G):Prop:=(∀i,i<B->g'.h.get i=g.h.get i)/\∀i∈g'.lg,i∈g.lg\/B<=i
theorem Up.refl (B:Nat)(g:G):Up B g g:=⟨λ_ _=>rfl,λ_ h=>.inl h⟩
theorem Up.trans {B:Nat}{g g1 g2:G}(h:Up B g g1)(h2:Up B g1 g2):Up B g g2:=⟨λi hi=>by rw[h2.1 i hi,h.1 i hi],λi hi=>(h2.2 i hi).elim (λh3=>h.2 i h3) .inr⟩
theorem Up.mono {B B':Nat}{g g':G}(h:Up B g g')(hb:B'<=B):Up B' g g':=⟨λi hi=>h.1 i (by omega),λi hi=>(h.2 i hi).imp id λh=>by omega⟩
theorem Up.new {B:Nat}{g:G}(hb:B<=g.nx)(o:AObj):Up B g (g.new o):=⟨λi hi=>by rw[G.new_h,aw _ _ _ (by omega)],λi hi=>by simp at hi;rcases hi with rfl | hi;exact .inr hb;exact .inl hi⟩
theorem Up.put {B:Nat}{g:G}{j:Nat}(hb:B<=j)(o:AObj):Up B g (g.put j o):=⟨λi hi=>by rw[G.put_h,aw _ _ _ (by omega)],λi hi=>by simp at hi;rcases hi with rfl | hi;exact .inr hb;exact .inl hi⟩
theorem qq {g:G}{b:Nat}{v:AV}{sz n i off:Nat}{rows:List (List AV)}{row row':List AV}{x:AV}{K:AV->G->Prop}{D:ADf->Prop}(hv:Own g b v sz rows)(hr:rows[i]?=some row)
  (hl:x.cells.length=n) (ht:x.isTup=false) (hp:cd row off x.cells=some row')
  (k:∀g',Own g' b v sz (rows.set i row')->g'.nx=g.nx->(∀i,vid v≠some i->g'.h.get i=g.h.get i)->Up b g g'->K .undef g'):(mU n (mP sz v i off) x g).sat K g D:=by
 rcases hv with ⟨rfl,rfl⟩ | ⟨id,ep,lo,h1,h2,rfl,h3⟩
 ·simp at hr
 ·simp only[mP,Nat.zero_add];rw[zD h3 hr rfl ht hl hp];refine k _ (.inr ⟨id,ep,lo,h1,by simpa using h2,by simp,by simp[aO]⟩) (by simp) (λi hne=>?_) (Up.put h1 _);rw[G.put_h,aw _ _ _ (λe=>hne (by rw[e];rfl))]
def Uo (B:Nat)(g g':G):Prop:=Up B g g'/\g.nx<=g'.nx/\∀i,i≠B->i<g.nx->g'.h.get i=g.h.get i
theorem Uo.refl (B:Nat)(g:G):Uo B g g:=⟨Up.refl _ _,Nat.le_refl _,λ_ _ _=>rfl⟩
theorem Uo.trans {B:Nat}{g g1 g2:G}(h:Uo B g g1)(h2:Uo B g1 g2):Uo B g g2:=⟨h.1.trans h2.1,Nat.le_trans h.2.1 h2.2.1,λi hi hn=>by rw[h2.2.2 i hi (Nat.lt_of_lt_of_le hn h.2.1),h.2.2 i hi hn]⟩
def Ul (B:Nat)(g g':G):Prop:=Up B g g'/\g.nx<=g'.nx/\∀i,(i<B\/B+3<=i)->i<g.nx->g'.h.get i=g.h.get i
theorem Ul.put {B:Nat}{g:G}{j:Nat}(hb:B<=j)(hb2:j<B+3)(o:AObj):Ul B g (g.put j o):=⟨Up.put hb o,by simp,λi hi _=>by rw[G.put_h,aw _ _ _ (by omega)]⟩
def LMc (id:Nat)(w u:AV)(k:Nat):List (Nat×AV):=[(0,.yld id),(1,.tptr 0 1 [[w]] 0 0),(3,u),(4,.int .i64 (k:Int))]
structure OdoC (cs vs:List Int) (L:List (Nat×AV)) (u:AV) (g0:G) (m:Nat) (t:T) (g:G):Prop where
 st:tat t 5=.int .i64 ((m:Int) - 1)
 ss:St t L
 ow:Own g g0.nx u 1 ((vs.take m++List.replicate (vs.length - m) 0).map ci)
 mx:∀(j:Nat) (c:Int),m<=j->cs[j]?=some c->vs[j]?.getD 0=c - 1
theorem Ly {d id k m:Nat}{cs vs:List Int}{w u:AV}{Q:QT}{t:T}{g g0:G}(hb:CsOk cs)(hw:SlR NoP 0 .nil cs w)(hc:InC cs vs)(hm:m<=cs.length)
  (h0:OdoC cs vs (LMc id w u k) u g0 m t g) (hvu:vid u=some g0.nx)
  (fin:∀m' t g',m'<=cs.length->OdoC cs vs (LMc id w u k) u g0 m' t g'->g.nx<=g'.nx->Uo g0.nx g g'->(m'=0\/∃x c,vs[m' - 1]?=some x/\cs[m' - 1]?=some c/\x≠c - 1/\0<m')->Q (.exit 2) t [] g') :
  wpL (wp C0 d none bP) Q t [] g:=by
 have hvl:=hc.len;have hl8:=hb.l;have ri:=λh=>(hw.tree (h':=h) (Nat.le_refl 0):SlR NoP 0 h cs w).ints;refine fO (λm t df g'=>df=[]/\m<=cs.length/\OdoC cs vs (LMc id w u k) u g0 m t g'/\g.nx<=g'.nx/\Uo g0.nx g g') m ⟨rfl,hm,h0,Nat.le_refl _,Uo.refl _ _⟩ ?_;rintro m t df g1 ⟨rfl,hm,⟨h5,⟨h0,h1,h3,h4,-⟩,how,hmx⟩,hnx,hfr⟩;simp only[bP];cases m with
 | zero =>
  have c1:¬((0:Int)<=((0:Nat):Int) - 1):=by omega
  simp only[sz,simprocAttr,h5,c1];refine fin 0 _ _ (Nat.zero_le _) ⟨?_,?_,?_,hmx⟩ ?_ ?_ (.inl rfl)
  ·simp[sx,h5]
  ·simp[St,LMc,sx,h0,h1,h3,h4]
  ·exact how
  ·exact hnx
  ·exact hfr
 | succ m =>
  have c1:(0:Int)<=((m+1:Nat):Int) - 1:=by omega
  have e1:((m+1:Nat):Int) - 1=(m:Int):=by omega
  rw[e1] at c1 h5;obtain ⟨x,hx,-,hxm⟩:=ae (l:=cs) (j:=m) (by omega);obtain ⟨v,hv,hv0,hv1⟩:=hc.get hx;have hcx:=hb.b x hxm;have u1:m<((vs.take (m+1)++List.replicate (vs.length - (m+1)) 0).map ci).length:=by simp;omega
  have u2:((vs.take (m+1)++List.replicate (vs.length - (m+1)) 0).map ci)[m]?=some (ci v):=by rw[List.getElem?_map,List.getElem?_append_left (by simp;omega),List.getElem?_take_of_lt (by omega),hv];rfl
  have z1:m<(cs.map ci).length:=by simp;omega
  have z2:(cs.map ci)[m]?=some (ci x):=by rw[List.getElem?_map,hx];rfl
  have ru:=how.rows;have w1:IntKind.wrap .i64 (x - 1)=x - 1:=aq (by omega) (by omega)
  by_cases c2:v=x - 1
  ·simp only[sz,simprocAttr,h5,h1,h3,c1,ru,u1,u2,ri,z1,z2,ba,ci,w1,c2];refine qq (v:=u) (sz:=1) (n:=1) (i:=m) (off:=0) (x:=.int .i64 0) (row':=ci 0) how u2 rfl rfl rfl λg4 hu4 n4 f4 p4=>?_;rw[<-List.map_set,qt (by omega)] at hu4;have w2:IntKind.wrap .i64 ((m:Int) - 1)=(m:Int) - 1:=aq (by omega) (by omega);simp only[sz,simprocAttr,h5,w2];refine ⟨m,by omega,by omega,⟨by simp[sx],by simp[St,LMc,sx,h0,h1,h3,h4],hu4,λj c hj hc'=>?_⟩,by omega,hfr.trans ⟨p4,by omega,λi hi _=>f4 i λe=>hi (by rw[hvu] at e;injection e with e;exact e.symm)⟩⟩
   by_cases e:j=m
   ·subst e;rw[hx] at hc';injection hc' with hc';rw[hv,Option.getD_some];omega
   ·exact hmx j c (by omega) hc'
  ·simp only[sz,simprocAttr,h5,h1,h3,c1,ru,u1,u2,ri,z1,z2,ba,ci,w1,c2];refine fin (m+1) _ _ hm ⟨?_,?_,?_,hmx⟩ ?_ ?_ (.inr ⟨v,x,hv,hx,c2,by omega⟩)
   ·simp[sx,h5]
   ·simp[St,LMc,sx,h0,h1,h3,h4]
   ·exact how
   ·exact hnx
   ·exact hfr
theorem Lz {d id:Nat}{cs:List Int}{w:AV}{g0:G}{K:AV->G->Prop}(hb:CsOk cs)(hw:SlR NoP 0 .nil cs w)
  (J:Nat->G->Prop) (E:G->Prop) (hJ:∀j g g',Uo g0.nx g g'->J j g->J j g')
  (step:∀(j:Nat) (u:AV) (g:G) (K':AV->G->Prop) (D:ADf->Prop),j<S.nc cs->g0.nx+1<=g.nx->J j g->SlR (λi=>g0.nx<=i/\i<g.nx) 0 g.h (S.an cs j) u ->
   (∀g',J (j+1) g'->g.nx<=g'.nx->(∀i,g0.nx<=i->i<g.nx->g'.h.get i=g.h.get i)->K' (.bool true) g')->(∀g',E g'->K' (.bool false) g')->(cg (I C0) d id [.int .i64 (j:Int),u] g).sat K' g D)
  (h0:J 0 g0) (fin:∀g',J (S.nc cs) g'->g0.nx<=g'.nx->K (.tup []) g') (finE:∀g',E g'->K (.tup []) g') :
  wp C0 d none aU.code (fnQ C0 d aU.res K) (bO 0 [.yld id,.tptr 0 1 [[w]] 0 0] .nil) [] g0:=by
 have hl8:=hb.l;obtain ⟨W1,W2,W3⟩:=hb.nc;have hcs1:=λc hc=>(hb.b c hc).1;have nl:=hw.len;have ri:=λh=>(hw.tree (h':=h) (Nat.le_refl 0):SlR NoP 0 h cs w).ints;obtain ⟨Qf,hQf⟩:∃Qf,Qf=fnQ C0 d aU.res K:=⟨_,rfl⟩;rw[<-hQf];simp only[sz,simprocAttr,aU,ba,nl];refine mK (b:=g0.nx) (n:=cs.length) (by unfold aP;omega) (by unfold aP;omega) (Nat.le_refl _) λu g1 hu n1 fr1 v1 l1=>?_;simp only[sz,simprocAttr];obtain ⟨INV,hINV⟩:∃INV:Nat->PT,INV=(λm t df g=>df=[]/\∃(j:Nat) (vs:List Int),m=S.nc cs - j/\j<S.nc cs/\InC cs vs/\S.ah cs vs=(j:Int)/\St t (LMc id w u j)/\Own g g0.nx u 1 (vs.map ci)/\J j g/\g0.nx+1<=g.nx):=⟨_,rfl⟩;refine fO INV (S.nc cs) ?_ ?_
 ·rw[hINV];exact ⟨rfl,0,List.replicate cs.length 0,rfl,by omega,zJ hcs1,by rw[pA];rfl,by simp[St,LMc,sx],by simpa [ci] using hu,hJ 0 _ _ ⟨⟨fr1,λi hi=>by rw[l1] at hi;rcases List.mem_cons.1 hi with rfl | hi;exact .inr (Nat.le_refl _);exact .inl hi⟩,by omega,λi _ hn=>fr1 i hn⟩ h0,by omega⟩
 intro m t df g hI;have hI2:=hI;rw[hINV] at hI2;obtain ⟨rfl,j,vs,rfl,hj,hin,hidx,⟨h0,h1,h3,h4,-⟩,ho,hJj,hnx⟩:=hI2;clear hI;have hvl:=hin.len;have hval:S.an cs (j:Int)=vs:=by rw[<-hidx];exact qy hcs1 hin
 have hvu:vid u=some g0.nx:=v1;have hsl:SlR (λi=>g0.nx<=i/\i<g.nx) 0 g.h vs u:=Own.sl (α:=Int) ho (by omega) (All2.of_map (λa=>aF.2 rfl) _) λi hi=>ho.lt hi;have w1:IntKind.wrap .i64 ((cs.length:Int) - 1)=(cs.length:Int) - 1:=aq (by omega) (by omega);obtain ⟨R,hR⟩:∃R,R=(SC.seq (.blk 1 (sQ [oL 15 1,oN 16 15,o 17 (.bin .sub (.t 16) (qI 1)),oM 5 17] (.seq (.blk 2 (.loop bP)) bQ))) cW):=⟨_,rfl⟩;simp only[gi];rw[<-hR,cj];obtain ⟨Q1,hQ1⟩:∃Q1,Q1=kL INV (S.nc cs - j) (kB 0 Qf):=⟨_,rfl⟩;rw[<-hQ1];have rest:∀(t:T) (g:G),St t (LMc id w u j)->Own g g0.nx u 1 (vs.map ci)->J (j+1) g->g0.nx+1<=g.nx->wp C0 d none R Q1 t [] g:=by
  rintro t g ⟨h0,h1,h3,h4,-⟩ ho hJj hnx;rw[hR,hQ1];simp only[sz,simprocAttr,h1,ba,nl,w1];refine Ly (id:=id) (k:=j) (m:=cs.length) (w:=w) (u:=u) (vs:=vs) (g0:=g0) hb hw hin (Nat.le_refl _) ⟨by simp[sx],by simp[St,LMc,sx,h0,h1,h3,h4],?_,λi c hi hc=>?_⟩ hvu ?_
  ·rw[List.take_of_length_le (by omega),show vs.length - cs.length=0 by omega];simpa using ho
  ·have:=(List.getElem?_eq_some_iff.1 hc).1;omega
  rintro m' t2 g2 hm' ⟨h5,⟨h0,h1,h3,h4,-⟩,ho2,hmx⟩ hn2 hf2 hcase;have hJ2:J (j+1) g2:=hJ _ _ _ hf2 hJj;rcases hcase with rfl | ⟨x,c,hx,hc,hxc,hm0⟩
  ·have hlast:j+1=S.nc cs:=by have:=uK (cs:=cs) (vs:=vs) hin.len.symm λi c hc=>hmx i c (Nat.zero_le _) hc;omega
   have c1:(((0:Nat):Int) - 1<0):=by omega
   rw[hQf];simp only[sz,simprocAttr,bQ,aU,h5,c1];rw[hlast] at hJ2;exact fin g2 hJ2 (by omega)
  ·obtain ⟨i,rfl⟩:∃i,m'=i+1:=⟨m' - 1,by omega⟩;rw[Nat.add_sub_cancel] at hx hc;have hil:=(List.getElem?_eq_some_iff.1 hx).1;have e1:((i+1:Nat):Int) - 1=(i:Int):=by omega
   rw[e1] at h5;have c1:¬((i:Int)<0):=by omega
   have u1:i<((vs.take (i+1)++List.replicate (vs.length - (i+1)) 0).map ci).length:=by simp;omega
   have u2:((vs.take (i+1)++List.replicate (vs.length - (i+1)) 0).map ci)[i]?=some (ci x):=by rw[List.getElem?_map,List.getElem?_append_left (by simp;omega),List.getElem?_take_of_lt (by omega),hx];rfl
   have ru:=ho2.rows;obtain ⟨x',hx',hx0,hx1⟩:=hin.get hc;rw[xy hx' hx] at hx0 hx1;have hcb:=hb.b c (List.mem_of_getElem? hc);have w2:IntKind.wrap .i64 (x+1)=x+1:=aq (by omega) (by omega);simp only[sz,simprocAttr,bQ,h5,c1,h3,ru,u1,u2,ci,w2];refine qq (v:=u) (sz:=1) (n:=1) (i:=i) (off:=0) (x:=.int .i64 (x+1)) (row':=ci (x+1)) ho2 u2 rfl rfl rfl λg4 hu4 n4 f4 p4=>?_;rw[<-List.map_set,qs hil] at hu4;have hin2:=y8 hin hcs1 hx hc hxc;have hidx2:=yN (cs:=cs) (vs:=vs) hin.len.symm hx λk c hk hc=>hmx k c (by omega) hc;rw[hidx] at hidx2;have hlt2:=bE hb.b hin2;have w3:IntKind.wrap .i64 ((j:Int)+1)=((j+1:Nat):Int):=by rw[aq (by omega) (by omega)];rfl
   simp only[sz,simprocAttr,cW,h4,w3];refine ⟨S.nc cs - (j+1),by omega,?_⟩;rw[hINV];refine ⟨rfl,j+1,_,rfl,by omega,hin2,by rw[hidx2];rfl,by simp[St,LMc,sx,h0,h1,h3],hu4,hJ _ _ _ ⟨p4,by omega,λi hi _=>f4 i λe=>hi (by rw[hvu] at e;injection e with e;exact e.symm)⟩ hJ2,by omega⟩
 simp only[sz,simprocAttr,h0,h3,h4];have st:=λK' D=>step j u g K' D hj hnx hJj (by rw[hval];exact hsl);show (cg (I C0) d id [.int .i64 (j:Int),u] g).sat _ _ _;refine st _ _ (λg' hJ' hn' hf'=>?_) λg' hE=>?_
 ·simp only[sz,simprocAttr];exact rest _ _ (by simp[St,LMc,sx,h0,h1,h3,h4]) (ho.fr hn' λi hi=>hf' i (ho.lt hi).1 (ho.lt hi).2) hJ' (by omega)
 ·rw[hQ1,hQf];simp only[sz,simprocAttr,aU];exact finE g' hE
theorem Jc:C0.ext N.an=none:=by kernel_rfl
theorem A1 {d nt p q r:Nat}{cs:List Int}{w:AV}{ca cb:SC}{Q:QT}{t:T}{df:List ADf}{g:G}(hb:CsOk cs)(hw:SlR NoP 0 .nil cs w)
  (hv:tat t r=.clo N.an [] [.tptr 0 1 [[w]] 0 0]) (hp:p<nt) (hq:q<nt)
  (J:Nat->G->Prop) (E:G->Prop) (hJ:∀j g1 g2,Ul g.nx g1 g2->J j g1->J j g2) (hE:∀g1 g2,Ul g.nx g1 g2->E g1->E g2) (h0:J 0 g)
  (step:∀(j:Nat) (u:AV) (g1:G),j<S.nc cs->J j g1->g.nx+3<=g1.nx->SlR (λi=>g.nx+2<=i/\i<g1.nx) 0 g1.h (S.an cs j) u ->
   wp C0 d (some (g.nx+1)) ca (λe t1 df g1'=>e=.norm/\df=[]/\Fr g1 g1'/\∀g2:G,g2.nx=g1'.nx->(∀i,i≠g.nx+1->g2.h.get i=g1'.h.get i)->Up g.nx g1' g2 ->
    wp C0 d (some (g.nx+1)) cb (λe _ df g3=>df=[]/\RowQ g.nx g2 g3 e (J (j+1) g3) (E g3)) t1 [] g2)
    (eV (eV t p (.int .i64 (j:Int))) q u) [] g1)
  (fin:∀g',J (S.nc cs) g'->g.nx+2<=g'.nx->g'.h.get g.nx=.dfr true->Q .norm t (.mark g.nx::df) g')
  (finE:∀g',E g'->g.nx+2<=g'.nx->g'.h.get g.nx=.dfr true->Q .ret t (.mark g.nx::df) g') :
  wp C0 d none (.rng nt (.t r) [p,q] ca cb) Q t df g:=by
 refine qz (fn:=N.an) (first:=[]) (cap:=[.tptr 0 1 [[w]] 0 0]) (s:=aU) hv Jc oQ (by simp[aU]) ?_;intro assign body ha hb';have e1:((g.new (.dfr true)).new (.loop nt t [p,q] assign body g.nx .ready none)).nx=g.nx+2:=by simp
 refine Lz (g0:=(g.new (.dfr true)).new (.loop nt t [p,q] assign body g.nx .ready none)) (id:=g.nx+1) hb hw
  (λj g'=>J j g'/\g'.h.get g.nx=.dfr true/\g'.h.get (g.nx+1)=.loop nt t [p,q] assign body g.nx .ready none)
  (λg'=>E g'/\g'.h.get g.nx=.dfr true/\g'.h.get (g.nx+1)=.loop nt t [p,q] assign body g.nx .done (some .ret)/\g.nx+2<=g'.nx) ?_ ?_ ?_ ?_ ?_
 ·rintro j h h' hh ⟨a1,a2,a3⟩;rw[e1] at hh;exact ⟨hJ j h h' ⟨hh.1.mono (by omega),hh.2.1,λi hi hn=>hh.2.2 i (by omega) hn⟩ a1,by rw[hh.1.1 _ (by omega),a2],by rw[hh.1.1 _ (by omega),a3]⟩
 ·rintro j u g1 K' D hj hn ⟨a1,a2,a3⟩ hsl kk kE;rw[e1] at hn kk hsl;refine wm a3 ha hb' (t':=eV (eV t p (.int .i64 (j:Int))) q u) ?_ ?_
  ·simp only[cJ,aa,Nat.blt_eq,if_pos hp,if_pos hq];rfl
  ·refine bL _ (step j u g1 hj a1 (by omega) hsl) ?_;rintro e t1 df g1' ⟨rfl,rfl,hfr,h⟩;have hl0:g.nx+1<g1.nx:=by omega
   have hl:g.nx+1<g1'.nx:=Nat.lt_of_lt_of_le hl0 hfr.1;have a2':g1'.h.get g.nx=.dfr true:=by rw[hfr.2 _ (by omega),a2]
   have a3':g1'.h.get (g.nx+1)=.loop nt t [p,q] assign body g.nx .ready none:=by rw[hfr.2 _ hl0,a3]
   refine ⟨rfl,rfl,a3',?_⟩;refine bL _ (h (g1'.put (g.nx+1) (.loop nt t [p,q] assign body g.nx .busy none)) (by simp) (λi hi=>by simp[H.get_put,hi]) (Up.put (by omega) _)) ?_;rintro e t2 df g3 ⟨rfl,⟨b2,b3,b1⟩⟩;have b4:g3.h.get (g.nx+1)=.loop nt t [p,q] assign body g.nx .busy none:=by rw[b3 _ (by omega) (by simpa using hl)];simp[H.get_put]
   have b5:g3.h.get g.nx=.dfr true:=by rw[b3 _ (by omega) (by simp;omega)];simp[H.get_put,a2']
   refine ⟨rfl,b4,?_⟩;have b2':g1'.nx<=g3.nx:=by simpa using b2
   have hf1:=hfr.1;rcases b1 with ⟨rfl,b1⟩ | ⟨rfl,b1⟩
   ·refine .inl ⟨rfl,kk _ ⟨hJ _ g3 _ (Ul.put (by omega) (by omega) _) b1,?_,?_⟩ (by simp;omega) λi h1 h2=>?_⟩
    ·simp[H.get_put,b5]
    ·simp[H.get_put]
    ·have hne:¬i=g.nx+1:=by omega
     have:=b3 i (by omega) (by simp;omega);simp[H.get_put,hne] at this ⊢;rw[this,hfr.2 i h2]
   ·refine .inr ⟨rfl,kE _ ⟨hE g3 _ (Ul.put (by omega) (by omega) _) b1,?_,?_,?_⟩⟩
    ·simp[H.get_put,b5]
    ·simp[H.get_put]
    ·simp;omega
 ·refine ⟨hJ 0 g _ ⟨(Up.new (Nat.le_refl _) _).trans (Up.new (by simp) _),by simp;omega,λi hi hn=>by simp[H.get_put,show ¬i=g.nx by omega,show ¬i=g.nx+1 by omega]⟩ h0,?_,?_⟩
  ·simp[H.get_put]
  ·simp[H.get_put]
 ·rintro g' ⟨a1,a2,a3⟩ hn;rw[e1] at hn;refine ⟨_,_,_,_,_,_,.inl ⟨a3,fin _ (hJ _ g' _ (Ul.put (by omega) (by omega) _) a1) (by simpa using hn) ?_⟩⟩;simp[H.get_put,a2]
 ·rintro g' ⟨a1,a2,a3,hn⟩;refine ⟨_,_,_,_,_,_,.inr ⟨a3,finE _ (hE g' _ (Ul.put (by omega) (by omega) _) a1) (by simpa using hn) ?_⟩⟩;simp[H.get_put,a2]
theorem zq {d nt p q r:Nat}{cs:List Int}{w:AV}{ca cb:SC}{Q:QT}{t:T}{df:List ADf}{g:G}(hb:CsOk cs)(hw:SlR NoP 0 .nil cs w)
  (hv:tat t r=.clo N.an [] [.tptr 0 1 [[w]] 0 0]) (hp:p<nt) (hq:q<nt)
  (J:Nat->G->Prop) (E:G->Prop) (hJ:∀j g1 g2,Up g.nx g1 g2->J j g1->J j g2) (hE:∀g1 g2,Up g.nx g1 g2->E g1->E g2) (h0:J 0 g)
  (step:∀(j:Nat) (u:AV) (g1:G),j<S.nc cs->J j g1->g.nx+2<=g1.nx->SlR (λi=>g.nx+2<=i/\i<g1.nx) 0 g1.h (S.an cs j) u ->
   wp C0 d (some (g.nx+1)) ca (λe t1 df g1'=>e=.norm/\df=[]/\Fr g1 g1'/\∀g2:G,g2.nx=g1'.nx->(∀i,i≠g.nx+1->g2.h.get i=g1'.h.get i)->Up g.nx g1' g2 ->
    wp C0 d (some (g.nx+1)) cb (λe _ df g3=>df=[]/\RowQ g.nx g2 g3 e (J (j+1) g3) (E g3)) t1 [] g2)
    (eV (eV t p (.int .i64 (j:Int))) q u) [] g1)
  (fin:∀g',J (S.nc cs) g'->g.nx+2<=g'.nx->g'.h.get g.nx=.dfr true->Q .norm t (.mark g.nx::df) g')
  (finE:∀g',E g'->g.nx+2<=g'.nx->g'.h.get g.nx=.dfr true->Q .ret t (.mark g.nx::df) g') :
  wp C0 d none (.rng nt (.t r) [p,q] ca cb) Q t df g :=
 A1 hb hw hv hp hq J E (λj g1 g2 h=>hJ j g1 g2 h.1) (λg1 g2 h=>hE g1 g2 h.1) h0 (λj u g1 hj hJj hn=>step j u g1 hj hJj (by omega)) fin finE
def CbV (cs:List Int):VS:=λP k h v=>∃p,v=.clo N.an [] [p]/\Bj cs 1 P k h p
theorem N9 (cs:List Int):Snb (CbV cs) 2:=by
 refine ⟨λ{P k h v n} d r hn=>?_,λ{k h v n} r hn=>?_⟩
 ·obtain ⟨p,rfl,r1⟩:=r;obtain ⟨n,rfl⟩:∃q,n=q+2:=⟨n - 2,by omega⟩;obtain ⟨p',e1,r1'⟩:=uW (n:=n) d r1 (Nat.le_trans (show Rp.dp (List Int)<=20 by decide) (by omega));refine ⟨.clo N.an [] [p'],?_,p',rfl,r1'⟩;simp only[Hx.snap,aH] at e1 ⊢;rw[e1]
 ·obtain ⟨p,rfl,r1⟩:=r;obtain ⟨n,rfl⟩:∃q,n=q+2:=⟨n - 2,by omega⟩;obtain ⟨m1,e1,l1⟩:=xC (n:=n) r1;refine ⟨Nat.max m1 0,?_,by show max m1 0<=k;omega⟩;show fL (d_ (n+1)) [p]=_;simp only[fL,e1]
theorem xw {d:Nat}{g:G}{w:AV}{cs:List Int}(hd:0<d)(hw:SlR NoP 0 g.h cs w) :
  ∃z,ap C0 d N.am [w] g=.val (.clo N.an [] [.tptr 0 1 [[z]] 0 0])/\SlR NoP 0 .nil cs z:=by
 have key:∃r,ap C0 d N.am [w] g=.val r/\CbV cs NoP 0 .nil r:=by rw[oH];refine aW qY (xs:=[w]) (by simp only[aH,j5 d hw]) (by simp[fG]) (N9 cs) (by decide) hd ?_;simp only[sz,simprocAttr,fG,jj,Bs hw];refine ⟨λ_=>True,_,rfl,.inl ⟨0,[w],rfl,trivial,by simp[sx,H.get_put],?_⟩⟩;exact ⟨w,rfl,hw.wide (Nat.le_refl 0)⟩
 obtain ⟨r,hr,p,rfl,r1⟩:=key;rcases r1 with ⟨id,cs,rfl,hP,-⟩ | ⟨t,cs2,rfl,ht,r1⟩
 ·exact hP.elim
 obtain ⟨z,rfl,hz⟩:=eR.1 r1;have:t=0:=by omega
 subst this;exact ⟨z,hr,hz⟩
theorem uL {cs vs:List Int}{c v:Int}(h:cs.length=vs.length):S.ah (cs++[c]) (vs++[v])=S.ah cs vs*c+v:=by
 have h1:=t9 (cs++[c]) (vs++[v]) 0 (by simp[h]);have h2:=t9 cs vs 0 h;have h3:S.bP (cs++[c]) (vs++[v]) 0=S.bP cs vs 0*c+v:=by
  unfold S.bP;rw[List.zip_append h,List.foldl_append]
  rfl
 rw[Int.zero_mul,Int.zero_add] at h1 h2;rw[<-h1,h3,h2]
theorem bN {cs:List Int}(hc:∀c∈cs,1<=c/\c<=4)(hl:cs.length<=8)(j:Nat):S.af (cs.take j)<=65536:=by
 obtain ⟨-,h2⟩:=bB (l:=cs.take j) λc h=>hc c (List.mem_of_mem_take h);have h3:(4:Int) ^ (cs.take j).length<=4 ^ 8:=by
  have:(4:Nat) ^ (cs.take j).length<=4 ^ 8:=Nat.pow_le_pow_right (by decide) (by rw[List.length_take];omega)
  exact_mod_cast this
 have h4:(4:Int) ^ 8=65536:=by decide
 omega
theorem MN {d k2 i:Nat}{g:G}{P2:Nat->Prop}{v w:AV}{n:Net}{x:Node}{vals:List Int}(hd:0<d)(hv:SlR NoP 0 .nil n.nodes v)(hr:NR n)(hx:n.nodes[i]?=some x)(hw:SlR P2 k2 g.h vals w)(hin:InC (S.aa n) vals) :
  ap C0 d N.bF [v,.int .i64 (i:Int),w] g=.val (.int .i64 (S.ah (S.ae (S.aa n) x.parents) (S.ae vals x.parents))):=by
 obtain ⟨w',e2,hw'⟩:=bG hw d;have e1:=j5 (h:=g.h) d (hv.tree (h':=g.h) (Nat.le_refl 0));obtain ⟨rows,r1,r2,r3,r4⟩:=hv.all;have r1:∀h',ah h' 3 v=some rows:=r1;have hil:=(List.getElem?_eq_some_iff.1 hx).1;have hxm:=List.mem_of_getElem? hx;obtain ⟨row,q1,q2⟩:=r3 i x hx;obtain ⟨pa,ra,rfl,hpa,-⟩:=cp.1 q2;have hlt:i<rows.length:=by omega
 have hry:=r4 (by omega);have hl8:=hr.l2;have hvl:=hin.len;rw[aA] at hvl;have hpl:=bV (hr.places x hxm) (by omega);have hpin:=hr.pin hxm;have lpa:=hpa.len;have rpa:=λh=>(hpa.tree (h':=h) (Nat.le_refl 0)).ints;have rw':=λh=>(hw' h).ints;have hC:=dx hin hpin;have hb:=aM hr.cs hpin;have hll:(S.ae (S.aa n) x.parents).length=x.parents.length:=by simp[S.ae]
 have hlv:(S.ae vals x.parents).length=x.parents.length:=by simp[S.ae]
 rw[x9];refine jZ BF (xs:=[v,.int .i64 (i:Int),w']) (by simp only[aH,e1,e2,dy 0]) (by simp[se]) hd ?_;simp only[sz,simprocAttr,se,r1,hlt,q1,hry,lpa,sg];refine aK (m:=x.parents.length) (by omega) (λj t df g=>df=[]/\St t [(0,v),(2,w'),(14,pa),(7,.int .i64 (S.ah ((S.ae (S.aa n) x.parents).take j) ((S.ae vals x.parents).take j)))]) ⟨rfl,by simp[St,sx,S.ah]⟩ (by simp[sx]) (by simp[sx]) (by decide)
  (by rintro j t df g v s (rfl | rfl | rfl)<;>simp[sx,St]) ?_ ?_
 ·rintro j t df g hj ⟨rfl,h0,h2,h14,h7,-⟩ h16 h15;obtain ⟨p,hp,-,hpm⟩:=ae hj;obtain ⟨p0,p1⟩:=hpin p hpm;rw[aA] at p1;obtain ⟨pn,rfl⟩:=Int.eq_ofNat_of_zero_le p0;have hpn:pn<n.nodes.length:=by omega
  obtain ⟨y,hy,-,hym⟩:=ae (l:=n.nodes) (j:=pn) hpn;obtain ⟨row2,s1,s2⟩:=r3 pn y hy;obtain ⟨pa2,ra2,rfl,-,-⟩:=cp.1 s2;have hlt2:pn<rows.length:=by omega
  obtain ⟨z,hz,-,-⟩:=ae (l:=vals) (j:=pn) (by omega);have a1:j<(x.parents.map ci).length:=by simpa using hj
  have a2:(x.parents.map ci)[j]?=some (ci (pn:Int)):=by rw[List.getElem?_map,hp];rfl
  have b1:pn<(vals.map ci).length:=by rw[List.length_map];omega
  have b2:(vals.map ci)[pn]?=some (ci z):=by rw[List.getElem?_map,hz];rfl
  have c1:(S.ae (S.aa n) x.parents).take (j+1)=(S.ae (S.aa n) x.parents).take j++[y.card]:=by
   rw[List.take_succ_eq_append_getElem (by omega)];congr 1;simp only[S.ae,List.getElem_map];have:x.parents[j]=(pn:Int):=by rw[List.getElem?_eq_getElem hj] at hp;injection hp
   rw[this];simp[S.aa,hy]
  have c2:(S.ae vals x.parents).take (j+1)=(S.ae vals x.parents).take j++[z]:=by
   rw[List.take_succ_eq_append_getElem (by omega)];congr 1;simp only[S.ae,List.getElem_map];have:x.parents[j]=(pn:Int):=by rw[List.getElem?_eq_getElem hj] at hp;injection hp
   rw[this];simp[hz]
  have hsn:S.ah ((S.ae (S.aa n) x.parents).take (j+1)) ((S.ae vals x.parents).take (j+1))=S.ah ((S.ae (S.aa n) x.parents).take j) ((S.ae vals x.parents).take j)*y.card+z:=by rw[c1,c2];exact uL (by simp[hll,hlv])
  have i1:=bE (λc h=>hb c (List.mem_of_mem_take h)) (hC.take j);have i2:=bE (λc h=>hb c (List.mem_of_mem_take h)) (hC.take (j+1));have p1:=bN hb (by rw[hll];omega) j;have p2:=bN hb (by rw[hll];omega) (j+1);rw[hsn] at i2 ⊢;have hyc:=hr.card y hym;obtain ⟨A,hA⟩:∃A,A=S.ah ((S.ae (S.aa n) x.parents).take j) ((S.ae vals x.parents).take j):=⟨_,rfl⟩;rw[<-hA] at h7 i1 i2 ⊢;have hm0:0<=A*y.card:=Int.mul_nonneg i1.1 (by omega);have hm1:A*y.card<=65536*4:=Int.mul_le_mul (by omega) (by omega) (by omega) (by omega);have w1:IntKind.wrap .i64 (A*y.card)=A*y.card:=aq (by omega) (by omega);have w2:IntKind.wrap .i64 (A*y.card+z)=A*y.card+z:=aq (by omega) (by omega);simp only[sz,simprocAttr,h0,h2,h14,h7,h16,rpa,a1,a2,ci,r1,hlt2,s1,hry,rw',b1,b2,w1,w2];simp[St,sx,h0,h2,h14,h15,h16]
 ·rintro t df g ⟨rfl,h0,h2,h14,h7,-⟩;rw[List.take_of_length_le (by omega),List.take_of_length_le (by omega)] at h7;simp only[sz,simprocAttr,si,h7]
theorem NM {g:G}{n:Nat}{K:AV->G->Prop}{D:ADf->Prop}(hn:n<=65536)(k:∀g',g'.h.get g.nx=.cells 1 ((List.replicate n 0).map ci) 0 false false->g'.nx=g.nx+1->Up g.nx g g'->K (.hsl g.nx 0 0 0 none) g') :
  (y5 1 8 [.int .i64 0] (.int .i64 0) (.int .i64 (n:Int)) g).sat K g D:=by
 have h1:n<=aP:=by unfold aP;omega
 have h2:n*8<=aP:=by unfold aP;omega
 have key:y5 1 8 [.int .i64 0] (.int .i64 0) (.int .i64 (n:Int)) g=.upd (.hsl g.nx 0 0 0 none) (g.new (.cells 1 (eU n [.int .i64 0]) 0 false false)):=by
  show (match b_ aP (.int .i64 (.ofNat n)) with
   | some cn=>match b_ cn (.int .i64 0) with
    | some ln=>au (Nat.ble (cn*8) aP) (OR.upd (.hsl g.nx 0 0 ln none) (g.new (.cells 1 (eU cn [.int .i64 0]) 0 false false))) .fail
    | none=>.fail
   | none=>.fail)=_
  have a1:b_ aP (.int .i64 (.ofNat n))=some n:=by show au (Nat.ble n aP) (some n) none=_;rw[aa,if_pos (by simpa using h1)]
  have a2:b_ n (.int .i64 0)=some 0:=by show au (Nat.ble 0 n) (some 0) none=_;rw[aa,if_pos (by simp)]
  rw[a1];dsimp only;rw[a2];dsimp only;rw[aa,if_pos (by simpa using h2)]
 rw[key];refine k _ ?_ (by simp) (Up.new (Nat.le_refl _) _);simp[aO,eU,ci]
theorem Hl {g:G}{id:Nat}{l tl:List Int}{x y:Int}{w:AV}{K:AV->G->Prop}{D:ADf->Prop}(hv:g.h.get id=.cells 1 (l.map ci++(y::tl).map ci) 0 false false)(hx:ah g.h 1 w=some [ci x])(hr:l.length<=65536)
  (k:K (.hsl id 0 0 (l++[x]).length none) (g.put id (.cells 1 ((l++[x]).map ci++tl.map ci) 0 false false))):(cP 1 8 (.hsl id 0 0 l.length none) w g).sat K g D:=by
 unfold cP;rw[hx];simp only[bi,G.get_eq,hv,ax,aa,Nat.beq_refl,Bool.true_and,Nat.ble_eq,Bool.and_eq_true,Nat.zero_add,Option.getD_none,Nat.sub_zero,List.length_append,List.length_map,List.length_cons,List.length_nil];rw[if_pos ⟨by omega,by unfold aP;omega⟩,if_pos (by omega)];have hnb:jn false=true:=rfl;rw[if_pos ⟨by omega,hnb⟩];have e:jq (l.map ci++(y::tl).map ci) l.length [ci x]=(l++[x]).map ci++tl.map ci:=by simp only[jq,gX];rw[List.map_append,List.append_assoc,List.map_cons,List.set_append_right _ _ (by simp)];simp
 rw[e];have e3:l.length+1=(l++[x]).length:=by simp
 rw[e3];exact k
def S.wt (n:Net)(w:Nat):Int:=S.aX n (S.an (S.aa n) (w:Int))
def S.aC (n:Net)(j:Nat):List Int:=(List.range j).map (S.wt n)
theorem Li (n:Net)(j:Nat):S.aC n (j+1)=S.aC n j++[S.wt n j]:=by simp[S.aC,List.range_succ]
theorem Hg (n:Net)(j:Nat):(S.aC n j).length=j:=by simp[S.aC]
def LWt (B:Nat):List (Nat×AV):=[(1,.hptr B 0 0 0),(4,.hptr (B+2) 0 0 0)]
theorem FG {d B:Nat}{n:Net}{b u:AV}{vals:List Int}{P:Nat->Prop}{rd:Option Nat}{Q:QT}{t:T}{g:G}(hd:0<d)(hr:NR n)(hN:SlR NoP 0 .nil n.nodes b)(hin:InC (S.aa n) vals)(hu:SlR P 0 g.h vals u)(hP:∀i,P i->i<g.nx)(hB:B<g.nx)
  (gB:g.h.get B=.cells 2 [[.int .i64 n.grain,b]] 0 false false)
  (ht:St t ((6,u)::(21,b)::LWt B)) (h7:tat t 7=.int .i64 1) (h23:tat t 23=.int .i64 0) (h22:tat t 22=.int .i64 (n.nodes.length:Int))
  (fin:∀t g',St t ((7,.int .i64 (S.aX n vals))::(6,u)::LWt B)->Fr g g'->Up g.nx g g'->Q (.exit 2) t [] g'):wpL (wp C0 d rd g_) Q t [] g:=by
 obtain ⟨rows,r1,r2,r3,r4⟩:=hN.all;have r1:∀h',ah h' 3 b=some rows:=r1;have hl8:=hr.l2;have hvl:=hin.len;rw[aA] at hvl;simp only[g_];refine aK (m:=n.nodes.length) (by omega) (λk t df g'=>df=[]/\St t ((7,.int .i64 (S.af ((List.range k).map (S.aD n vals))))::(6,u)::(21,b)::LWt B)/\Fr g g'/\Up g.nx g g') ⟨rfl,by
   obtain ⟨h6,h21,h1,h4,-⟩:=ht;simp[St,LWt,h1,h4,h6,h7,h21,S.af],Fr.refl _,Up.refl _ _⟩ h23 h22 (by decide)
  (by rintro j t df g v s (rfl | rfl | rfl) ⟨a1,⟨b1,b2,b3,b4,b5,-⟩,c1,c2⟩<;>exact ⟨a1,by simp[St,LWt,sx,b1,b2,b3,b4,b5],c1,c2⟩) ?_ ?_
 ·rintro k t df g1 hk ⟨rfl,⟨h7,h6,h21,h1,h4,-⟩,hF,hU⟩ h23 h22;obtain ⟨x,hx,-,-⟩:=ae hk;obtain ⟨row,q1,q2⟩:=r3 k x hx;obtain ⟨pa,ra,rfl,hpa,hra⟩:=cp.1 q2;obtain ⟨i,r,c,y,i1,i2,i3,i4,i5,i6,i7,i8,i9⟩:=yH hr hin hx;obtain ⟨cn,rfl⟩:=Int.eq_ofNat_of_zero_le i5;rw[Int.toNat_natCast] at i7;obtain ⟨rr,s1,s2,s3,s4⟩:=B8 hra;obtain ⟨z,t1,t2,hz⟩:=s3 i r i3;have hlt:k<rows.length:=by omega
  have hry:=r4 (by omega);have hry2:=s4 (by omega);have hu1:∀g2:G,Fr g1 g2->SlR P 0 g2.h vals u:=λg2 hF2=>hu.far8 λi hi=>by have:=hP i hi;rw[hF2.2 i (Nat.lt_of_lt_of_le this hF.1),hF.2 i this]
  have hB1:B<g1.nx:=Nat.lt_of_lt_of_le hB hF.1;have gB1:g1.h.get B=.cells 2 [[.int .i64 n.grain,b]] 0 false false:=by rw[hF.2 B hB,gB]
  have rz:=λh=>(hz.tree (h':=h) (Nat.le_refl 0)).ints;have u1:k<(vals.map ci).length:=by rw[List.length_map];exact (List.getElem?_eq_some_iff.1 i4).1
  have u2:(vals.map ci)[k]?=some (ci (cn:Int)):=by rw[List.getElem?_map,i4];rfl
  have v1:cn<(r.map ci).length:=by rw[List.length_map];exact (List.getElem?_eq_some_iff.1 i7).1
  have v2:(r.map ci)[cn]?=some (ci y):=by rw[List.getElem?_map,i7];rfl
  have wb:=ox hr hin (j:=k+1) (by omega);have ws:=zI n vals k;rw[i8] at ws;have w1:IntKind.wrap .i64 (S.af ((List.range k).map (S.aD n vals))*y)=S.af ((List.range (k+1)).map (S.aD n vals)):=by rw[<-ws,aq (by omega) (by omega)]
  refine di (P:=λt' df g'=>df=[]/\g'=(g1.new (.cells 3 [[.int .i64 0,.nils,.nils]] 0 false false)).put g1.nx (.cells 3 [[.int .i64 x.card,pa,ra]] 0 false false)/\St t' ((9,.hptr g1.nx 0 0 0)::(8,.int .i64 (k:Int))::(23,.int .i64 (k:Int))::(22,.int .i64 (n.nodes.length:Int))::(7,.int .i64 (S.af ((List.range k).map (S.aD n vals))))::(6,u)::(21,b)::LWt B)) ?_ ?_
  ·have fw:dV [.int .i64 0,.nils,.nils] [((0,3),.agg [.int .i64 x.card,pa,ra])]=some [.int .i64 x.card,pa,ra]:=rfl;simp only[sz,simprocAttr,h23,h21,r1,hlt,q1,hry];simp[St,LWt,sx,h1,h4,h6,h7,h21,h22,h23]
  clear h1 h4 h6 h7 h21 h22 h23;rintro t df g2 ⟨rfl,hg2,h9,h8,h23,h22,h7,h6,h21,h1,h4,-⟩;have hF2:Fr g1 g2:=by rw[hg2];exact ⟨by simp,λi hi=>by simp[H.get_put,show ¬i=g1.nx by omega]⟩
  have hU2:Up g.nx g1 g2:=by rw[hg2];exact (Up.new hF.1 _).trans (Up.put hF.1 _)
  have g9:g2.h.get g1.nx=.cells 3 [[.int .i64 x.card,pa,ra]] 0 false false:=by rw[hg2];simp[H.get_put]
  have gB2:g2.h.get B=.cells 2 [[.int .i64 n.grain,b]] 0 false false:=by rw[hF2.2 B hB1,gB1]
  have kr:=MN (d:=d) (i:=k) (g:=aN g2 []) (P2:=P) (k2:=0) (v:=b) (w:=u) (x:=x) (vals:=vals) hd hN hr hx (by simpa using hu1 g2 hF2) hin;rw[i1] at kr;have ru:=(hu1 g2 hF2).ints;simp only[sz,simprocAttr,h7,h9,g9,h1,gB2,h8,h6,kr,s1,t1,t2,hry2,ru,u1,u2,ci,rz,v1,v2,w1];exact ⟨⟨by simp[St,LWt,sx,h1,h4,h6,h21],hF.trans hF2,hU.trans hU2⟩,h23,h22⟩
 ·rintro t df g' ⟨rfl,⟨h7,h6,h21,h1,h4,-⟩,hF,hU⟩;exact fin t g' ⟨h7,h6,h1,h4,trivial⟩ hF hU
theorem FH {d:Nat}{g:G}{n:Net}{v:AV}{K:AV->G->Prop}{D:ADf->Prop}(hd:0<d)(hr:NR n)(hm:Agg n NoP 0 .nil v)
  (kk:∀g',g'.h.get (g.nx+1)=.cells 1 ((S.aC n (S.am n)).map ci) 0 false false->g.nx+2<=g'.nx->Fr g g'->Up g.nx g g'->K (.hsl (g.nx+1) 0 0 (S.am n) none) g') :
  (ap C0 d N.aW [v] g).sat K g D:=by
 obtain ⟨cs,rfl,hc⟩:=hm;obtain ⟨b,rfl,hN⟩:=ib.1 hc;have hl8:=hr.l2;obtain ⟨W1,W2,W3⟩:=hr.wl;have hcs:CsOk (S.aa n):=⟨hr.cs,by rw[aA];omega⟩;have hnc:S.nc (S.aa n)=S.am n:=rfl;obtain ⟨B,hB⟩:∃B,B=g.nx:=⟨_,rfl⟩;have hrow:∀h,SlR NoP 0 h n.nodes b:=λh=>hN.tree (Nat.le_refl 0);have lb:∀g:G,dv .slice b g=.val (.int .i64 (n.nodes.length:Int)):=λg=>(hrow .nil).len g;rw[tM];refine xx we (by simp[kX]) ?_;simp only[sz,simprocAttr,kX];unfold nm;refine di (P:=λt' df g'=>df=[]/\g'=g.new (.cells 2 [[.int .i64 n.grain,b]] 0 false false)/\∃rc,IT 0 (S.aa n) rc/\St t' [(1,.hptr B 0 0 0),(3,rc)]) ?_ ?_
 ·simp only[sz,simprocAttr,<-hB];refine bH (wA hd (hrow _) (by omega)) λrc hrc=>?_;simp only[sz,simprocAttr];exact ⟨rc,hrc,by simp[St,sx,B4]⟩
 rintro t df g1 ⟨rfl,hg1,rc,hrc,h1,h3,-⟩;have k1:=Ej (d:=d) (g:=g1) hd (hrc.sl g1.h);rw[wn hr.cs (by rw[aA];omega),<-W3] at k1;have n1:g1.nx=B+1:=by rw[hg1,hB];simp
 have gB:g1.h.get B=.cells 2 [[.int .i64 n.grain,b]] 0 false false:=by rw[hg1,hB];simp[H.get_put]
 have F1:Fr g g1:=by rw[hg1];exact Fr.new _ _
 have U1:Up B g g1:=by rw[hg1];exact Up.new (by omega) _
 clear hg1;refine di (P:=λt' df g'=>df=[]/\g'.nx=B+3/\g'.h.get B=.cells 2 [[.int .i64 n.grain,b]] 0 false false/\g'.h.get (B+1)=.cells 1 ((List.replicate (S.am n) 0).map ci) 0 false false/\g'.h.get (B+2)=.cells 1 [[.hsl (B+1) 0 0 0 none]] 0 false false/\Fr g g'/\Up B g g'/\St t' [(1,.hptr B 0 0 0),(3,rc),(4,.hptr (B+2) 0 0 0)]) ?_ ?_
 ·simp only[sz,simprocAttr,h3,k1];refine NM (by omega) λg2 m2 n2 u2=>?_;rw[n1] at m2 n2 u2 ⊢;simp only[sz,simprocAttr,n2];refine ⟨?_,?_,?_,?_,by simp[St,sx,h1,h3]⟩
  ·rw[if_neg (by omega),if_neg (by omega),u2.1 B (by omega),gB]
  ·rw[if_neg (by omega),if_neg (by omega),m2]
  ·exact ⟨by have:=F1.1;simp[n2];omega,λi hi=>by
    have:=F1.2 i hi;simp[H.get_put,show ¬i=B+1+1 by omega,show ¬i=g2.nx by omega,u2.1 i (by omega),this]⟩
  ·exact (U1.trans (u2.mono (by omega))).trans ((Up.new (by omega) _).trans (Up.put (by omega) _))
 clear h1 h3 k1 n1 gB F1 U1;rintro t df g2 ⟨rfl,n2,gB,gA,gS,F2,U2,h1,h3,h4,-⟩;obtain ⟨z,kz,hz⟩:=xw (d:=d) (g:=g2) (w:=rc) (cs:=S.aa n) hd (hrc.sl g2.h);rw[cj,cj];simp only[sz,simprocAttr,h3,kz];refine zq (cs:=S.aa n) (w:=z) hcs hz (by simp[sx]) (by decide) (by decide)
  (λj g'=>g'.h.get B=.cells 2 [[.int .i64 n.grain,b]] 0 false false/\g'.h.get (B+1)=.cells 1 ((S.aC n j).map ci++(List.replicate (S.am n - j) 0).map ci) 0 false false/\g'.h.get (B+2)=.cells 1 [[.hsl (B+1) 0 0 (S.aC n j).length none]] 0 false false/\(∀i,i<B->g'.h.get i=g.h.get i)/\Up B g g')
  (λ_=>False) ?_ (λ_ _ _ h=>h) ?_ ?_ ?_ (λ_ h=>h.elim)
 ·rintro j g3 g4 hU ⟨a1,a2,a3,a4,a5⟩;rw[n2] at hU;exact ⟨by rw[hU.1 _ (by omega),a1],by rw[hU.1 _ (by omega),a2],by rw[hU.1 _ (by omega),a3],λi hi=>by rw[hU.1 i (by omega),a4 i hi],a5.trans (hU.mono (by omega))⟩
 ·exact ⟨gB,by simpa [S.aC] using gA,by simpa [S.aC] using gS,λi hi=>F2.2 i (by omega),U2⟩
 ·rintro j u g3 hj ⟨a1,a2,a3,a4,a5⟩ hn3 hu;rw[n2] at hn3 hu;simp only[sz,simprocAttr,mr];refine ⟨Fr.refl _,λg4 n4 f4 u4=>?_⟩;rw[n2] at f4 u4;have hin:=ea (λc hc=>(hr.cs c hc).1) (j:Int);have b1:g4.h.get B=.cells 2 [[.int .i64 n.grain,b]] 0 false false:=by rw[f4 _ (by omega),a1]
  have b2:g4.h.get (B+1)=.cells 1 ((S.aC n j).map ci++(List.replicate (S.am n - j) 0).map ci) 0 false false:=by rw[f4 _ (by omega),a2]
  have b3:g4.h.get (B+2)=.cells 1 [[.hsl (B+1) 0 0 (S.aC n j).length none]] 0 false false:=by rw[f4 _ (by omega),a3]
  have hu4:SlR (λi=>B+3+2<=i/\i<g3.nx) 0 g4.h (S.an (S.aa n) (j:Int)) u:=hu.far8 λi hi=>f4 i (by omega);rw[hnc] at hj;simp only[sz,simprocAttr,mu,h1,b1,lb];refine FG (n:=n) (b:=b) (u:=u) (B:=B) hd hr hN hin hu4 (λi hi=>by omega) (by omega) b1 (by simp[St,LWt,sx,h1,h4]) (by simp[sx]) (by simp[sx]) (by simp[sx]) ?_;rintro t5 g5 ⟨h7,-,h1',h4',-⟩ F5 U5;have c3:g5.h.get (B+2)=.cells 1 [[.hsl (B+1) 0 0 (S.aC n j).length none]] 0 false false:=by rw[F5.2 _ (by omega),b3]
  have c2:g5.h.get (B+1)=.cells 1 ((S.aC n j).map ci++((0:Int)::List.replicate (S.am n - (j+1)) 0).map ci) 0 false false:=by rw[F5.2 _ (by omega),b2,show S.am n - j=(S.am n - (j+1))+1 by omega,List.replicate_succ]
  simp only[sz,simprocAttr,my,h4',c3,h7];have hl5:B+2<g5.nx:=Nat.lt_of_lt_of_le (by omega) F5.1;refine Hl (x:=S.wt n j) (g:=g5.new (.cells 1 [[.int .i64 (S.wt n j)]] 0 false false)) (l:=S.aC n j) (y:=0) (tl:=List.replicate (S.am n - (j+1)) 0) ?_ ?_ (by rw[Hg];omega) ?_
  ·rw[G.new_h,aw _ _ _ (by omega),c2]
  ·simp only[ah,G.new_h,aO,ci];rfl
  rw[<-Li];have c6:((g5.new (.cells 1 [[.int .i64 (S.wt n j)]] 0 false false)).put (B+1) (.cells 1 ((S.aC n (j+1)).map ci++(List.replicate (S.am n - (j+1)) 0).map ci) 0 false false)).h.get (B+2)=.cells 1 [[.hsl (B+1) 0 0 (S.aC n j).length none]] 0 false false:=by rw[G.put_h,aw _ _ _ (by omega),G.new_h,aw _ _ _ (by omega),c3]
  have d1:Up B g5 ((g5.new (.cells 1 [[.int .i64 (S.wt n j)]] 0 false false)).put (B+1) (.cells 1 ((S.aC n (j+1)).map ci++(List.replicate (S.am n - (j+1)) 0).map ci) 0 false false)):=(Up.new (by omega) _).trans (Up.put (by omega) _);have d2:∀i,B+3<=i->i<g5.nx->((g5.new (.cells 1 [[.int .i64 (S.wt n j)]] 0 false false)).put (B+1) (.cells 1 ((S.aC n (j+1)).map ci++(List.replicate (S.am n - (j+1)) 0).map ci) 0 false false)).h.get i=g5.h.get i:=λi h1 h2=>by rw[G.put_h,aw _ _ _ (by omega),G.new_h,aw _ _ _ (by omega)]
  have d3:((g5.new (.cells 1 [[.int .i64 (S.wt n j)]] 0 false false)).put (B+1) (.cells 1 ((S.aC n (j+1)).map ci++(List.replicate (S.am n - (j+1)) 0).map ci) 0 false false)).nx=g5.nx+1:=by simp
  have d4:((g5.new (.cells 1 [[.int .i64 (S.wt n j)]] 0 false false)).put (B+1) (.cells 1 ((S.aC n (j+1)).map ci++(List.replicate (S.am n - (j+1)) 0).map ci) 0 false false)).h.get (B+1)=.cells 1 ((S.aC n (j+1)).map ci++(List.replicate (S.am n - (j+1)) 0).map ci) 0 false false:=by rw[G.put_h,aO]
  have d5:((g5.new (.cells 1 [[.int .i64 (S.wt n j)]] 0 false false)).put (B+1) (.cells 1 ((S.aC n (j+1)).map ci++(List.replicate (S.am n - (j+1)) 0).map ci) 0 false false)).h.get B=g5.h.get B:=by rw[G.put_h,aw _ _ _ (by omega),G.new_h,aw _ _ _ (by omega)]
  generalize (g5.new (.cells 1 [[.int .i64 (S.wt n j)]] 0 false false)).put (B+1) (.cells 1 ((S.aC n (j+1)).map ci++(List.replicate (S.am n - (j+1)) 0).map ci) 0 false false)=g6 at c6 d1 d2 d3 d4 d5 ⊢;simp only[sz,simprocAttr,h4',c6];have hl4:g4.nx<=g5.nx:=F5.1;refine ⟨by simp[d3];omega,λi h1 h2=>?_,.inl ⟨rfl,?_,?_,λi hi=>?_,?_⟩⟩
  ·rw[n2] at h1;rw[G.put_h,aw _ _ _ (by omega),d2 i h1 (by omega),F5.2 i h2]
  ·rw[if_neg (by omega),d5,F5.2 B (by omega),b1]
  ·rw[if_neg (by omega),d4]
  ·rw[if_neg (by omega),d1.1 i hi,F5.2 i (by omega),f4 i (by omega),a4 i hi]
  ·exact ((a5.trans (u4.mono (by omega))).trans (U5.mono (by omega))).trans (d1.trans (Up.put (by omega) _))
 ·rintro g' ⟨a1,a2,a3,a4,a5⟩ hn hdf;rw[hnc,Nat.sub_self] at a2;rw[hnc,Hg] at a3;simp only[sz,simprocAttr,mz,h4,a3];refine ij hdf ?_;simp only[sx,↓reduceIte];rw[hB];have e1:∀i,i<B+3->(g'.put g2.nx (.dfr false)).h.get i=g'.h.get i:=λi hi=>by rw[G.put_h,aw _ _ _ (by omega)]
  refine kk _ ?_ (by simp;omega) ⟨by simp;omega,λi hi=>?_⟩ (by rw[<-hB];exact a5.trans (Up.put (by omega) _))
  ·rw[<-hB,e1 _ (by omega),a2];simp
  ·rw[e1 i (by omega),a4 i (by omega)]
theorem yG {n:Net}{e:List Int}(h:S.aI n e=true):e.length=n.nodes.length/\∀x∈e,-1<=x:=by simp only[S.aI,Bool.and_eq_true,decide_eq_true_eq,List.all_eq_true] at h;refine ⟨h.1,λx hx=>?_⟩;obtain ⟨i,hi,he⟩:=List.mem_iff_getElem.1 hx;have:=(h.2 i (List.mem_range.2 hi)).1;rw[List.getElem?_eq_getElem hi,he] at this;exact this
def S.pe (n:Net)(e:List Int)(w:Nat):Bool:=S.bL (S.an (S.aa n) (w:Int)) e
theorem J9 (n:Net)(e:List Int):S.aT n e=S.au n (S.pe n e) (S.am n):=rfl
theorem qr {n:Net}(h:NR n){p:Nat->Bool}{j:Nat}(hj:j<=1024):0<=S.au n p j/\S.au n p j<=171992678400000000:=by have:=uj h p j;omega
theorem Jm (g:G)(o o':AObj):Fr g ((g.new o).put g.nx o'):=⟨by simp,λi hi=>by simp[H.get_put,show ¬i=g.nx by omega]⟩
theorem L4 {d kk:Nat}{g:G}{v w:AV}{n:Net}{y:QnM}{e:List Int}(hd:0<d)(hr:NR n)(hm:Agg y NoP 0 g.h v)(hq:QnOk n y)(he:SlR NoP kk g.h e w)(hev:S.aI n e=true)(hk:kk<=d:=by omega) :
  ap C0 d N.bc [v,w] g=.val (.int .i64 (S.aT n e)):=by
 have e0:=j7 d hm;have ew:=j5 d he;obtain ⟨cs,rfl,hcs⟩:=hm;obtain ⟨b,fl,S_,rfl,-,-,-⟩:=tE.1 hcs;obtain ⟨el,ege⟩:=yG hev;obtain ⟨W1,W2,W3⟩:=hr.wl;rw[nB];refine jZ pS (xs:=[.agg [.int .i64 y.1.grain,b,fl,S_],w]) (by simp only[aH,e0,ew]) (by simp[eK]) hd ?_;simp only[sz,simprocAttr,eK];unfold io;refine gx (P:=λt' df g'=>df=[]/\g'.nx=2/\g'.h.get 0=.cells 4 [[.int .i64 y.1.grain,b,fl,S_]] 0 false false/\g'.h.get 1=.cells 1 [[.int .i64 0]] 0 false false/\St t' [(1,w),(2,.hptr 0 0 0 0),(5,.hptr 1 0 0 0)]) ?_ ?_
 ·simp only[sz,simprocAttr];simp[St,sx]
 rintro t df g0 ⟨rfl,f2,f0,f1,h1,h2,h5,-⟩;obtain ⟨cs,z,t1,t2,ez,hcs',hz⟩:=wI (d:=d+1) (g:=g0) (y:=y) (e:=e) (v:=.agg [.int .i64 y.1.grain,b,fl,S_]) (w:=w) (Nat.succ_pos d) ⟨_,rfl,Rp.tree hcs (Nat.le_refl _)⟩ (he.tree (Nat.le_refl _));rw[cj,cj];simp only[sz,simprocAttr,h1,h2,f0,ez];refine A2 (t1:=t1) (t2:=t2) (n:=n) (y:=y) (e:=e) (cs:=cs) (w:=z) (Nat.succ_pos d) hr hq hcs' hz (by omega) (by simp[sx]) (by decide)
  (λj h=>h.get 1=.cells 1 [[.int .i64 (S.au n (S.pe n e) j)]] 0 false false) (λ_=>False) (λj h h' hh h1=>by rw[hh 1 (by omega),h1]) (λ_ _ _ h=>h) f1 ?_ ?_ ?_ (λ_ h=>h.elim)
 ·intro j h hj hmt h1;have hp:S.pe n e j=false:=by rw[S.pe,<-Gs ege];exact hmt
  rw[h1,S.au,hp];simp
 ·intro j u g1 hj hmt h1 hn hu;have hp:S.pe n e j=true:=by rw[S.pe,<-Gs ege];exact hmt
  have hb:=qr hr (p:=S.pe n e) (j:=j+1) (by omega);have hs:S.au n (S.pe n e) (j+1)=S.au n (S.pe n e) j+S.aX n (S.an (S.aa n) (j:Int)):=by rw[S.au,hp];simp
  have w1:IntKind.wrap .i64 (S.au n (S.pe n e) j+S.aX n (S.an (S.aa n) (j:Int)))=S.au n (S.pe n e) (j+1):=by rw[<-hs,aq (by omega) (by omega)]
  simp only[sz,simprocAttr,gG];refine ⟨Jm _ _ _,?_⟩;intro g2 n2 f2';have k6:g2.h.get g1.nx=.cells 3 [[.int .i64 (j:Int),.int .i64 (S.aX n (S.an (S.aa n) (j:Int))),u]] 0 false false:=by rw[f2' _ (by omega),if_pos rfl]
  have k1:g2.h.get 1=.cells 1 [[.int .i64 (S.au n (S.pe n e) j)]] 0 false false:=by rw[f2' 1 (by omega),if_neg (by omega),if_neg (by omega),h1]
  simp only[sz,simprocAttr,gH,h5,k1,k6,w1];exact ⟨by simp,λi h1 h2=>by simp[H.get_put,show ¬i=1 by omega],.inl ⟨rfl,by simp[H.get_put]⟩⟩
 ·intro g' h1 hn hdf;simp only[sz,simprocAttr,gI,h5,h1];refine ij hdf ?_;simp only[sx,↓reduceIte];rw[J9]
theorem KA {k:Nat}{l:List Int}{v:AV}{h:H}(hl:SlR NoP k .nil l v):Rp.rp (λ_=>True) k h l [v]:=by obtain ⟨w,hw,q⟩:=Rp.tree (P:=λ_=>True) (k':=k) (h':=h) (show Rp.rp NoP k .nil l [v] from ⟨v,rfl,hl⟩) (Nat.le_refl _);exact ⟨w,hw,q⟩
theorem OG {a:List Int}{va:AV}{q k:Nat}{h:H}(ha:SlR NoP k .nil a va)(hq:h.get q=.cells 1 [[va]] 0 false false):SlR (λ_=>True) k h [a] (.hsl q 0 0 1 none):=by refine ⟨by show 1<_;decide,trivial,[[va]],?_,KA ha,trivial⟩;show ah h 1 _=_;simp only[ah,hq];rfl
theorem xN {n:Net}{ls:List (List Int)}{P:Nat->Prop}{k:Nat}{h:H}{v:AV}(hv:Lj n ls P k h v) :
  ∃y cs,v=.tup [.agg cs,.int .i64 (S.ba n ls)]/\(S.ba n ls=0->QnOk n y)/\Rp.rp P k h y cs/\∃a1 a2 a3 a4,cs=[a1,a2,a3,a4]:=by
 obtain ⟨y,hy,a,c,rfl,⟨cs,rfl,hc⟩,hi⟩:=hv;have hi:=aF.1 hi;injection hi with hi;subst hi;obtain ⟨a2,a3,a4,rfl,-⟩:=tE.1 hc;exact ⟨y,_,rfl,hy,hc,_,_,_,_,rfl⟩
theorem wM (n:Net)(e:List Int):S.ba n [e]=S.ay n e:=by rw[S.ba,S.ay];simp
theorem iH {n:Net}{e:List Int}:S.ay n e=0↔S.aP n=true/\S.aI n e=true:=by rw[S.ay];cases S.aP n<;>cases S.aI n e<;>simp
def S.bE (n:Net)(e:List Int):Int:=if S.ay n e=0 then S.aT n e else 0
theorem JO {d k0:Nat}{P:Nat->Prop}{g:G}{v w0:AV}{n:Net}{e:List Int}(hd:0<d)(hm:Agg n NoP 0 g.h v)(he:SlR P k0 g.h e w0)(hk:k0<=d:=by omega) :
  ap C0 d N.aK [v,w0] g=.val (.tup [.int .i64 (S.bE n e),.int .i64 (S.ay n e)]):=by
 have key:∃r,ap C0 d N.aK [v,w0] g=.val r/\tG (One (S.bE n e)) (One (S.ay n e)) NoP 0 .nil r:=by
  obtain ⟨b,rows,rfl,e1,hm',hN,r1,r2,r3,r4⟩:=kw d hm;obtain ⟨w,ew,hw⟩:=bG he d;rw[Nat.max_eq_right hk] at hw;have hw:=hw .nil;rw[wW];refine aW zT (xs:=[.agg [.int .i64 n.grain,b],w]) (by simp only[aH,e1,ew]) (by simp[pU]) (dk (m:=1) (aR _) (aR _) (by decide) (by decide)) (by decide) hd ?_;simp only[sz,simprocAttr,pU,rE,hw.cell.1,hw.cell.2];refine bH (IJ (n:=n) (ls:=[e]) (Nat.succ_pos d) (hm' _) (OG hw (by simp[sx]))) λz hz=>?_;obtain ⟨y,cs,rfl,hy,hc,a1,a2,a3,a4,rfl⟩:=xN hz;rw[wM] at hy ⊢
  by_cases h0:S.ay n e=0
  ·have hyo:=hy h0;obtain ⟨h1,h2⟩:=iH.1 h0;have hr:=dw.1 h1;have hj:S.bE n e=S.aT n e:=by rw[S.bE,if_pos h0]
   simp only[sz,simprocAttr,h0];rw[L4 (y:=y) (n:=n) (e:=e) (Nat.succ_pos d) hr ⟨_,rfl,Rp.tree hc (Nat.le_refl _)⟩ hyo (hw.tree (Nat.le_refl _)) h2];simp only[sz,simprocAttr];rw[hj];exact ⟨λ_=>True,_,_,rfl,aF.2 rfl,aF.2 rfl⟩
  ·have hj:S.bE n e=0:=by rw[S.bE,if_neg h0]
   simp only[sz,simprocAttr,h0];rw[hj];exact ⟨λ_=>True,_,_,rfl,aF.2 rfl,aF.2 rfl⟩
 obtain ⟨r,hr,a,c,rfl,ha,hc⟩:=key;have ha:=aF.1 ha;have hc:=aF.1 hc;injection ha with ha;injection hc with hc;rw[hr,ha,hc]
theorem EP {A:PT}{t:T}{df:List ADf}{g:G}(p:T->G->Prop)(hp:p t g)(h:∀t1 g1,p t1 g1->A t1 df g1):A t df g:=h t g hp
structure GvJ (g0:G) (q:Nat) (s:Int) (h:H):Prop where
 fr:∀i,i<g0.nx->i≠q->h.get i=g0.h.get i
 hq:h.get q=.cells 1 [[.int .i64 s]] 0 false false
structure ND where
 c:Nat->Int
 P:Nat->List Int
 m:Nat->Nat
 R:Nat->Nat->List Int
 o:Nat->Nat
def LN (n:Nat)(D:ND):Ky->Prop:=λk=>k=(0,0)\/∃i q,k=(i+1,q)/\i<n/\q<2+D.o i
theorem LN.z {n:Nat}{D:ND}:LN n D (0,0):=.inl rfl
theorem LN.s {n:Nat}{D:ND}{i q:Nat}(h:i<n)(hq:q<2+D.o i):LN n D (i+1,q):=.inr ⟨i,q,rfl,h,hq⟩
theorem LN.p {n:Nat}{D:ND}{i:Nat}(h:i<n):LN n D (i+1,0):=LN.s h (by omega)
theorem LN.r {n:Nat}{D:ND}{i:Nat}(h:i<n):LN n D (i+1,1):=LN.s h (by omega)
def gw (D:ND)(V:Ky->AV)(i:Nat):List AV:=[.int .i64 (D.c i),V (i+1,0),V (i+1,1)]
def Fo (V:Ky->AV)(i r:Nat):List AV:=[V (i+1,2+r)]
structure BN (K n:Nat) (V:Ky->AV) (E:Ky->En) (D:ND):Prop where
 ns:E (0,0)=.sl 3 ((List.range n).map (gw D V))
 ps:∀i,i<n->E (i+1,0)=.sl 1 ((D.P i).map ci)/\(D.P i).length<=K
 rs:∀i,i<n->E (i+1,1)=.sl 1 ((List.range (D.m i)).map (Fo V i))/\D.m i<=K
 rr:∀i r,i<n->r<D.m i->(D.R i r).length<=K/\((r<D.o i/\E (i+1,2+r)=.sl 1 ((D.R i r).map ci))\/SlR NoP 0 .nil (D.R i r) (V (i+1,2+r)))
def ND.node (D:ND)(i:Nat):Node:=⟨D.c i,D.P i,(List.range (D.m i)).map (D.R i)⟩
theorem G4 {g:G}{b:Nat}{v:AV}{l:List Int}{P:Nat->Prop}(h:Own g b v 1 (l.map ci))(hl:l.length<9223372036854775808)(hp:∀i,b<=i->P i):SlR P 0 g.h l v :=
 Own.sl (α:=Int) h hl (All2.of_map (λa=>aF.2 rfl) _) λi hi=>hp i (h.lt hi).1
theorem BN.rows {g:G}{b K n i:Nat}{V:Ky->AV}{E:Ky->En}{D:ND}{L:Ky->Prop}(hB:BN K n V E D)(hH:Hp g b L V E)(hL:∀k,LN n D k->L k)(hK:K<=1000000)(hi:i<n):SlR (λj=>b<=j) 0 g.h ((List.range (D.m i)).map (D.R i)) (V (i+1,1)):=by
 obtain ⟨h1,h2⟩:=hB.rs i hi;have ho:=hH.own (hL _ (LN.r hi)) h1;refine Own.sl (α:=List Int) ho (by simp;omega) (vp λr hr=>?_) λj hj=>(ho.lt hj).1;have hr:=List.mem_range.1 hr;obtain ⟨h4,h3⟩:=hB.rr i r hi hr;rcases h3 with ⟨h5,h3⟩ | h3
 ·exact eR.2 ⟨_,rfl,G4 (hH.own (hL _ (LN.s hi (by omega))) h3) (by omega) λ_ h=>h⟩
 ·exact eR.2 ⟨_,rfl,(h3.tree (h':=g.h) (Nat.le_refl 0)).wd λ_ h=>h.elim⟩
theorem Hp.off {κ:Type} [DecidableEq κ]{g:G}{b:Nat}{L:κ->Prop}{V:κ->AV}{E:κ->En}{k:κ}{x:AV}(h:Hp g b L V E)(hk:¬L k):Hp g b L (ups V k x) E:=by have ne:∀j,L j->j≠k:=λj hj e=>hk (by rw[<-e];exact hj);exact ⟨λj hj=>by rw[af V x (ne j hj)];exact h.ok j hj,λj l hj hl hne id=>by rw[af V x (ne j hj),af V x (ne l hl)];exact h.sep j l hj hl hne id,h.nx⟩
theorem BN.pars {g:G}{b K n i:Nat}{V:Ky->AV}{E:Ky->En}{D:ND}{L:Ky->Prop}(hB:BN K n V E D)(hH:Hp g b L V E)(hL:∀k,LN n D k->L k)(hK:K<=1000000)(hi:i<n):SlR (λj=>b<=j) 0 g.h (D.P i) (V (i+1,0)):=by obtain ⟨h1,h2⟩:=hB.ps i hi;exact G4 (hH.own (hL _ (LN.p hi)) h1) (by omega) λ_ h=>h
theorem BN.nodes {g:G}{b K n:Nat}{V:Ky->AV}{E:Ky->En}{D:ND}{L:Ky->Prop}(hB:BN K n V E D)(hH:Hp g b L V E)(hL:∀k,LN n D k->L k)(hK:K<=1000000)(hn:n<=1000000):SlR (λj=>b<=j) 0 g.h ((List.range n).map D.node) (V (0,0)):=by have ho:=hH.own (hL _ LN.z) hB.ns;refine Own.sl (α:=Node) ho (by simp;omega) (vp λi hi=>?_) λj hj=>(ho.lt hj).1;have hi:=List.mem_range.1 hi;exact cp.2 ⟨_,_,rfl,hB.pars hH hL hK hi,hB.rows hH hL hK hi⟩
theorem od {α:Type}(f:Nat->α){n i:Nat}(x:α)(hi:i<n):((List.range n).map f).set i x=(List.range n).map (ups f i x):=by
 refine List.ext_getElem (by simp) λj h1 h2=>?_;rw[List.getElem_set]
 by_cases e:i=j
 ·subst e;simp[aC]
 ·rw[if_neg e];simp[af _ _ (Ne.symm e)]
theorem gN {α:Type}(f:Nat->α){n i:Nat}(hi:i<n):((List.range n).map f)[i]?=some (f i):=by simp[hi]
theorem y_ {D D':ND}{V V':Ky->AV}{n i:Nat}{row:List AV}(h0:row=gw D' V' i)(h:∀j,j<n->j≠i->gw D V j=gw D' V' j):(List.range n).map (ups (gw D V) i row)=(List.range n).map (gw D' V'):=by
 refine List.map_congr_left λj hj=>?_;have hj:=List.mem_range.1 hj
 by_cases e:j=i
 ·subst e;rw[aC,h0]
 ·rw[af _ _ e,h j hj e]
def Lk (gr c:Int)(l:List Int):Prop:=(l.length:Int)=c/\(∀y∈l,0<=y/\y<=gr)/\l.sum=gr
def O2 (gr:Int)(C:Nat):VS:=λP k h v=>∃l:List Int,(l.length=C/\Lk gr C l)/\One l P k h v
def S.rq (gr s x:Int):Int:=gr*x / s
theorem GU (gr s:Int):S.rq gr s 0=0:=by simp[S.rq]
theorem Fn {gr s:Int}(hs:0<=s)(hg:0<=gr):∀l:List Int,(∀x∈l,0<=x/\x<=s)->0<=(l.map (S.rq gr s)).sum/\(l.map (S.rq gr s)).sum*s<=gr*l.sum
 | [],_=>by simp
 | x::l,h=>by
  have ih:=Fn hs hg l λy hy=>h y (List.mem_cons_of_mem _ hy);have hx:=h x (List.mem_cons_self ..);have h1:0<=S.rq gr s x:=Int.ediv_nonneg (Int.mul_nonneg hg hx.1) hs;have h2:S.rq gr s x*s<=gr*x:=by
   by_cases e:s=0
   ·have:x=0:=by omega
    subst this;simp[S.rq,e]
   ·exact Int.ediv_mul_le _ e
  simp only[List.map_cons,List.sum_cons];refine ⟨by omega,?_⟩;rw[Int.add_mul,Int.mul_add];omega
theorem xA:∀(l:List Int),(∀x∈l,0<=x)->0<=l.sum/\∀x∈l,x<=l.sum
 | [],_=>by simp
 | a::l,h=>by
  have ih:=xA l λy hy=>h y (List.mem_cons_of_mem _ hy);have ha:=h a (List.mem_cons_self ..);simp only[List.sum_cons];refine ⟨by omega,λx hx=>?_⟩;rcases List.mem_cons.1 hx with rfl | hx
  ·omega
  ·have:=ih.2 x hx;omega
theorem G6:∀(l:List Int) (i:Nat) (x y:Int),l[i]?=some x->(l.set i y).sum=l.sum - x+y
 | [],i,x,y,h=>by simp at h
 | a::l,0,x,y,h=>by simp at h;subst h;simp only[List.set_cons_zero,List.sum_cons];omega
 | a::l,i+1,x,y,h=>by rw[List.set_cons_succ,List.sum_cons,List.sum_cons,G6 l i x y (by simpa using h)];omega
theorem Mp {gr s:Int}{X:List Int}{la:Nat}(hg:0<=gr)(hX:∀x∈X,0<=x/\x<=s)(hs:s=X.sum)(hla:la<X.length){x:Int}(hx:(X.map (S.rq gr s))[la]?=some x):Lk gr X.length ((X.map (S.rq gr s)).set la (x+(gr - (X.map (S.rq gr s)).sum)))/\0<=x+(gr - (X.map (S.rq gr s)).sum)/\x+(gr - (X.map (S.rq gr s)).sum)<=gr:=by
 have hs0:0<=s:=by rw[hs];exact (xA X λx hx=>(hX x hx).1).1
 have hq:=Fn hs0 hg X hX;have hle:(X.map (S.rq gr s)).sum<=gr:=by
  by_cases e:s=0
  ·have h0:∀x∈X,x=0:=λx hx=>by have:=hX x hx;omega
   have:X.map (S.rq gr s)=List.replicate X.length 0:=by rw[List.eq_replicate_iff];refine ⟨by simp,λy hy=>?_⟩;obtain ⟨z,hz,rfl⟩:=List.mem_map.1 hy;rw[h0 z hz,GU]
   rw[this];have:∀n:Nat,(List.replicate n (0:Int)).sum=0:=λn=>by induction n with
    | zero=>rfl
    | succ n ih=>rw[List.replicate_succ,List.sum_cons,ih];rfl
   rw[this];exact hg
  ·have h1:=hq.2;rw[<-hs] at h1;exact Int.le_of_mul_le_mul_right h1 (by omega)
 have hn:∀y∈X.map (S.rq gr s),0<=y:=λy hy=>by obtain ⟨z,hz,rfl⟩:=List.mem_map.1 hy;exact Int.ediv_nonneg (Int.mul_nonneg hg (hX z hz).1) hs0
 have hx0:=hn x (List.mem_of_getElem? hx);have hsum:((X.map (S.rq gr s)).set la (x+(gr - (X.map (S.rq gr s)).sum))).sum=gr:=by rw[G6 _ _ _ _ hx];omega
 have hn2:∀y∈(X.map (S.rq gr s)).set la (x+(gr - (X.map (S.rq gr s)).sum)),0<=y:=λy hy=>by
  rcases List.mem_or_eq_of_mem_set hy with h | rfl
  ·exact hn y h
  ·omega
 have hb:=xA _ hn2;rw[hsum] at hb;refine ⟨⟨by simp,λy hy=>⟨hn2 y hy,hb.2 y hy⟩,hsum⟩,by omega,hb.2 _ ?_⟩;exact List.mem_set (by simpa using hla) _
structure Rw1 (gr:Int) (nv u:AV) (C F j:Nat) (t:T) (g:G):Prop where
 st:St t [(0,.int .i64 gr),(1,.int .i64 (C:Int)),(2,nv),(3,.int .i64 (F:Int)),(9,u)]
 hX:∃(X:List Int) (s:Int),tat t 10=.int .i64 s/\X.length=C/\Own g 0 u 1 (X.map ci)/\(∀x∈X,0<=x/\x<=7)/\s=(X.take j).sum/\0<=s/\s<=7*j
theorem N0 {d C F kk:Nat}{gr:Int}{nv u:AV}{l:List UInt8}{Q:QT}{t:T}{g:G}(hC:C<=3)(hF:F<=1000)(hl:SlR NoP kk .nil l nv)(h0:Rw1 gr nv u C F 0 t g)(h11:tat t 11=.int .i64 0)
  (fin:∀t g,Rw1 gr nv u C F C t g->Q (.exit 0) t [] g):wpL (wp C0 d none mo) Q t [] g:=by
 obtain ⟨nr,r1,r2,r3,r4⟩:=hl.all;have r1:∀h',ah h' 1 nv=some nr:=r1;have hll:=hl.1;have ll:=hl.len;simp only[mo,rV];refine gY C (by omega) (λj t df g=>df=[]/\Rw1 gr nv u C F j t g) ⟨rfl,h0⟩ h11 (by decide) ?_ ?_ ?_ ?_
 ·rintro j t df g v s (rfl | rfl | rfl) ⟨a1,⟨b1,b2,b3,b4,b5,-⟩,X,s',c1,c2⟩<;>exact ⟨a1,by simp[St,sx,b1,b2,b3,b4,b5],X,s',by simp[sx,c1],c2⟩
 ·rintro j t df g hj ⟨rfl,⟨h0,h1,h2,h3,h9,-⟩,X,s,h10,hX⟩ h11;simp only[sz,simprocAttr,h11,h1];exact ⟨by simp[St,sx,h0,h1,h2,h3,h9],X,s,by simp[sx,h10],hX⟩
 ·rintro j t df g hj ⟨rfl,⟨h0,h1,h2,h3,h9,-⟩,X,s,h10,hXl,hX,hXb,hXs,hs0,hs1⟩ h11;refine gx (P:=λt' df g'=>df=[]/\∃(X':List Int) (x':Int),St t' [(0,.int .i64 gr),(1,.int .i64 (C:Int)),(2,nv),(3,.int .i64 (F:Int)),(9,u),(10,.int .i64 s),(11,.int .i64 (j:Int))]/\X'.length=C/\Own g' 0 u 1 (X'.map ci)/\(∀x∈X',0<=x/\x<=7)/\X'[j]?=some x'/\∀i,i≠j->X'[i]?=X[i]?) ?_ ?_
  ·have hXj:X[j]?=some X[j]:=List.getElem?_eq_getElem (by omega);simp only[sz,simprocAttr,h2,ll];refine fS (λhb=>?_) (λhb=>?_)
   ·have hb:0<l.length:=by simpa using hb
    have w1:IntKind.wrap .i64 ((F:Int)+(j:Int))=((F+j:Nat):Int):=by rw[aq (by omega) (by omega)];simp
    have q1:=u7 (x:=F+j) (y:=l.length) hb;have hmod:=Nat.mod_lt (F+j) hb;generalize (F+j) % l.length=a at q1 hmod;obtain ⟨y,hy,-,-⟩:=ae (l:=l) (j:=a) hmod;obtain ⟨row,z1,z2⟩:=r3 a y hy;rw[gP.1 z2] at z1;have hlt:a<nr.length:=by omega
    have q2:=pJ .u8 (a:=(y.toNat:Int)) (b:=8) (by omega) (by omega);have hm0:0<=(y.toNat:Int) % 8:=Int.emod_nonneg _ (by decide);have hm1:(y.toNat:Int) % 8<8:=Int.emod_lt_of_pos _ (by decide);have w2:IntKind.wrap .i64 ((y.toNat:Int) % 8)=(y.toNat:Int) % 8:=aq (by omega) (by omega);generalize (y.toNat:Int) % 8=z at q2 hm0 hm1 w2;have u1:j<(X.map ci).length:=by simp;omega
    have u2:(X.map ci)[j]?=some (ci X[j]):=by rw[List.getElem?_map,hXj];rfl
    have rX:=hX.rows;simp only[sz,simprocAttr,h2,h3,h9,h11,ll,w1,q1,r1,hlt,z1,q2,w2,rX,u1];refine bF (v:=u) (sz:=1) (n:=1) (i:=j) (off:=0) (x:=.int .i64 z) (row':=ci z) hX u2 rfl rfl rfl λg4 hu4 n4 f4=>?_;rw[<-List.map_set] at hu4;simp only[sx,sy];refine ⟨X.set j z,z,by simp[St,sx,h0,h1,h2,h3,h9,h10,h11],by simp[hXl],hu4,λx hx=>?_,by rw[List.getElem?_set_self (by omega)],λi hi=>by rw[List.getElem?_set_ne (Ne.symm hi)]⟩;rcases List.mem_or_eq_of_mem_set hx with h | rfl
    ·exact hXb x h
    ·omega
   ·simp only[sx,sy];exact ⟨X,X[j],by simp[St,sx,h0,h1,h2,h3,h9,h10,h11],hXl,hX,hXb,hXj,λ_ _=>rfl⟩
  clear h0 h1 h2 h3 h9 h10 h11 hX;rintro t df g ⟨rfl,X',x',⟨h0,h1,h2,h3,h9,h10,h11,-⟩,hXl',hX',hXb',hxj,hXo⟩;have u1:j<(X'.map ci).length:=by simp;omega
  have u2:(X'.map ci)[j]?=some (ci x'):=by rw[List.getElem?_map,hxj];rfl
  have rX:=hX'.rows;have hx':=hXb' x' (List.mem_of_getElem? hxj);have w1:IntKind.wrap .i64 (s+x')=s+x':=aq (by omega) (by omega);simp only[sz,simprocAttr,rU,h10,h9,h11,rX,u1,u2,ci,w1];have ht:X'.take j=X.take j:=List.ext_getElem? λi=>by
   by_cases e:i<j
   ·rw[List.getElem?_take_of_lt e,List.getElem?_take_of_lt e,hXo i (by omega)]
   ·rw[List.getElem?_eq_none (by simp;omega),List.getElem?_eq_none (by simp;omega)]
  refine ⟨by simp[St,sx,h0,h1,h2,h3,h9],X',s+x',by simp[sx],hXl',hX',hXb',?_,by omega,by omega⟩;rw[List.take_add_one,hxj,ht,List.sum_append,<-hXs];simp
 ·rintro t df g ⟨rfl,h⟩;exact fin t g h
structure Rw2 (gr s:Int) (u:AV) (C:Nat) (X:List Int) (j:Nat) (t:T) (g:G):Prop where
 st:St t [(0,.int .i64 gr),(1,.int .i64 (C:Int)),(9,u),(10,.int .i64 s)]
 hX:∃(la:Nat),tat t 12=.int .i64 (gr - ((X.take j).map (S.rq gr s)).sum)/\tat t 13=.int .i64 (la:Int)/\la<C/\Own g 0 u 1 (((X.take j).map (S.rq gr s)++X.drop j).map ci)
theorem Mq {gr s:Int}{X:List Int}{j:Nat}(h:j<X.length):((X.take j).map (S.rq gr s)++X.drop j).set j (S.rq gr s X[j])=(X.take (j+1)).map (S.rq gr s)++X.drop (j+1):=by
 have hl:((X.take j).map (S.rq gr s)).length=j:=by simp;omega
 rw[List.set_append_right _ _ (by omega),hl,Nat.sub_self,List.drop_eq_getElem_cons h,List.set_cons_zero,List.take_succ_eq_append_getElem h,List.map_append,List.append_assoc]
 rfl
theorem N4 {d C:Nat}{gr s:Int}{u:AV}{X:List Int}{Q:QT}{t:T}{g:G}(hC:C<=3)(hg:0<=gr/\gr<=60)(hXl:X.length=C)(hXb:∀x∈X,0<=x/\x<=7/\x<=s)(h0:Rw2 gr s u C X 0 t g)(h14:tat t 14=.int .i64 0)
  (fin:∀t g,Rw2 gr s u C X C t g->Q (.exit 2) t [] g):wpL (wp C0 d none mq) Q t [] g:=by
 simp only[mq,rY];refine gY C (by omega) (λj t df g=>df=[]/\Rw2 gr s u C X j t g) ⟨rfl,h0⟩ h14 (by decide) ?_ ?_ ?_ ?_
 ·rintro j t df g v s (rfl | rfl | rfl) ⟨a1,⟨b1,b2,b3,b4,-⟩,la,c1,c2,c3⟩<;>exact ⟨a1,by simp[St,sx,b1,b2,b3,b4],la,by simp[sx,c1],by simp[sx,c2],c3⟩
 ·rintro j t df g hj ⟨rfl,⟨h0,h1,h9,h10,-⟩,la,h12,h13,hX⟩ h14;simp only[sz,simprocAttr,h14,h1];exact ⟨by simp[St,sx,h0,h1,h9,h10],la,by simp[sx,h12],by simp[sx,h13],hX⟩
 ·rintro j t df g hj ⟨rfl,⟨h0,h1,h9,h10,-⟩,la,h12,h13,hla,hX⟩ h14;have hjl:j<X.length:=by omega
  obtain ⟨b0,b1,b2⟩:=hXb X[j] (List.getElem_mem hjl);have hYl:((X.take j).map (S.rq gr s)++X.drop j).length=C:=by simp;omega
  have hYj:((X.take j).map (S.rq gr s)++X.drop j)[j]?=some X[j]:=by rw[List.getElem?_append_right (by simp;omega)];simp[show min j X.length=j by omega,hjl]
  have u1:j<(((X.take j).map (S.rq gr s)++X.drop j).map ci).length:=by rw[List.length_map,hYl];exact hj
  have u2:(((X.take j).map (S.rq gr s)++X.drop j).map ci)[j]?=some (ci X[j]):=by rw[List.getElem?_map,hYj];rfl
  have rX:=hX.rows;have hgx:0<=gr*X[j]:=Int.mul_nonneg hg.1 b0;have hgx2:gr*X[j]<=60*7:=Int.mul_le_mul hg.2 b1 b0 (by decide);have hset:=Mq (gr:=gr) (s:=s) hjl;have hsq:(X.take (j+1)).map (S.rq gr s)=(X.take j).map (S.rq gr s)++[S.rq gr s X[j]]:=by rw[List.take_succ_eq_append_getElem hjl,List.map_append];rfl
  have hsb:=Fn (gr:=gr) (s:=s) (by omega) hg.1 (X.take j) λy hy=>by have:=hXb y (List.mem_of_mem_take hy);omega
  have hqb:∀x∈X,0<=S.rq gr s x/\S.rq gr s x<=420:=λx hx=>by obtain ⟨c0,c1,c2⟩:=hXb x hx;have h1:0<=gr*x:=Int.mul_nonneg hg.1 c0;have h2:gr*x<=60*7:=Int.mul_le_mul hg.2 c1 c0 (by decide);refine ⟨Int.ediv_nonneg h1 (by omega),?_⟩;have:=Int.ediv_le_self (b:=s) h1;unfold S.rq;omega
  have hqs:∀l:List Int,(∀x∈l,x∈X)->(l.map (S.rq gr s)).sum<=420*l.length:=λl=>by
   induction l with
   | nil=>intro _;simp
   | cons a l ih =>
    intro h;have h1:=hqb a (h a (List.mem_cons_self ..));have h2:=ih λy hy=>h y (List.mem_cons_of_mem _ hy);simp only[List.map_cons,List.sum_cons,List.length_cons]
    push_cast
    omega
  have hql:=hqs (X.take j) λx hx=>List.mem_of_mem_take hx;have hql2:(X.take j).length<=3:=by simp;omega
  have hqj:=hqb X[j] (List.getElem_mem hjl);refine gx (P:=λt' df g'=>df=[]/\∃(la':Nat),St t' [(0,.int .i64 gr),(1,.int .i64 (C:Int)),(9,u),(10,.int .i64 s),(12,.int .i64 (gr - ((X.take j).map (S.rq gr s)).sum)),(13,.int .i64 (la':Int)),(14,.int .i64 (j:Int))]/\la'<C/\Own g' 0 u 1 (((X.take (j+1)).map (S.rq gr s)++X.drop (j+1)).map ci)) ?_ ?_
  ·simp only[sz,simprocAttr,h9,h14,rX,u1,u2,ci];refine fS (λhb=>?_) (λhb=>?_)
   ·have hb:0<X[j]:=by simpa using hb
    have w1:IntKind.wrap .i64 (gr*X[j])=gr*X[j]:=aq (by omega) (by omega);have q1:cE .quo (.int .i64 (gr*X[j])) (.int .i64 s)=.val (.int .i64 (S.rq gr s X[j])):=ux (x:=gr*X[j]) (y:=s) hgx (by omega) (by omega);simp only[sz,simprocAttr,h0,h9,h10,h14,rX,u1,u2,ci,w1,q1];refine bF (v:=u) (sz:=1) (n:=1) (i:=j) (off:=0) (x:=.int .i64 (S.rq gr s X[j])) (row':=ci (S.rq gr s X[j])) hX u2 rfl rfl rfl λg4 hu4 n4 f4=>?_;rw[<-List.map_set,hset] at hu4;simp only[sz,simprocAttr,h14];exact ⟨j,by simp[St,sx,h0,h1,h9,h10,h12,h14],by omega,hu4⟩
   ·have hb:X[j]=0:=by
     have:¬0<X[j]:=by simpa using hb
     omega
    simp only[sx,sy];refine ⟨la,by simp[St,sx,h0,h1,h9,h10,h12,h13,h14],hla,?_⟩;rw[<-hset,hb,GU,<-hb];have:((X.take j).map (S.rq gr s)++X.drop j).set j X[j]=(X.take j).map (S.rq gr s)++X.drop j:=by
     refine List.ext_getElem? λi=>?_
     by_cases e:j=i
     ·subst e;rw[List.getElem?_set_self (by omega),hYj]
     ·rw[List.getElem?_set_ne e]
    rw[this];exact hX
  clear h0 h1 h9 h10 h12 h13 h14 hX rX hla u1 u2;rintro t df g ⟨rfl,la',⟨h0,h1,h9,h10,h12,h13,h14,-⟩,hla,hX'⟩;have hYl':((X.take (j+1)).map (S.rq gr s)++X.drop (j+1)).length=C:=by simp;omega
  have hYj':((X.take (j+1)).map (S.rq gr s)++X.drop (j+1))[j]?=some (S.rq gr s X[j]):=by rw[List.getElem?_append_left (by simp;omega),hsq,List.getElem?_append_right (by simp;omega)];simp[show min j X.length=j by omega]
  have u1:j<(((X.take (j+1)).map (S.rq gr s)++X.drop (j+1)).map ci).length:=by rw[List.length_map,hYl'];exact hj
  have u2:(((X.take (j+1)).map (S.rq gr s)++X.drop (j+1)).map ci)[j]?=some (ci (S.rq gr s X[j])):=by rw[List.getElem?_map,hYj'];rfl
  have rX:=hX'.rows;have w1:IntKind.wrap .i64 (gr - ((X.take j).map (S.rq gr s)).sum - S.rq gr s X[j])=gr - ((X.take (j+1)).map (S.rq gr s)).sum:=by rw[hsq,List.sum_append,aq (by omega) (by omega)];simp;omega
  simp only[sz,simprocAttr,rW,h12,h9,h14,rX,u1,u2,ci,w1];exact ⟨by simp[St,sx,h0,h1,h9,h10],la',by simp[sx],by simp[sx,h13],hla,hX'⟩
 ·rintro t df g ⟨rfl,h⟩;exact fin t g h
theorem N5 {d C F kk:Nat}{g:G}{nv:AV}{gr:Int}{l:List UInt8}(hd:0<d)(hC:1<=C/\C<=3)(hF:F<=1000)(hg:0<=gr/\gr<=60)(hl:SlR NoP kk .nil l nv) :
  ∃r,ap C0 d N.ap [.int .i64 gr,.int .i64 (C:Int),nv,.int .i64 (F:Int)] g=.val r/\O2 gr C NoP 0 .nil r:=by
 rw[xZ];refine aW BE (xs:=[.int .i64 gr,.int .i64 (C:Int),nv,.int .i64 (F:Int)]) (by simp only[aH,j5 d (hl.tree (h':=g.h) (Nat.le_refl _)),dy 0]) (by simp[rT]) (lF λo=>aR _) (by decide) hd ?_;simp only[sz,simprocAttr,rT];refine lD (b:=0) (n:=C) (by unfold aP;omega) (by unfold aP;omega) (Nat.zero_le _) λu g1 hu n1 f1 vu=>?_;simp only[sz,simprocAttr];refine N0 (gr:=gr) (nv:=nv) (u:=u) (C:=C) (F:=F) hC.2 hF hl ⟨by simp[St,sx],List.replicate C 0,0,by simp[sx],by simp,by simpa [ci] using hu,λx hx=>by rw[(List.mem_replicate.1 hx).2];decide,by simp,by omega,by omega⟩ (by simp[sx]) ?_;rintro t g2 ⟨⟨h0,h1,h2,h3,h9,-⟩,X,s,h10,hXl,hX,hXb,hXs,hs0,hs1⟩;rw[List.take_of_length_le (by omega)] at hXs;have hms:=xA X λx hx=>(hXb x hx).1;simp only[sz,simprocAttr,r_,h0];refine N4 (gr:=gr) (s:=s) (u:=u) (C:=C) (X:=X) hC.2 hg hXl (λx hx=>⟨(hXb x hx).1,(hXb x hx).2,by rw[hXs];exact hms.2 x hx⟩) ⟨by simp[St,sx,h0,h1,h9,h10],0,by simp[sx],by simp[sx],by omega,by simpa using hX⟩ (by simp[sx]) ?_;clear h0 h1 h2 h3 h9 h10 hX;rintro t g3 ⟨⟨h0,h1,h9,h10,-⟩,la,h12,h13,hla,hX⟩;rw[List.take_of_length_le (by omega)] at h12 hX;rw[List.drop_eq_nil_of_le (by omega),List.append_nil] at hX;obtain ⟨x,hx⟩:∃x,(X.map (S.rq gr s))[la]?=some x:=⟨_,List.getElem?_eq_getElem (by simp;omega)⟩;obtain ⟨f1,f2,f3⟩:=Mp (gr:=gr) (s:=s) (X:=X) (la:=la) hg.1 (λx hx=>⟨(hXb x hx).1,by rw[hXs];exact hms.2 x hx⟩) hXs (by omega) hx;have u1:la<((X.map (S.rq gr s)).map ci).length:=by simp;omega
 have u2:((X.map (S.rq gr s)).map ci)[la]?=some (ci x):=by rw[List.getElem?_map,hx];rfl
 have rX:=hX.rows;have w1:IntKind.wrap .i64 (x+(gr - (X.map (S.rq gr s)).sum))=x+(gr - (X.map (S.rq gr s)).sum):=aq (by omega) (by omega);simp only[sz,simprocAttr,rZ,h9,h13,h12,rX,u1,u2,ci,w1];refine bF (v:=u) (sz:=1) (n:=1) (i:=la) (off:=0) (x:=.int .i64 (x+(gr - (X.map (S.rq gr s)).sum))) (row':=ci (x+(gr - (X.map (S.rq gr s)).sum))) hX u2 rfl rfl rfl λg4 hu4 n4 f4=>?_;rw[<-List.map_set] at hu4;simp only[sz,simprocAttr,h9];exact ⟨λ_=>True,_,⟨by simp[hXl],by rw[<-hXl];exact f1⟩,hu4.ints (by simp;omega)⟩
theorem zi (os:List UInt8):∀k,(S.aE os k).Perm ((List.range k).map λi:Nat=>(i:Int))
 | 0=>.refl _
 | k+1=>by rw[List.range_succ,List.map_append,S.aE];refine List.perm_middle.trans ?_;rw[List.take_append_drop];exact ((zi os k).cons _).trans (List.perm_append_comm (l₁:=[(k:Int)]))
structure Num (n:Nat) (pl:List Int) (num:Nat->Nat):Prop where
 len:pl.length=n
 at_:∀k,k<n->pl[k]?=some (num k:Int)
 lt:∀k,k<n->num k<n
 inj:∀i j,i<n->j<n->num i=num j->i=j
 sur:∀u,u<n->∃k,k<n/\num k=u
theorem NS (os:List UInt8)(n:Nat):∃num,Num n (S.aE os n) num:=by
 have hp:=zi os n;have hl:=pG os n;have hmem:∀x∈S.aE os n,∃i:Nat,i<n/\x=(i:Int):=λx hx=>by have:=hp.mem_iff.1 hx;obtain ⟨i,hi,rfl⟩:=List.mem_map.1 this;exact ⟨i,List.mem_range.1 hi,rfl⟩
 have hnd:(S.aE os n).Nodup:=by rw[hp.nodup_iff];refine List.Pairwise.map _ ?_ (List.nodup_range (n:=n));intro a b h e;exact h (by omega)
 have hat:∀k,k<n->(S.aE os n)[k]?=some (((S.aE os n)[k]?.getD 0).toNat:Int)/\((S.aE os n)[k]?.getD 0).toNat<n:=λk hk=>by
  have hk':k<(S.aE os n).length:=by omega
  have e:=List.getElem?_eq_getElem hk';obtain ⟨i,hi,h⟩:=hmem _ (List.getElem_mem hk');rw[e,Option.getD_some,h];simp[hi]
 refine ⟨λk=>((S.aE os n)[k]?.getD 0).toNat,hl,λk hk=>(hat k hk).1,λk hk=>(hat k hk).2,λi j hi hj h=>?_,λu hu=>?_⟩
 ·have h1:=(hat i hi).1;have h2:=(hat j hj).1;refine (List.getElem?_inj (by omega) hnd).1 ?_;rw[h1,h2];exact congrArg (λx:Nat=>some (x:Int)) h
 ·have:(u:Int)∈S.aE os n:=hp.mem_iff.2 (List.mem_map.2 ⟨u,List.mem_range.2 hu,rfl⟩);obtain ⟨k,hk,he⟩:=List.mem_iff_getElem.1 this;refine ⟨k,by omega,?_⟩;rw[List.getElem?_eq_getElem hk,he];rfl
theorem Mu (m n:Nat):∃z:Int,cE .shl (.int .i64 (m:Int)) (.int .u64 (n:Int))=.val (.int .i64 z):=⟨_,rfl⟩
def LNX (X:Ky->Prop)(n:Nat)(D:ND):Ky->Prop:=λk=>LN n D k\/X k
def X1:Ky->Prop:=λk=>k=(0,1)
def X2:Ky->Prop:=λk=>k=(0,1)\/k=(0,2)
structure DN (X:Ky->Prop) (r0:List AV) (n q K:Nat) (gr:Int) (V:Ky->AV) (E:Ky->En) (D:ND) (g:G):Prop where
 hp:Hp g 2 (LNX X n D) V E
 bn:BN K n V E D
 vb:V (0,1)=.hptr q 0 0 0
 bx:E (0,1)=.bx [.int .i64 gr,V (0,0)]
 h0:g.h.get 0=.cells 3 [r0] 0 false false
 h1:g.h.get 1=.cells 2 [[.int .i64 0,.nils]] 0 false false
theorem DN.q {X:Ky->Prop}{r0:List AV}{n q K:Nat}{gr:Int}{V:Ky->AV}{E:Ky->En}{D:ND}{g:G}(h:DN X r0 n q K gr V E D g)(hX:X (0,1)):g.h.get q=.cells 2 [[.int .i64 gr,V (0,0)]] 0 false false/\2<=q/\q<g.nx:=by obtain ⟨id,h1,h2,h3,h4⟩:=h.hp.box (k:=(0,1)) (.inr hX) h.bx;rw[h.vb] at h3;injection h3 with h3;subst h3;exact ⟨h4,h1,h2⟩
theorem DN.ns {X:Ky->Prop}{r0:List AV}{n q K:Nat}{gr:Int}{V:Ky->AV}{E:Ky->En}{D:ND}{g:G}(h:DN X r0 n q K gr V E D g):Own g 2 (V (0,0)) 3 ((List.range n).map (gw D V)):=h.hp.own (.inl LN.z) h.bn.ns
theorem DN.same {X:Ky->Prop}{r0:List AV}{n q K:Nat}{gr:Int}{V:Ky->AV}{E:Ky->En}{D:ND}{g g':G}(h:DN X r0 n q K gr V E D g)(hf:Fr g g'):DN X r0 n q K gr V E D g':=by have:=h.hp.nx;exact ⟨h.hp.step hf.1 λi _ hi=>hf.2 i hi,h.bn,h.vb,h.bx,by rw[hf.2 0 (by omega),h.h0],by rw[hf.2 1 (by omega),h.h1]⟩
theorem uU {g:G}{b:Nat}{v:AV}{sz:Nat}{rows:List (List AV)}(h:Own g b v sz rows)(hr:0<rows.length):ug v=true:=by
 rcases h with ⟨rfl,rfl⟩ | ⟨id,ep,lo,-,-,rfl,-⟩
 ·simp at hr
 ·rfl
theorem DN.card {X:Ky->Prop}{r0:List AV}{n q K i:Nat}{gr c:Int}{V:Ky->AV}{E:Ky->En}{D:ND}{g:G}{KK:AV->G->Prop}{DD:ADf->Prop}(h:DN X r0 n q K gr V E D g)(hi:i<n)(hX:∀k,X k->k≠(0,0))
  (kk:∀g' E',DN X r0 n q K gr V E' { D with c:=ups D.c i c } g'->g'.nx=g.nx->KK .undef g'):(mU 1 (mP 3 (V (0,0)) i 0) (.int .i64 c) g).sat KK g DD:=by
 refine h.hp.put (k:=(0,0)) (row:=gw D V i) (row':=[.int .i64 c,V (i+1,0),V (i+1,1)]) (.inl LN.z) h.bn.ns (gN _ hi) rfl rfl rfl λg' hH hn hf1 hf2=>?_;refine kk g' _ ⟨hH.sub λk hk=>hk,⟨?_,λj hj=>?_,λj hj=>?_,λj r hj hr=>?_⟩,h.vb,?_,by rw[hf1 0 (by omega),h.h0],by rw[hf1 1 (by omega),h.h1]⟩ hn
 ·rw[aC,od _ _ hi];congr 1;refine y_ (by simp[gw,aC]) λj hj hne=>by simp[gw,af _ _ hne]
 ·rw[af _ _ (by simp)];exact h.bn.ps j hj
 ·rw[af _ _ (by simp)];exact h.bn.rs j hj
 ·rw[af _ _ (by simp)];exact h.bn.rr j r hj hr
 ·rw[af _ _ (by simp)];exact h.bx
structure DAok (D:ND) (n i:Nat) (num:Nat->Nat):Prop where
 e:∀v,v<n->D.P v=[]/\D.m v=0
 c:∀k,k<i->D.c (num k)=2\/D.c (num k)=3
 o:∀u,D.o u=0
def LDA (n q:Nat)(r5:AV):List (Nat×AV):=[(1,.hptr 0 0 0 0),(2,.hptr 1 0 0 0),(3,.int .i64 (n:Int)),(4,.hptr q 0 0 0),(5,r5)]
structure DA (r0:List AV) (n q:Nat) (gr:Int) (r5:AV) (num:Nat->Nat) (i:Nat) (t:T) (g:G):Prop where
 st:St t (LDA n q r5)
 w:∃w:Nat,tat t 6=.int .i64 (w:Int)/\w<=3 ^ i
 hd:∃V E D,DN X1 r0 n q 1000 gr V E D g/\DAok D n i num
theorem O6 {i:Nat}(h:i<=5):3 ^ i<=243:=by
 have:i=0\/i=1\/i=2\/i=3\/i=4\/i=5:=by omega
 rcases this with rfl | rfl | rfl | rfl | rfl | rfl<;>decide
theorem NN {d n q kk:Nat}{x:vo}{gr:Int}{a b r5:AV}{pl:List Int}{num:Nat->Nat}{Q:QT}{t:T}{g:G}(hn:1<=n/\n<=5)(ha:SlR NoP kk .nil x.2.1 a)(h5:IT 0 pl r5)(hN:Num n pl num)
  (h0:DA [u8v x.1,a,b] n q gr r5 num 0 t g) (h7:tat t 7=.int .i64 0)
  (fin:∀t g,DA [u8v x.1,a,b] n q gr r5 num n t g->Q (.exit 0) t [] g):wpL (wp C0 d none fB) Q t [] g:=by
 obtain ⟨pr,r1,r2,r3,r4⟩:=ha.all;have r1:∀h',ah h' 3 a=some pr:=r1;have la:=ha.len;have hal:=ha.1;have r5i:∀h,ah h 1 r5=some (pl.map ci):=λh=>(h5.sl h).ints;simp only[fB,j9];refine gY n (by omega) (λj t df g=>df=[]/\DA [u8v x.1,a,b] n q gr r5 num j t g) ⟨rfl,h0⟩ h7 (by decide) ?_ ?_ ?_ ?_
 ·rintro j t df g v s (rfl | rfl | rfl) ⟨a1,⟨b1,b2,b3,b4,b5,-⟩,⟨w,c1,c2⟩,c3⟩<;>exact ⟨a1,by simp[St,LDA,sx,b1,b2,b3,b4,b5],⟨w,by simp[sx,c1],c2⟩,c3⟩
 ·rintro j t df g hj ⟨rfl,⟨h1,h2,h3,h4,h5,-⟩,⟨w,h6,hw⟩,hD⟩ h7;simp only[sz,simprocAttr,h7,h3];exact ⟨by simp[St,LDA,sx,h1,h2,h3,h4,h5],⟨w,by simp[sx,h6],hw⟩,hD⟩
 ·rintro j t df g hj ⟨rfl,⟨h1,h2,h3,h4,h5,-⟩,⟨w,h6,hw⟩,V,E,D,hD,hok⟩ h7;obtain ⟨p8,hp8⟩:∃p8,p8=g.nx:=⟨_,rfl⟩;have hnx:=hD.hp.nx;refine gx (P:=λt' df g'=>df=[]/\g'=g.new (.cells 3 [[.int .u8 0,.int .u8 0,.nils]] 0 false false)/\St t' ((6,.int .i64 (w:Int))::(7,.int .i64 (j:Int))::(8,.hptr p8 0 0 0)::LDA n q r5)) ?_ ?_
  ·simp only[sz,simprocAttr];simp[St,LDA,sx,h1,h2,h3,h4,h5,h6,h7,hp8]
  clear h1 h2 h3 h4 h5 h6 h7;rintro t df g1 ⟨rfl,hg1,⟨h6,h7,h8,h1,h2,h3,h4,h5,-⟩⟩;have f1:Fr g g1:=by rw[hg1];exact Fr.new _ _
  have k8:g1.h.get p8=.cells 3 [[.int .u8 0,.int .u8 0,.nils]] 0 false false:=by rw[hg1,hp8];simp[H.get_put]
  have n1:p8<g1.nx:=by rw[hg1,hp8];simp
  clear hg1;have hD1:=hD.same f1;have e0:=hD1.h0;refine gx (P:=λt' df g'=>df=[]/\Fr g g'/\St t' ((6,.int .i64 (w:Int))::(7,.int .i64 (j:Int))::(8,.hptr p8 0 0 0)::LDA n q r5)/\p8<g'.nx/\∃(y:UInt8) (z1 z2:AV),g'.h.get p8=.cells 3 [[u8v y,z1,z2]] 0 false false) ?_ ?_
  ·simp only[sz,simprocAttr,h7,h1,e0,la];refine fS (λhb=>?_) (λhb=>?_)
   ·have hb:j<x.2.1.length:=by simpa using hb
    obtain ⟨y,hy,-,-⟩:=ae hb;obtain ⟨row,q1,q2⟩:=r3 j y hy;obtain ⟨wv,rfl,hwv⟩:=A6.1 q2;have hlt:j<pr.length:=by omega
    have hry:=r4 (by omega);simp only[sz,simprocAttr,h7,h1,e0,r1,hlt,q1,h8,k8];refine ⟨?_,by simp[St,LDA,sx,h1,h2,h3,h4,h5,h6,h7,h8],by simpa using n1,y.1,u8v y.2.1,wv,by simp[H.get_put]⟩;exact ⟨Nat.le_trans f1.1 (by simp),λi hi=>by simp[H.get_put,show ¬i=p8 by omega];exact f1.2 i hi⟩
   ·simp only[sx,sy];exact ⟨f1,by simp[St,LDA,sx,h1,h2,h3,h4,h5,h6,h7,h8],n1,0,.int .u8 0,.nils,k8⟩
  clear h1 h2 h3 h4 h5 h6 h7 h8 e0 hD1 k8 n1 f1;rintro t df g2 ⟨rfl,f2,⟨h6,h7,h8,h1,h2,h3,h4,h5,-⟩,n2,y,z1,z2,k8⟩;have hD2:=hD.same f2;have q2:=pJ .u8 (a:=(y.toNat:Int)) (b:=2) (by omega) (by omega);obtain ⟨m,hm⟩:∃m:Nat,(y.toNat:Int) % 2=(m:Int):=Int.eq_ofNat_of_zero_le (Int.emod_nonneg _ (by decide));have hm2:m<2:=by have:=Int.emod_lt_of_pos (y.toNat:Int) (show (0:Int)<2 by decide);omega
  rw[hm] at q2;have w2:IntKind.wrap .i64 (m:Int)=(m:Int):=aq (by omega) (by omega);have w3:IntKind.wrap .i64 (2+(m:Int))=((2+m:Nat):Int):=by rw[aq (by omega) (by omega)];rfl
  have hp3:=O6 (i:=j) (by omega);have hwc:w*(2+m)<=243*3:=Nat.mul_le_mul (by omega) (by omega);have w4:IntKind.wrap .i64 ((w:Int)*((2+m:Nat):Int))=((w*(2+m):Nat):Int):=by rw[<-Int.natCast_mul,aq (by omega) (by omega)]
  have w5:IntKind.wrap .i64 ((n:Int) - 1)=((n - 1:Nat):Int):=by rw[aq (by omega) (by omega)];omega
  have w6:IntKind.wrap .i64 (((n - 1:Nat):Int) - (j:Int))=((n - 1 - j:Nat):Int):=by rw[aq (by omega) (by omega)];omega
  have w7:IntKind.wrap .u64 ((n - 1 - j:Nat):Int)=((n - 1 - j:Nat):Int):=vg (by omega) (by omega);obtain ⟨z,hz⟩:=Mu (w*(2+m)) (n - 1 - j);refine gx (P:=λt' df g'=>df=[]/\g'=g2/\St t' ((6,.int .i64 (w:Int))::(7,.int .i64 (j:Int))::(9,.int .i64 ((2+m:Nat):Int))::LDA n q r5)) ?_ ?_
  ·simp only[sz,simprocAttr,h8,k8,u8v,q2,w2,w3];simp[St,LDA,sx,h1,h2,h3,h4,h5,h6,h7]
  clear h1 h2 h3 h4 h5 h6 h7 h8;rintro t df g3 ⟨rfl,rfl,⟨h6,h7,h9,h1,h2,h3,h4,h5,-⟩⟩;refine gx (P:=λt' df g'=>df=[]/\g'=g3/\∃C:Nat,(C=2\/C=3)/\St t' ((6,.int .i64 (w:Int))::(7,.int .i64 (j:Int))::(9,.int .i64 (C:Int))::LDA n q r5)) ?_ ?_
  ·simp only[sz,simprocAttr,h6,h7,h9,h3,w4,w5,w6,w7,hz];refine fS (λhb=>?_) (λhb=>?_)
   ·simp only[sz,simprocAttr];refine ⟨2,.inl rfl,?_⟩;simp[St,LDA,sx,h1,h2,h3,h4,h5,h6,h7]
   ·simp only[sx,sy];refine ⟨2+m,by omega,?_⟩;simp[St,LDA,sx,h1,h2,h3,h4,h5,h6,h7,h9]
  clear h1 h2 h3 h4 h5 h6 h7 h9 hwc w4 hz w3;rintro t df g4 ⟨rfl,rfl,C,hC,⟨h6,h7,h9,h1,h2,h3,h4,h5,-⟩⟩;have hwc:w*C<=3 ^ j*3:=Nat.mul_le_mul hw (by omega);have hwc2:w*C<=243*3:=Nat.mul_le_mul (by omega) (by omega);have w4:IntKind.wrap .i64 ((w:Int)*(C:Int))=((w*C:Nat):Int):=by rw[<-Int.natCast_mul,aq (by omega) (by omega)]
  refine gx (P:=λt' df g'=>df=[]/\g'=g4/\St t' ((6,.int .i64 ((w*C:Nat):Int))::(7,.int .i64 (j:Int))::(9,.int .i64 (C:Int))::LDA n q r5)) ?_ ?_
  ·simp only[sz,simprocAttr,h6,h9,w4];simp[St,LDA,sx,h1,h2,h3,h4,h5,h7,h9]
  clear h1 h2 h3 h4 h5 h6 h7 h9;rintro t df g5 ⟨rfl,rfl,⟨h6,h7,h9,h1,h2,h3,h4,h5,-⟩⟩;obtain ⟨kq,q2a,q2b⟩:=hD2.q rfl;have rns:=hD2.ns.rows;have hry:=uU hD2.ns (by simp;omega);have hnj:=hN.lt j hj;have u1:j<(pl.map ci).length:=by rw[List.length_map,hN.len];exact hj
  have u2:(pl.map ci)[j]?=some (ci (num j:Int)):=by rw[List.getElem?_map,hN.at_ j hj];rfl
  have u3:num j<((List.range n).map (gw D V)).length:=by simpa using hnj
  have u4:=gN (gw D V) hnj;simp only[sz,simprocAttr,sf,h4,kq,h5,h7,h9,r5i,u1,u2,rns,u3,hry,ci];refine (hD2.same (g':=_) ⟨?_,?_⟩).card (i:=num j) (c:=(C:Int)) hnj (λk hk=>by rw[hk];simp) λg6 E' hD6 n6=>?_
  ·simp;omega
  ·intro i hi;simp
  simp only[sx,sy,↓reduceIte,Nat.reduceEqDiff];refine ⟨?_,⟨by simp[St,LDA,sx,h1,h2,h3,h4,h5],⟨w*C,by simp[sx,h6],by rw[Nat.pow_succ];exact hwc⟩,V,E',_,hD6.same ⟨by simp,λi _=>by simp⟩,hok.e,λk hk=>?_,hok.o⟩,by simp[h7]⟩
  ·simp only[List.reverse_cons,List.reverse_nil,List.nil_append,List.cons_append];exact aV [false,false,false,false,false,false,false,false,false,true] [] (by simp[All2,an,aD]) (by decide) (by simp)
  ·by_cases e:num k=num j
   ·simp[e,aC];omega
   ·show ups D.c (num j) (C:Int) (num k)=2\/ups D.c (num j) (C:Int) (num k)=3;rw[af _ _ e];refine hok.c k ?_;have:k≠j:=λh=>e (by rw[h]);omega
 ·rintro t df g ⟨rfl,h⟩;exact fin t g h
end
end Hx
end
