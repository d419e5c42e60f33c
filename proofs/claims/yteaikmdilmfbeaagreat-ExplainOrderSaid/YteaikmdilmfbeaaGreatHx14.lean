/- A part of the proof: what the functions of the chapter compute. -/
import Derived.Test.YteaikmdilmfbeaaGreatHx13
set_option linter.all false
set_option maxRecDepth 20000
set_option maxHeartbeats 8000000
namespace Hx
open Go
noncomputable section
variable {g g0:G}{d k i q j m:Nat}{v w b u:AV}{l vals:List Int}{P:Nat->Prop}{n:Net}{x gr:Int}{Q:QT}{t:T}{h:H}
theorem N_(hd:0<d):ah C0 d 111 [XL x] g=.val (.bool false):=by rw[wh];refine kV yY (xs:=[XL x]) (by simp only[aF,bD 0]) (by simp[dF]) hd ?_;simp only[sz,simprocAttr,dF]
theorem Pe(hd:0<d):ah C0 d 168 [XL x] g=.val (.bool false):=by rw[sC];refine kV vp (xs:=[XL x]) (by simp only[aF,bD 0]) (by simp[jt]) hd ?_;simp only[sz,simprocAttr,jt]
theorem OD{y:Int}(hd:0<d):ah C0 d 167 [XL x,XL y] g=.val (.bool (decide (x<y))):=by rw[xz];refine kV Ap (xs:=[XL x,XL y]) (by simp only[aF,bD 0]) (by simp[oo]) hd ?_;simp only[sz,simprocAttr,oo,N_ (TW d)]
theorem L4(h:i+j<9223372036854775808):ct .shr (XN ((i+j:Nat):Int)) (XN 1)=.val (XN (((i+j) / 2:Nat):Int)):=H6 .u64 (i+j) 1 (by omega)
theorem Ko(hd:0<d)(hv:SlR P k g.h l v)(hl:l.length<=1000):∃(p:Nat) (b:Bool),p<=l.length/\ah C0 d 159 [v,XL x] g=.val (.tup [XL (p:Int),.bool b]):=by
 obtain⟨v',e,q⟩:=bm hv d;have nl:=λg=>(q .nil).len g;have rl:=λh=>(q h).ints;have key:∃r,ah C0 d 159 [v,XL x] g=.val r/\(λP k h v=>∃o:Nat×Bool,o.1<=l.length/\pj (One (o.1:Int)) (One o.2) P k h v) NoP 0 .nil r:=by
  rw[jW];refine aL lB (xs:=[v',XL x]) (by simp only[aF,e,bD 0]) (by simp[cG]) (md λo=>bO (m:=1) (aJ _) (aJ _) (by decide) (by decide)) (by decide) hd ?_;simp only[sz,simprocAttr,cG,nl];refine eW (λm t df g=>df=[]/\∃i j:Nat,m=j - i/\i<=j/\j<=l.length/\St t [(0,v'),(1,XL x),(6,XL (l.length:Int)),(7,XL (i:Int)),(8,XL (j:Int))]) l.length
   ⟨rfl,0,l.length,rfl,Uj _,TG _,by simp[St,sx]⟩ ?_
  rintro m t df g ⟨rfl,i,j,rfl,C,D,h0,h1,h6,h7,h8,-⟩;simp only[sz,simprocAttr,dT,h7,h8];refine dz (λhb=>?_) (λhb=>?_)
  ·have hb:i<j:=by simpa using hb
   have w1:IntKind.wrap .i64 ((i:Int)+(j:Int))=((i+j:Nat):Int):=by rw[ap (by omega) (by omega)];simp
   have E:IntKind.wrap .u64 ((i+j:Nat):Int)=((i+j:Nat):Int):=ut (by omega) (by omega);have hm:(i+j) / 2<l.length:=by omega
   have z:i<=(i+j) / 2:=by omega
   have A:(i+j) / 2<j:=by omega
   have n:=L4 (i:=i) (j:=j) (by omega);generalize (i+j) / 2=c at hm z A n;have F:IntKind.wrap .i64 (c:Int)=(c:Int):=ap (by omega) (by omega);have H:IntKind.wrap .i64 ((c:Int)+1)=((c+1:Nat):Int):=by rw[ap (by omega) (by omega)];simp
   obtain⟨y,B,-,-⟩:=ae (l:=l) (j:=c) hm;have u:c<(l.map ci).length:=by simpa using hm
   have w:(l.map ci)[c]?=some (ci y):=by rw[TK,B];rfl
   simp only[sz,simprocAttr,h0,h1,h7,h8,w1,E,n,F,rl,u,w,ci,OD (TW d)];refine dz (λhb=>?_) (λhb=>?_)
   ·simp only[sz,simprocAttr,H];exact⟨j - (c+1),by omega,c+1,j,rfl,by omega,D,by simp[St,sx,h0,h1,h6,h8]⟩
   ·simp only[sz,simprocAttr];exact⟨c - i,by omega,i,c,rfl,by omega,by omega,by simp[St,sx,h0,h1,h6,h7]⟩
  ·simp only[sz,simprocAttr,dU,h6,h7];have f:i<=l.length:=by omega
   by_cases c1:i<l.length
   ·obtain⟨y,B,-,-⟩:=ae (l:=l) (j:=i) c1;have u:i<(l.map ci).length:=by simpa using c1
    have w:(l.map ci)[i]?=some (ci y):=by rw[TK,B];rfl
    have s:(i:Int)<(l.length:Int):=by omega
    cases hq:decide (y=x) with
    | true =>
     simp only[sz,simprocAttr,h0,h1,h7,s,rl,u,w,ci,hq];exact⟨λ_=>True,(i,true),f,_,_,rfl,ax.2 rfl,eB.2 rfl⟩
    | false =>
     simp only[sz,simprocAttr,h0,h1,h7,s,rl,u,w,ci,hq,Pe (TW d)];exact⟨λ_=>True,(i,false),f,_,_,rfl,ax.2 rfl,eB.2 rfl⟩
   ·have s:¬((i:Int)<(l.length:Int)):=by omega
    simp only[sz,simprocAttr,s];exact⟨λ_=>True,(i,false),f,_,_,rfl,ax.2 rfl,eB.2 rfl⟩
 obtain⟨r,hr,⟨p,b⟩,hp,a,c,rfl,ha,hc⟩:=key;have ha:=ax.1 ha;have hc:=eB.1 hc;injection ha with ha;injection hc with hc;exact⟨p,b,hp,by rw[hr,ha,hc]⟩
theorem oa(d:Nat)(xs:List AV)(g:G):ah C0 d 160 xs g=ku d xs g:=by kernel_rfl
def CloneR(b:Nat)(l:List Int)(u:AV)(g:G):Prop:=(l=[]/\u=.nils)\/∃id lo,b<=id/\id<g.nx/\u=.hsl id 0 0 l.length none/\g.h.get id=.cells 1 (l.map ci) 0 lo false/\(0<l.length->lo=true)/\(l.length=0->lo=false)
theorem CloneR.fr{b:Nat}{g':G}(h:CloneR b l u g)(f:Fr g g'):CloneR b l u g':=by
 rcases h with h|⟨id,lo,h1,h2,h3,h4,h5⟩
 ·exact .inl h
 ·exact .inr ⟨id,lo,h1,TU h2 f.1,h3,by rw[f.2 id h2,h4],h5⟩
theorem Dq{id:Nat}{x:AV}{K:AV->G->Prop}{D:ADf->Prop}(hx:ak g.h 1 x=some (l.map ci))(h3:g.h.get id=W8 1 [])(hid:id<g.nx)(hr:l.length<=1000)
  (k:∀u g',CloneR id l u g'->Fr g g'->K u g'):(di 1 8 (.hsl id 0 0 0 none) x g).sat K g D:=by
 unfold di;rw[hx];cases l with
 | nil =>
  simp only[bg,G.get_eq,h3,aA,aa,Uv,U7,Uw,TM,Vg,Vq];rw[TO ⟨by simp,by simp⟩,TO (by simp)];exact k _ _ (.inr ⟨id,false,TG _,hid,rfl,by simpa using h3,by simp,by simp⟩) (Fr.refl g)
 | cons y l =>
  simp only[bg,G.get_eq,h3,aA,aa,Uv,U7,Uw,TM,VT,Uq,Vq,TT,Uy,Vc,VY];rw[TO ⟨by omega,by unfold aQ;simp at hr;omega⟩,TN (by omega),TO (by rfl)];refine k _ _ (.inr ⟨g.nx,true,by omega,by simp,by simp,?_,by simp,by simp⟩) (Fr.new g _);simp[aP,be,ba]
theorem Jw{K:AV->G->Prop}{D:ADf->Prop}(hv:SlR NoP 0 .nil l v)(hl2:l.length<=1000)(kk:∀u g',CloneR g.nx l u g'->Fr g g'->K u g') :
  (ah C0 d 37 [v] g).sat K g D:=by
 rw[il];refine wz jH (by simp[br]) ?_
 by_cases hn:v=.nils
 ·subst hn;have hl:l=[]:=by have h:=hv.2;unfold SlV at h;exact h
  have k:wD false .slice .nils .nils=.val (.bool true):=rfl;simp only[sz,simprocAttr,br,k];exact kk _ _ (.inl ⟨hl,rfl⟩) (Fr.refl g)
 ·have k:wD false .slice v .nils=.val (.bool false):=by
   have h:=hv.2;unfold SlV at h
   split at h
   ·exact absurd rfl hn
   ·rfl
   ·rfl
   ·exact h.1.elim
   ·exact h.elim
  simp only[sz,simprocAttr,br,k];refine Dq (l:=l) ((hv.tree (TG _)).ints) (by simp[RQ]) (by simp) hl2 λu g1 hu f1=>?_;simp only[sz,simprocAttr];exact kk u g1 hu ((Fr.new g _).trans f1)
theorem t_(ps:List Int)(k:Nat)(v:Int)(hk:k<=ps.length):(S.R3 ps k v).length=ps.length+1:=by simp[S.R3];omega
theorem GU{b p id2 ep2:Nat}{lim:Option Nat}{lo fz:Bool}(hu:CloneR b l u g)(hl:l.length<=1000)(hp:p<=l.length)(h2:g.h.get id2=.cells 1 [ci x] ep2 lo fz)(hne:∀i,vid u=some i->i≠id2)(hb:b<=g.nx) :
  ∃w g',ah C0 d 160 [u,XL (p:Int),.hsl id2 ep2 0 1 lim] g=.upd w g'/\Own g' b w 1 ((S.R3 l p x).map ci)/\g.nx<=g'.nx/\(∀i,i<g.nx->vid u≠some i->g'.h.get i=g.h.get i):=by
 rw[oa];have e0:ku d [u,XL (p:Int),.hsl id2 ep2 0 1 lim] g=y_ id2 p u [ci x] g:=by
  show (match g.get id2 with
   |.cells sz2 vrows ep2' _ _=>ay ((((Nat.beq sz2 1&&Nat.beq ep2 ep2')&&Nat.beq 0 0)&&Nat.beq 1 (bj vrows))&&Nat.ble 1 1) (y_ id2 p u vrows g) .fail
   |_=>.fail)=_
  rw[G.get_eq,h2];dsimp only;rw[aa,TO];simp[aA]
 rw[e0];have k:p=0->l=[]->∃w g',qJ p [ci x] g=.upd w g'/\Own g' b w 1 ((S.R3 l p x).map ci)/\g.nx<=g'.nx/\(∀i,i<g.nx->vid u≠some i->g'.h.get i=g.h.get i):=λh1 h2=>by
  subst h1;subst h2;refine⟨.hsl g.nx 0 0 1 none,g.new (.cells 1 [ci x] 0 true false),?_,.inr ⟨g.nx,0,true,hb,by simp,rfl,by simp[aP,S.R3]⟩,by simp,λi hi _=>?_⟩
  ·unfold qJ;rw[aa,TO]
   ·rfl
   ·simp[aA]
  ·rw[G.new_h,au _ _ _ (by omega)]
 rcases hu with⟨rfl,rfl⟩|⟨id,lo2,h3,h4,rfl,h5,h6,h7⟩
 ·exact k (by simpa using hp) rfl
 ·cases l with
  | nil =>
   have e1:y_ id2 p (.hsl id 0 0 ([]:List Int).length none) [ci x] g=qJ p [ci x] g:=by rw[h7 rfl]at h5;simp only[y_,G.get_eq,h5,Vg];rw[aa,TO];simp
   rw[e1];exact k (by simpa using hp) rfl
  | cons y l =>
   rw[h6 (by simp)]at h5;have c:=hne id rfl;have e1:y_ id2 p (.hsl id 0 0 (y::l).length none) [ci x] g=.upd (.hsl id 1 0 ((y::l).length+1) none) (g.put id (.cells 1 ((S.R3 (y::l) p x).map ci) 1 true false)):=by
    simp only[y_,G.get_eq,h5,VT];rw[aa,TO]
    ·simp[aA,be,ba,S.R3]
    ·rw[show Nat.beq 1 1=true from rfl];have a:Nat.beq id id2=false:=by rw[<-Vh,Nat.beq_eq];exact c
     simp only[a,jz,aA,Uv,TM,Uw,Uq,TT,Vq,true_and,and_true];simp at hp hl
     (repeat' apply TF)<;>first|omega| (simp;done)
   rw[e1];refine⟨_,_,rfl,.inr ⟨id,1,true,h3,by simpa using h4,?_,by simp[aP]⟩,by simp,λi hi hv=>?_⟩
   ·rw[TT,t_ _ _ _ hp]
   ·rw[G.put_h,au _ _ _ (λe=>hv (by rw[e];rfl))]
structure FacH (bx nd:List AV) (w u:AV) (vars cards:List Int) (beh:Int) (q:Nat) (g:G):Prop where
 h0:g.h.get 0=W8 5 [bx]
 h1:g.h.get 1=W8 3 [[.nils,.nils,.nils]]
 h2:g.h.get 2=W8 3 [nd]
 h8:g.h.get q=W8 3 [[w,u,.nils]]
 h9:g.h.get (q+1)=W8 1 [[XL beh]]
 hw:Own g 3 w 1 (vars.map ci)
 hu:Own g (q+2) u 1 (cards.map ci)
 wq:∀i,vid w=some i->i<q
 q3:3<=q
 qn:q+2<=g.nx
def nY(q:Nat):List (Nat×AV):=[(2,XM 0),(4,XM 1),(5,XM 2),(8,XM q),(9,XM (q+1))]
structure FacJ (gr:Int) (b cv sv oz:AV) (nd:List AV) (w:AV) (cs vars:List Int) (pl q j:Nat) (t:T) (g:G):Prop where
 st:St t ((38,w)::(6,XL (pl:Int))::nY q)
 hp:∃u,FacH [XL gr,b,cv,sv,oz] nd w u vars (S.RO cs (vars.take j)) (S.RP (S.RO cs ((vars.take j).drop (pl+1)))) q g
theorem Am{p:Int}(hp:l.take (j+1)=l.take j++[p])(hj:j<l.length)(h:k<j):(l.take (j+1)).drop (k+1)=(l.take j).drop (k+1)++[p]:=by rw[hp,List.drop_append_of_le_length (by simp;omega)]
theorem Al(h:j<=k):(l.take (j+1)).drop (k+1)=(l.take j).drop (k+1):=by rw[VU (by simp;omega),VU (by simp;omega)]
theorem Qr{pl:Nat}{cv sv oz:AV}{nd:List AV}{cs vars:List Int}(rc:∀h,ak h 1 cv=some (cs.map ci))(hvl:vars.length<=16)(hvp:∀p∈vars,0<=p/\p<cs.length)(hcb:∀c∈cs,1<=c/\c<=4)(hpl:pl<=1000)
  (h0:FacJ gr b cv sv oz nd w cs vars pl q 0 t g) (h40:tat t 40=XL 0) (h39:tat t 39=XL (vars.length:Int))
  (fin:∀t g,FacJ gr b cv sv oz nd w cs vars pl q vars.length t g->Q (.exit 0) t [] g):wpL (wp C0 d none dO) Q t [] g:=by
 simp only[dO,iB];refine aI (m:=vars.length) (by omega) (λj t df g=>df=[]/\FacJ gr b cv sv oz nd w cs vars pl q j t g) ⟨rfl,h0⟩ h40 h39 (by decide)
  (by rintro j t df g v s (rfl|rfl|rfl) ⟨a1,⟨b1,b2,J,K,L,M,N,-⟩,c1⟩<;>exact⟨a1,by simp[St,nY,sx,b1,b2,J,K,L,M,N],c1⟩) ?_ ?_
 ·rintro j t df g C ⟨rfl,⟨k,h6,h2,h4,h5,h8,h9,-⟩,u,hp⟩ h40 h39;obtain⟨p,D,B,E⟩:=ae C;obtain⟨hp0,W⟩:=hvp p E;obtain⟨pn,rfl⟩:=TP hp0;have r:pn<cs.length:=by omega
  have n:cs[pn]?=some cs[pn]:=TH r;have z:=hcb _ (Vr r);generalize cs[pn]=c at n z;have X:j<(vars.map ci).length:=by simpa using C
  have Y:(vars.map ci)[j]?=some (ci (pn:Int)):=by rw[TK,D];rfl
  have u3:pn<(cs.map ci).length:=by simpa using r
  have I:(cs.map ci)[pn]?=some (ci c):=by rw[TK,n];rfl
  have rw_:=hp.hw.rows;have q3:=hp.q3;have qn:=hp.qn;have epc:S.RO cs (vars.take (j+1))=S.RO cs (vars.take j)++[c]:=by rw[B,cQ];simp[S.RO,n]
  have R:(S.RO cs (vars.take j)).length<=16:=by simp[S.RO];omega
  have nq1:¬q=q+1:=by omega
  have nq2:¬q+1=q:=by omega
  refine ge (P:=λt' df g'=>df=[]/\g'=g/\St t' ((40,XL (j:Int))::(39,XL (vars.length:Int))::(10,XL (j:Int))::(11,XL (pn:Int))::(38,w)::(6,XL (pl:Int))::nY q)) ?_ ?_
  ·simp only[sz,simprocAttr,k,h40,rw_,X,Y,ci];simp[St,nY,sx,k,h6,h2,h4,h5,h8,h9,h40,h39]
  clear k h6 h2 h4 h5 h8 h9 h40 h39;rintro t df g1 ⟨rfl,rfl,⟨h40,h39,h10,f,k,h6,h2,h4,h5,h8,h9,-⟩⟩;refine iX (P:=λt' df g'=>df=[]/\St t' ((40,XL (j:Int))::(39,XL (vars.length:Int))::(10,XL (j:Int))::(11,XL (pn:Int))::(38,w)::(6,XL (pl:Int))::nY q) /\
   ∃u,FacH [XL gr,b,cv,sv,oz] nd w u vars (S.RO cs (vars.take (j+1))) (S.RP (S.RO cs ((vars.take j).drop (pl+1)))) q g') ?_ ?_
  ·simp only[sz,simprocAttr,sf,h8,h2,f,hp.h8,hp.h0,rc,u3,I,ci];refine bk (b:=q+2) (rows:=(S.RO cs (vars.take j)).map ci) (new:=[[XL c]]) (hp.hu.fr (by simp;omega) λi hi=>?_) (by simp[sx,sy]) (by simp;omega) (by unfold aQ;simp;omega) λu' ga hu' n1 f1 vid1 lg1=>?_
   ·have:=(hp.hu.lt hi).2;simp[RQ];omega
   simp only[sx,sy]at n1 f1 vid1 lg1;have F:ga.h.get q=W8 3 [[w,u,.nils]]:=by rw[f1 q (by omega) (λe=>by have:=(hp.hu.lt e).1;omega),TN (by omega),hp.h8]
   simp only[sz,simprocAttr,sf,h8,F,hu'.cell.1,hu'.cell.2];refine⟨?_,?_,u',?_⟩
   ·simp only[Uf,Ug,Ud,T4];refine aN (false::(Xp (Xo (true::(true::(false::(true::[]))))))) [(0,7),(1,7)] (by simp[All2,am,aE]) (by decide) ?_;rintro p A x y hx H;simp only[Us,TY,Wt]at A;rcases A with rfl|rfl<;>(simp at hx H;subst hx;subst H;refine dh rfl rfl rfl rfl ?_ ?_ ?_<;>simp[am,aE,an]<;>omega)
   ·simp[St,nY,sx,k,h6,h2,h4,h5,h8,h9,h40,h39,h10,f]
   ·have keep:∀i,i<q+2->i≠q->(ga.h.put q (W8 3 [[w,u',.nils]])).get i=g1.h.get i:=λi hi hne=>by simp only[RQ,TN hne];rw[f1 i (by omega) (λe=>by have:=(hp.hu.lt e).1;omega),TN (by omega)]
    refine⟨(keep 0 (by omega) (by omega)).trans hp.h0,(keep 1 (by omega) (by omega)).trans hp.h1,(keep 2 (by omega) (by omega)).trans hp.h2,by simp[RQ],(keep (q+1) (by omega) (by omega)).trans hp.h9,hp.hw.fr (by simp;omega) λi hi=>keep i (by have:=hp.wq i hi;omega) (by have:=hp.wq i hi;omega),?_,hp.wq,q3,by simp;omega⟩;rw[epc,U_];exact hu'.fr (by simp;omega) λi hi=>by have:=(hu'.lt hi).1;simp[RQ,show ¬i=q by omega]
  clear hp qn rw_ h40 h39 h10 f k h6 h2 h4 h5 h8 h9;rintro t df g ⟨rfl,⟨h40,h39,h10,f,k,h6,h2,h4,h5,h8,h9,-⟩,u,hp⟩
  by_cases hk:pl<j
  ·have o:(pl:Int)<(j:Int):=by omega
   have ed:S.RP (S.RO cs ((vars.take (j+1)).drop (pl+1)))=S.RP (S.RO cs ((vars.take j).drop (pl+1)))*c:=by rw[Am B C hk,cQ,kY];simp[S.RO,n,S.RP]
   have V:=bG (l:=S.RO cs ((vars.take (j+1)).drop (pl+1))) (aZ hcb λp hp=>hvp p (Uc (Uz hp)));have U:=eP (a:=(S.RO cs ((vars.take (j+1)).drop (pl+1))).length) (b:=16) (by simp[S.RO];omega);have O:(4:Int) ^ 16=4294967296:=by decide
   have w1:IntKind.wrap .i64 (S.RP (S.RO cs ((vars.take j).drop (pl+1)))*c)=S.RP (S.RO cs ((vars.take (j+1)).drop (pl+1))):=by rw[<-ed,ap (by omega) (by omega)]
   simp only[sz,simprocAttr,sf,h10,h6,o,h9,hp.h9,h2,hp.h0,f,rc,u3,I,ci,w1];refine⟨?_,⟨?_,u,?_⟩,h40,h39⟩
   ·simp only[Uf,Ug,Ud,T4];exact aN (false::(Xp (Xo (true::[])))) [] (by simp[All2,am,aE]) (by decide) (by simp)
   ·simp[St,nY,sx,k,h6,h2,h4,h5,h8,h9]
   ·have qn:=hp.qn;have keep:∀i,i≠q+1->(g.h.put (q+1) (W8 1 [[XL (S.RP (S.RO cs ((vars.take (j+1)).drop (pl+1))))]])).get i=g.h.get i:=λi hne=>by simp only[RQ,TN hne]
    exact⟨(keep 0 (by omega)).trans hp.h0,(keep 1 (by omega)).trans hp.h1,(keep 2 (by omega)).trans hp.h2,(keep q (by omega)).trans hp.h8,by simp[RQ],hp.hw.fr (by simp;omega) λi hi=>keep i (by have:=hp.wq i hi;omega),hp.hu.fr (by simp;omega) λi hi=>keep i (by have:=(hp.hu.lt hi).1;omega),hp.wq,q3,by simp;omega⟩
  ·have o:¬((pl:Int)<(j:Int)):=by omega
   have ed:(vars.take (j+1)).drop (pl+1)=(vars.take j).drop (pl+1):=Al (by omega);simp only[sz,simprocAttr,h10,h6,o];refine⟨⟨by simp[St,nY,sx,k,h6,h2,h4,h5,h8,h9],u,?_⟩,h40,h39⟩;rw[ed];exact hp
 ·rintro t df g ⟨rfl,h⟩;exact fin t g h
section
variable {iw B C:Nat}{W:AV}{rws:List (List Int)}
def GH(h:H)(n:Nat):G:=⟨h,n,[]⟩
@[simp] theorem GH_h (h:H) (n:Nat):(GH h n).h=h:=rfl
@[simp] theorem GH_nx (h:H) (n:Nat):(GH h n).nx=n:=rfl
theorem Own.gh{b sz:Nat}{rows:List (List AV)}(h:Own g b v sz rows)(hv:vid v=some i):Own (GH g.h (i+1)) b v sz rows:=by
 rcases h with h|⟨id,ep,lo,h1,h2,rfl,h3⟩
 ·exact .inl h
 ·injection hv with hv;subst hv;exact .inr ⟨id,ep,lo,h1,by simp,rfl,h3⟩
structure FacG (g0:G) (iw:Nat) (W:AV) (rws:List (List Int)) (B C t:Nat) (h:H):Prop where
 fr:∀i,i<g0.nx->i≠iw->h.get i=g0.h.get i
 ow:Own (GH h (iw+1)) 3 W 1 ((S.Se rws B C t).map ci)
theorem FacG.up{t:Nat}{h':H}(hf:FacG g0 iw W rws B C t h)(hv:vid W=some iw)(hi:iw<g0.nx)(hh:∀i,i<g0.nx->h'.get i=h.get i):FacG g0 iw W rws B C t h' :=
 ⟨λi h1 h2=>by rw[hh i h1,hf.fr i h1 h2],hf.ow.fr (by simp) λi h=>by rw[hv]at h;injection h with h;subst h;exact hh _ hi⟩
structure FacI (g0 g2:G) (iw:Nat) (W z:AV) (r:List Int) (rws:List (List Int)) (B C q j i:Nat) (t:T) (g:G):Prop where
 st:St t ((78,z)::(12,XL (j:Int))::nY q)
 hp:FacG g0 iw W rws B C (j*C+i) g.h
 nx:g2.nx<=g.nx
 fr:∀i,g0.nx<=i->i<g2.nx->g.h.get i=g2.h.get i
theorem Qs{A:Nat}{z:AV}{r:List Int}{pa ra:AV}{rd:Option Nat}{g2:G}(hz:SlR NoP 0 .nil r z)(hr:rws[j]?=some r)(hrl:r.length=C)(hB:0<B)(hA:rws.length=A*B)(hsz:rws.length*C<=1000000)
  (e8:g0.h.get q=W8 3 [[w,u,W]]) (e2:g0.h.get 2=W8 3 [[XL (C:Int),pa,ra]]) (e9:g0.h.get (q+1)=W8 1 [[XL (B:Int)]]) (hq:q+1<g0.nx) (hq3:3<=q) (hiw:iw<g0.nx) (hvw:vid W=some iw) (hiq:q+1<iw) (hg2:g0.nx<=g2.nx)
  (h0:FacI g0 g2 iw W z r rws B C q j 0 t g) (h80:tat t 80=XL 0) (h79:tat t 79=XL (r.length:Int))
  (fin:∀t g,FacI g0 g2 iw W z r rws B C q j r.length t g->Q (.exit 4) t [] g):wpL (wp C0 d rd dP) Q t [] g:=by
 simp only[dP];refine aI (m:=r.length) hz.1 (λi t df g=>df=[]/\FacI g0 g2 iw W z r rws B C q j i t g) ⟨rfl,h0⟩ h80 h79 (by decide)
  (by rintro j t df g v s (rfl|rfl|rfl) ⟨a1,⟨b1,b2,J,K,L,M,N,-⟩,c1,O,R⟩<;>exact⟨a1,by simp[St,nY,sx,b1,b2,J,K,L,M,N],c1,O,R⟩) ?_ ?_
 ·rintro i t df g hi ⟨rfl,⟨a,k,h2,h4,h5,h8,h9,-⟩,hp,X,F⟩ h80 h79;obtain⟨x,hx,-,-⟩:=ae hi;have rz:=λh=>(hz.tree (h':=h) (TG 0)).ints;have u1:i<(r.map ci).length:=by simpa using hi
  have u2:(r.map ci)[i]?=some (ci x):=by rw[TK,hx];rfl
  have hj:=(TJ.1 hr).1;have f:i<C:=by omega
  have o:=DM (A:=A) (b:=B) (card:=C) (i:=j) (x:=i) hB (by omega) f;rw[<-hA]at o;have H:=JJ (b:=B) (card:=C) (A:=A) (i:=j) (x:=i) hB hA hr f hx;have Z:g.h.get q=W8 3 [[w,u,W]]:=by rw[hp.fr q (by omega) (by omega),e8]
  have k2:g.h.get 2=W8 3 [[XL (C:Int),pa,ra]]:=by rw[hp.fr 2 (by omega) (by omega),e2]
  have k9:g.h.get (q+1)=W8 1 [[XL (B:Int)]]:=by rw[hp.fr (q+1) (by omega) (by omega),e9]
  have p:=hp.ow.rows;rw[GH_h]at p;have V:j<1000001:=by have:rws.length*1<=rws.length*C:=Wf _ (by omega);omega
  have q1:=qR (x:=j) (y:=B) (by omega) hB;have q2:=xd (x:=j) (y:=B) hB;have l1:j / B*C<=S.R5 B C j i:=by unfold S.R5;have:(j / B*C+i)*1<=(j / B*C+i)*B:=Wf _ hB;omega
  have l2:(j / B*C+i)<=S.R5 B C j i:=by unfold S.R5;have:(j / B*C+i)*1<=(j / B*C+i)*B:=Wf _ hB;omega
  have l3:(j / B*C+i)*B<=S.R5 B C j i:=by unfold S.R5;omega
  have w1:IntKind.wrap .i64 (((j / B:Nat):Int)*(C:Int))=((j / B*C:Nat):Int):=by rw[<-UW,ap (by omega) (by omega)]
  have w2:IntKind.wrap .i64 (((j / B*C:Nat):Int)+(i:Int))=((j / B*C+i:Nat):Int):=by rw[ap (by omega) (by omega)];simp
  have w3:IntKind.wrap .i64 (((j / B*C+i:Nat):Int)*(B:Int))=(((j / B*C+i)*B:Nat):Int):=by rw[<-UW,ap (by omega) (by omega)]
  have w4:IntKind.wrap .i64 ((((j / B*C+i)*B:Nat):Int)+((j % B:Nat):Int))=((S.R5 B C j i:Nat):Int):=by rw[<-Int.natCast_add];show IntKind.wrap .i64 ((S.R5 B C j i:Nat):Int)=_;rw[ap (by omega) (by omega)]
  have E:=Fc rws B C (j*C+i);have u3:S.R5 B C j i<((S.Se rws B C (j*C+i)).map ci).length:=by rw[TT,E];exact o
  have I:((S.Se rws B C (j*C+i)).map ci)[S.R5 B C j i]?=some (((S.Se rws B C (j*C+i)).map ci)[S.R5 B C j i]):=TH u3;have l:∃y:Int,((S.Se rws B C (j*C+i)).map ci)[S.R5 B C j i]=ci y:=⟨_,WN ..⟩;obtain⟨y,Y⟩:=l;rw[Y]at I;have U:g0.nx<=g.nx:=by omega
  refine ge (P:=λt' df g'=>df=[]/\g'=g/\St t' ((80,XL (i:Int))::(79,XL (r.length:Int))::(14,XL (i:Int))::(15,XL x)::(78,z)::(12,XL (j:Int))::nY q)) ?_ ?_
  ·simp only[sz,simprocAttr,a,h80,rz,u1,u2,ci];simp[St,nY,sx,a,k,h2,h4,h5,h8,h9,h80,h79]
  clear a k h2 h4 h5 h8 h9 h80 h79;rintro t df g1 ⟨rfl,rfl,⟨h80,h79,D,h15,a,k,h2,h4,h5,h8,h9,-⟩⟩;simp only[sz,simprocAttr,sf,h8,k,h9,h5,D,h15,Z,k2,k9,q1,q2,w1,w2,w3,w4,p,u3];refine bC (v:=W) (sz:=1) (n:=1) (i:=S.R5 B C j i) (off:=0) (x:=XL x) (row':=ci x) ((hp.ow.fr (g':=g1) (by simp;omega) λi _=>rfl).fr (by simp;omega) λi _=>by simp) I rfl rfl rfl λg4 hu4 n4 f4=>?_;rw[<-Vf,H]at hu4;have c:∀i,i≠iw->g4.h.get i=g1.h.get i:=λi hi=>by rw[f4 i (by rw[hvw];intro e;injection e with e;exact hi e.symm)];simp
  have h3:g1.nx<=g4.nx:=by rw[n4];simp;omega
  simp only[sx,sy,↓reduceIte,Nat.reduceEqDiff];refine⟨?_,⟨?_,⟨λi h1 h2=>?_,?_⟩,?_,λi h1 h2=>?_⟩,h80,h79⟩
  ·simp only[Uf,Ug,Ud,T4];exact aN (Xp (Xn (Xn (true::[])))) [] (by simp[All2,am,aE]) (by decide) (by simp)
  ·simp[St,nY,sx,a,k,h2,h4,h5,h8,h9]
  ·simp only[bumpG_h];rw[c i h2,hp.fr i h1 h2]
  ·exact hu4.gh hvw
  ·simp;omega
  ·simp only[bumpG_h];rw[c i (by omega),F i h1 h2]
 ·rintro t df g ⟨rfl,h⟩;exact fin t g h
theorem Lx{A:Nat}{pa ra pa' ra':AV}(hra:SlR NoP 0 .nil rws ra')(hrl:∀r∈rws,r.length=C)(hB:0<B)(hA:rws.length=A*B)(hsz:rws.length*C<=1000000)
  (h75:tat t 75=.clo 165 [] [.tptr 0 3 [[XL (C:Int),pa',ra']] 0 0])
  (e8:g0.h.get q=W8 3 [[w,u,W]]) (e2:g0.h.get 2=W8 3 [[XL (C:Int),pa,ra]]) (e9:g0.h.get (q+1)=W8 1 [[XL (B:Int)]]) (hq:q+1<g0.nx) (hq3:3<=q) (hiw:iw<g0.nx) (hvw:vid W=some iw) (hiq:q+1<iw)
  (ht:St t (nY q)) (hW:Own g0 3 W 1 ((List.replicate (rws.length*C) (0:Int)).map ci))
  (fin:∀g',FacG g0 iw W rws B C (rws.length*C) g'.h->g0.nx+2<=g'.nx->g'.h.get g0.nx=.dfr true->Q .norm t [.mark g0.nx] g') :
  wp C0 d none (.rng 105 (.t 75) [76,77] dN dQ) Q t [] g0:=by
 obtain⟨h2,h4,h5,h8,h9,-⟩:=ht;refine F8 (c:=(C:Int)) (pa:=pa') hra h75 (by decide) (by decide) (λj h=>FacG g0 iw W rws B C (j*C) h) (λ_=>False) ?_ ?_ ?_ ?_ fin ?_
 ·intro j h h' m hf;exact hf.up hvw hiw m
 ·intro h h' _ hf;exact hf
 ·refine⟨λi _ _=>rfl,?_⟩;rw[WP,JK];exact hW.gh hvw
 ·intro j r z g1 hr hz hf n;have k:=hrl r (TL hr);simp only[sz,simprocAttr,dN];intro g2 l e;have a:FacG g0 iw W rws B C (j*C) g2.h:=hf.up hvw hiw λi hi=>e i (by omega);simp only[sz,simprocAttr,dQ,hz.len];refine Qs (g2:=g2) (A:=A) (q:=q) (iw:=iw) (w:=w) (u:=u) (W:=W) (z:=z) (r:=r) (rws:=rws) hz hr k hB hA hsz e8 e2 e9 hq hq3 hiw hvw hiq (by omega) ⟨by simp[St,nY,sx,h2,h4,h5,h8,h9],by simpa using a,TG _,λ_ _ _=>rfl⟩ (by simp[sx]) (by simp[sx]) ?_;rintro t g ⟨-,hp,f,b⟩;simp only[sx,sy,↓reduceIte];refine⟨f,b,.inl ⟨rfl,?_⟩⟩;rw[k,show j*C+C=(j+1)*C by rw[Ub,UN]]at hp;exact hp
 ·intro g' hf;exact hf.elim
end
def S.Sj(n:Net)(i:Nat)(x:Node)(p:Nat):Factor:=⟨S.R3 x.parents p (i:Int),S.RO (S.RN n) (S.R3 x.parents p (i:Int)),S.S8 x.rows (S.RP (S.RO (S.RN n) (x.parents.drop p))).toNat x.card.toNat⟩
def RE(n:Net)(i:Nat)(x:Node):VS:=λP k h v=>∃p:Nat,p<=x.parents.length/\Agg (S.Sj n i x p) P k h v
theorem GT{ps:List Int}{v:Int}(hk:k<=ps.length):(S.R3 ps k v).drop (k+1)=ps.drop k:=by
 have h1:S.R3 ps k v=(ps.take k++[v])++ps.drop k:=by simp[S.R3]
 rw[h1,List.drop_left' (by simp;omega)]
theorem Own.low{b b':Nat}{sz:Nat}{rows:List (List AV)}(h:Own g b v sz rows)(hb:b'<=b):Own g b' v sz rows:=by
 rcases h with h|⟨id,ep,lo,h1,h2⟩
 ·exact .inl h
 ·exact .inr ⟨id,ep,lo,by omega,h2⟩
theorem LA(h:w.cells=[w])(h2:w.isTup=false):d7 [.nils,.nils,.nils] [((0,1),w)]=some [w,.nils,.nils]:=by
 simp[d7,h,h2,fQ]
 rfl
theorem JM{x:Node}{o:List Int}(hd:0<d)(hr:NR n)(hm:Agg ((n,S.RN n,S.RX n,o):NwM) NoP 0 g.h v)(hx:n.nodes[i]?=some x) :
  ∃r,ah C0 d 145 [v,XL (i:Int)] g=.val r/\RE n i x NoP 0 .nil r:=by
 have e0:=mo d hm;obtain⟨cs,rfl,hc⟩:=hm;obtain⟨b,cv,sv,oz,rfl,hN,J,-,-⟩:=yF.1 hc;have hN:SlR NoP 0 .nil n.nodes b:=hN.tree (h':=.nil) (TG 0);have J:SlR NoP 0 .nil (S.RN n) cv:=J.tree (h':=.nil) (TG 0);obtain⟨rows,r1,r2,r3,r4⟩:=hN.all;obtain⟨row,q1,q2⟩:=r3 i x hx;obtain⟨pa,ra,rfl,E,F⟩:=cI.1 q2;have z:=TL hx;have hs:=(TJ.1 hx).1;have ht:=hr.l2;have hlt:i<rows.length:=by omega
 have k4:=r4 (by omega);have k3:=dy (hr.places x z) (by omega);have s:=hr.pin z;have r1:∀h',ak h' 3 b=some rows:=r1;have rc:=λh=>(J.tree (h':=h) (TG 0)).ints;rw[pt];refine aL rY (xs:=[.agg [XL n.grain,b,cv,sv,oz],XL (i:Int)]) (by simp only[aF,e0,bD 0]) (by simp[fE]) (md λo=>cq _) (by decide) hd ?_;simp only[sz,simprocAttr,fE];obtain⟨g0,hg0⟩:∃g0,g0=(G.empty.new (W8 5 [[XL n.grain,b,cv,sv,oz]])).new (W8 3 [[.nils,.nils,.nils]]):=⟨_,rfl⟩;rw[<-hg0];have f0:g0.h.get 0=W8 5 [[XL n.grain,b,cv,sv,oz]]:=by rw[hg0];simp[sx,RQ]
 have f1:g0.h.get 1=W8 3 [[.nils,.nils,.nils]]:=by rw[hg0];simp[sx]
 have f2:g0.nx=2:=by rw[hg0];simp[sx]
 clear hg0;simp only[jj];refine iX (P:=λt' df g'=>df=[]/\g'.nx=3/\g'.h.get 0=W8 5 [[XL n.grain,b,cv,sv,oz]]/\g'.h.get 1=W8 3 [[.nils,.nils,.nils]]/\g'.h.get 2=W8 3 [[XL x.card,pa,ra]]/\St t' [(1,XL (i:Int)),(2,XM 0),(4,XM 1),(5,XM 2)]) ?_ ?_
 ·simp only[sz,simprocAttr,f0,r1,hlt,q1];simp[St,sx,f1,f2]
 rintro t df g1 ⟨rfl,n1,k0,k1,k2,h1,h2,h4,h5,-⟩;obtain⟨p,sb,hp,es⟩:=Ko (d:=d+1) (g:=g1) (x:=(i:Int)) (TW d) (E.tree (TG 0)) (by omega);refine iX (P:=λt' df g'=>df=[]/\g'=g1/\St t' [(1,XL (i:Int)),(2,XM 0),(4,XM 1),(5,XM 2),(6,XL (p:Int))]) ?_ ?_
 ·simp only[sz,simprocAttr,h5,h1,k2,es];simp[St,sx,h1,h2,h4,h5]
 clear h1 h2 h4 h5;rintro t df g2 ⟨rfl,rfl,h1,h2,h4,h5,h6,-⟩;refine iX (P:=λt' df g'=>df=[]/\∃w q,w.cells=[w]/\FacH [XL n.grain,b,cv,sv,oz] [XL x.card,pa,ra] w .nils (S.R3 x.parents p (i:Int)) [] 1 q (g'.new (W8 1 [[XL 1]]))/\g'.nx=q+1/\St t' [(2,XM 0),(4,XM 1),(5,XM 2),(6,XL (p:Int)),(8,XM q)]) ?_ ?_
 ·simp only[sz,simprocAttr,h5,k2];refine Jw (l:=x.parents) E (by omega) λu ga hu fa=>?_;simp only[sz,simprocAttr,h6,h1];have R:∀i,vid u=some i->g2.nx<=i/\i<ga.nx:=λi hi=>by
   rcases hu with⟨-,rfl⟩|⟨id,lo,a1,a2,rfl,-⟩
   ·cases hi
   ·injection hi with hi;subst hi;exact⟨a1,a2⟩
  have fa1:=fa.1;obtain⟨w,g3,e3,hw,n3,f3⟩:=GU (d:=d+1) (b:=g2.nx) (p:=p) (id2:=ga.nx) (ep2:=0) (x:=(i:Int)) (lim:=none) (hu.fr (Fr.new ga (W8 1 [[XL (i:Int)]]))) (by omega) hp (by simp[RQ];exact⟨rfl,rfl,rfl⟩) (λj hj=>by have:=R j hj;omega) (by simp;omega);rw[e3];simp only[sz,simprocAttr,LA hw.cell.1 hw.cell.2];have k6:ga.nx+1<=g3.nx:=by simpa using n3
  have keep:∀j,j<3->g3.h.get j=g2.h.get j:=λj hj=>by rw[f3 j (by simp;omega) (λe=>by have:=R j e;omega),<-fa.2 j (by omega)];simp[RQ,show ¬j=ga.nx by omega]
  have H:∀j,vid w=some j->3<=j/\j<g3.nx:=λj hj=>by have:=hw.lt hj;omega
  have ne1:∀j,j<g3.nx->¬j=g3.nx/\¬j=g3.nx+1:=λj hj=>by omega
  refine⟨w,g3.nx,hw.cell.1,⟨?_,?_,?_,?_,?_,?_,?_,?_,?_,?_⟩,?_,?_⟩
  ·simp[RQ,ne1 0 (by omega),keep 0 (by omega),k0,show ¬g3.nx=0 by omega]
  ·simp[RQ,ne1 1 (by omega),keep 1 (by omega),k1,show ¬g3.nx=0 by omega]
  ·simp[RQ,ne1 2 (by omega),keep 2 (by omega),k2]
  ·simp[RQ]
  ·simp[RQ]
  ·refine (Own.low hw (b':=3) (by omega)).fr (by simp;omega) λj hj=>?_;have:=ne1 j (H j hj).2;simp[RQ,this]
  ·exact .inl ⟨rfl,rfl⟩
  ·exact λj hj=>(H j hj).2
  ·omega
  ·simp
  ·simp
  ·simp[St,sx,h2,h4,h5,h6]
 clear h1 h2 h4 h5 h6 es;rintro t df g3 ⟨rfl,w,q,k5,m,O,h2,h4,h5,h6,h8,-⟩;have hq:=t_ x.parents p (i:Int) hp;have fa:=m.hw.rows;refine iX (P:=λt' df g'=>df=[]/\g'=(g3.new (W8 1 [[XL 0]])).put (q+1) (W8 1 [[XL 1]])/\St t' ((6,XL (p:Int))::nY q)) ?_ ?_
 ·simp only[sz,simprocAttr,O];simp[St,nY,sx,h2,h4,h5,h6,h8]
 clear h2 h4 h5 h6 h8;rintro t df U ⟨rfl,K,h6,h2,h4,h5,h8,h9,-⟩;have D:FacH [XL n.grain,b,cv,sv,oz] [XL x.card,pa,ra] w .nils (S.R3 x.parents p (i:Int)) [] 1 q U:=by
  have e:∀j,U.h.get j=(g3.new (W8 1 [[XL 1]])).h.get j:=λj=>by
   rw[K]
   by_cases hj:j=q+1<;>simp[RQ,O,hj]
  have en:U.nx=(g3.new (W8 1 [[XL 1]])).nx:=by rw[K];simp
  exact⟨by rw[e,m.h0],by rw[e,m.h1],by rw[e,m.h2],by rw[e,m.h8],by rw[e,m.h9],m.hw.fr (by omega) λj _=>e j,m.hu.fr (by omega) λj _=>e j,m.wq,m.q3,by rw[en];exact m.qn⟩
 clear K m;have H:∀g,cH .slice w g=.val (XL (((S.R3 x.parents p (i:Int)).length:Nat):Int)):=λg=>by
  rcases D.hw with⟨-,e⟩|⟨id,ep,lo,-,-,rfl,-⟩
  ·have:((S.R3 x.parents p (i:Int)).map ci).length=0:=by rw[e];rfl
   rw[TT]at this;omega
  ·rw[TT];rfl
 simp only[sz,simprocAttr,h8,D.h8,H];refine Qr (gr:=n.grain) (b:=b) (cv:=cv) (sv:=sv) (oz:=oz) (nd:=[XL x.card,pa,ra]) (w:=w) (cs:=S.RN n) (vars:=S.R3 x.parents p (i:Int)) (pl:=p) (q:=q) rc (by omega) ?_ hr.cs (by omega) ⟨by simp[St,nY,sx,h2,h4,h5,h6,h8,h9],.nils,by simpa [S.RO,S.RP] using D⟩ (by simp[sx]) (by simp[sx]) ?_
 ·intro y hy;simp only[S.R3,Uk,Us]at hy;rcases hy with hy|rfl|hy
  ·exact s y (Uc hy)
  ·rw[aB];omega
  ·exact s y (Uz hy)
 clear h2 h4 h5 h6 h8 h9 D;rintro t g ⟨⟨V,h6,h2,h4,h5,h8,h9,-⟩,u,f⟩;rw[Ur,GT hp]at f;have ho:=hr.card x z;have Z:∀c∈S.RO (S.RN n) (x.parents.drop p),1<=c/\c<=4:=aZ hr.cs λp hp=>s p (Uz hp);have hb:∀c∈S.RO (S.RN n) (x.parents.take p),1<=c/\c<=4:=aZ hr.cs λp hp=>s p (Uc hp);have er:(x.rows.length:Int)=S.RP (S.RO (S.RN n) (x.parents.take p))*S.RP (S.RO (S.RN n) (x.parents.drop p)):=by
  rw[hr.rows x z]
  conv=>lhs;rw[<-UE p x.parents,cQ,kY]
 have hl:=co λc hc=>(Z c hc).1;have hk:=co λc hc=>(hb c hc).1;have hv:=bG (l:=S.RO (S.RN n) x.parents) (aZ hr.cs s);have D:=eP (a:=(S.RO (S.RN n) x.parents).length) (b:=8) (by simp[S.RO];omega);have hh:(4:Int) ^ 8=65536:=by decide
 have h7:=hr.rows x z;obtain⟨B,X⟩:=TP (show 0<=S.RP (S.RO (S.RN n) (x.parents.drop p)) by omega);obtain⟨A,hA⟩:=TP (show 0<=S.RP (S.RO (S.RN n) (x.parents.take p)) by omega);obtain⟨C,hC⟩:=TP (show 0<=x.card by omega);have M:x.rows.length=A*B:=by
  have:((x.rows.length:Nat):Int)=((A*B:Nat):Int):=by rw[er,UW,hA,X]
  omega
 have ha:x.rows.length*C<=1000000:=by
  have h1:x.rows.length<=65536:=by omega
  have h2:C<=4:=by omega
  have:=W7 h1 h2;omega
 have rl:=λg=>(F.tree (h':=g) (TG 0)).len;have rl:=λg=>(F).len g;have w1:IntKind.wrap .i64 ((x.rows.length:Int)*(C:Int))=((x.rows.length*C:Nat):Int):=by rw[<-UW,ap (by omega) (by omega)]
 rw[X]at f;simp only[iD,hC]at f ⊢;obtain⟨pa',ra',er',Q,I⟩:=A7 (d:=d+1) (g:=.empty) (x:=x) (v:=.agg [XL (C:Int),pa,ra]) (TW d) ⟨_,rfl,cI.2 ⟨pa,ra,by rw[hC],E.tree (TG 0),F.tree (TG 0)⟩⟩;have q3:=f.q3;have qn:=f.qn;refine iX (P:=λt' df g'=>df=[]/\∃W,vid W=some g.nx/\g'.nx=g.nx+1/\(∀i,i<g.nx->i≠q->g'.h.get i=g.h.get i)/\g'.h.get q=W8 3 [[w,u,W]]/\Own g' 3 W 1 ((List.replicate (x.rows.length*C) (0:Int)).map ci)/\St t' (nY q)) ?_ ?_
 ·simp only[sz,simprocAttr,h5,f.h2,rl,w1];refine mb (b:=3) (n:=x.rows.length*C) (by unfold aQ;omega) (by unfold aQ;omega) (by omega) λW g1 hW n1 f1 vW=>?_;have T:g1.h.get q=W8 3 [[w,u,.nils]]:=by rw[f1 q (by omega),f.h8]
  simp only[sz,simprocAttr,h8,T,hW.cell.1,hW.cell.2];refine⟨W,vW,by simpa using n1,λi h1 h2=>?_,by simp[RQ],?_,by simp[St,nY,sx,h2,h4,h5,h8,h9]⟩
  ·simp[h2];exact f1 i h1
  ·have Y:Own g1 3 W 1 ((List.replicate (x.rows.length*C) (0:Int)).map ci):=by simpa [ci] using hW
   exact Y.fr (by simp) λi hi=>by have:=dv vW hi;simp[RQ,show ¬i=q by omega]
 clear V h6 h2 h4 h5 h8 h9;rintro t df g1 ⟨rfl,W,vW,n1,f1,T,hW,h2,h4,h5,h8,h9,-⟩;have k2:g1.h.get 2=W8 3 [[XL (C:Int),pa,ra]]:=by rw[f1 2 (by omega) (by omega),f.h2]
 have k9:g1.h.get (q+1)=W8 1 [[XL (B:Int)]]:=by rw[f1 (q+1) (by omega) (by omega),f.h9]
 have k1:g1.h.get 1=W8 3 [[.nils,.nils,.nils]]:=by rw[f1 1 (by omega) (by omega),f.h1]
 obtain⟨pa',ra',er',Q,I⟩:=A7 (d:=d+1) (g:=g1) (x:=x) (v:=.agg [XL (C:Int),pa,ra]) (TW d) ⟨_,rfl,cI.2 ⟨pa,ra,by rw[hC],E.tree (TG 0),F.tree (TG 0)⟩⟩;rw[hC]at er';rw[b_,b_];simp only[sz,simprocAttr,h5,k2,er'];refine Lx (A:=A) (B:=B) (C:=C) (q:=q) (iw:=g.nx) (w:=w) (u:=u) (W:=W) (pa:=pa) (ra:=ra) (pa':=pa') I (λr hrm=>by have:=(hr.row x z r hrm).1;omega) (by omega) M ha (by simp[sx]) T k2 k9 (by omega) q3 (by omega) vW (by omega) (by simp[St,nY,sx,h2,h4,h5,h8,h9]) hW ?_;intro g' hf hn h3;have hg:g'.h.get q=W8 3 [[w,u,W]]:=by rw[hf.fr q (by omega) (by omega),T]
 have he:g'.h.get 1=W8 3 [[.nils,.nils,.nils]]:=by rw[hf.fr 1 (by omega) (by omega),k1]
 simp only[sz,simprocAttr,iC,h8,hg,h4,he];refine eM (by simp[RQ,show ¬g1.nx=1 by omega,h3]) ?_;simp only[sx,sy,↓reduceIte,Nat.reduceEqDiff,h4];rw[TN (by omega)];simp only[sx,sy,↓reduceIte,Nat.reduceAdd,Nat.reduceLeDiff];have lw:=f.hw;have lu:=f.hu;have lW:=hf.ow;have L:∀i,i<g1.nx->i≠1->((g'.h.put 1 (W8 3 [[w,u,W]])).put g1.nx (.dfr false)).get i=g'.h.get i:=λi h1 h2=>by simp[RQ,h2,show ¬i=g1.nx by omega]
 have oW:Own (GH ((g'.h.put 1 (W8 3 [[w,u,W]])).put g1.nx (.dfr false)) (g.nx+1)) 3 W 1 ((S.Se x.rows B C (x.rows.length*C)).map ci):=lW.fr (by simp) λi hi=>by have:=dv vW hi;exact L i (by omega) (by omega)
 have ow:Own (GH ((g'.h.put 1 (W8 3 [[w,u,W]])).put g1.nx (.dfr false)) (g.nx+1)) 3 w 1 ((S.R3 x.parents p (i:Int)).map ci):=lw.fr (by simp) λj hj=>by have:=f.wq j hj;have:=(lw.lt hj).1;show ((g'.h.put 1 (W8 3 [[w,u,W]])).put g1.nx (.dfr false)).get j=_;rw[L j (by omega) (by omega),hf.fr j (by omega) (by omega),f1 j (by omega) (by omega)]
 have ou:Own (GH ((g'.h.put 1 (W8 3 [[w,u,W]])).put g1.nx (.dfr false)) (g.nx+1)) (q+2) u 1 ((S.RO (S.RN n) (S.R3 x.parents p (i:Int))).map ci):=lu.fr (by simp) λj hj=>by have:=lu.lt hj;show ((g'.h.put 1 (W8 3 [[w,u,W]])).put g1.nx (.dfr false)).get j=_;rw[L j (by omega) (by omega),hf.fr j (by omega) (by omega),f1 j (by omega) (by omega)]
 have N:(S.Se x.rows B C (x.rows.length*C))=S.S8 x.rows (S.RP (S.RO (S.RN n) (x.parents.drop p))).toNat x.card.toNat:=by rw[X,hC,Ux,Ux];exact Lw (A:=A) (by omega) M
 refine⟨λ_=>True,p,hp,_,rfl,qf.2 ⟨w,u,W,rfl,?_,?_,?_⟩⟩
 ·obtain⟨_,e1,h⟩:=ow.ints (k:=0) (by omega);injection e1 with e1;subst e1;exact h
 ·obtain⟨_,e1,h⟩:=ou.ints (k:=0) (by simp[S.RO];omega);injection e1 with e1;subst e1;exact h
 ·rw[N]at oW;obtain⟨_,e1,h⟩:=oW.ints (k:=0) (by rw[<-N,Fc];omega);injection e1 with e1;subst e1;exact h
def S.To(n:Net)(l:List Factor):Prop:=∀(i:Nat) (x:Node),i<l.length->n.nodes[i]?=some x->∃p,p<=x.parents.length/\l[i]?=some (S.Sj n i x p)
def Rb(n:Net):VS:=λP k h v=>∃l:List Factor,((S.Sl n=true->l.length=n.nodes.length)/\S.To n l)/\pj (One l) (One (if S.Sl n then (0:Int) else 50)) P k h v
structure FasJ (n:Net) (W b cv sv oz:AV) (j:Nat) (t:T) (g:G):Prop where
 st:St t [(4,XM 1),(6,W)]
 hg:g.h.get 1=W8 5 [[XL n.grain,b,cv,sv,oz]]
 hW:∃(rows:List (List AV)) (l:List Factor),Own g 2 W 3 rows/\rows.length=n.nodes.length/\l.length=j/\All2 (Rp.rp NoP 0 .nil) l (rows.take j)/\S.To n l/\∀i,j<=i->i<n.nodes.length->rows[i]?=some [.nils,.nils,.nils]
theorem On(hd:0<d)(hm:Agg n NoP 0 g.h v):∃r,ah C0 d 112 [v] g=.val r/\Rb n NoP 0 .nil r:=by
 obtain⟨b,rows,rfl,e1,Q,hN,r1,r2,r3,r4⟩:=fP d hm;rw[xD];refine aL Au (xs:=[.agg [XL n.grain,b]]) (by simp only[aF,e1]) (by simp[oC]) (md λo=>bO (m:=2) (aJ _) (aJ _) (by decide) (by decide)) (by decide) hd ?_;simp only[sz,simprocAttr,oC,rt];obtain⟨z,ez,hz⟩:=zp (d:=d+1) (g:=G.empty.new (W8 2 [[XL n.grain,b]])) (TW d) (n:=n) (v:=.agg [XL n.grain,b]) (Q _);rcases nX hz with⟨D,cs,rfl,w⟩|⟨D,b',cv,sv,oz,o,rfl,hb,O,V,T⟩
 ·obtain⟨a1,a2,c,a4,H,rfl⟩:∃a1 a2 c a4 H,cs=[a1,a2,c,a4,H]:=by
   match cs,w with
   |[a1,a2,c,a4,H],_=>exact⟨a1,a2,c,a4,H,rfl⟩
  simp only[sz,simprocAttr,ez,show ¬((50:Int)=0) from by decide];refine⟨NoP,[],⟨λh=>(by rw[D]at h;cases h),λi x hi=>(by simp at hi)⟩,_,_,rfl,⟨_,rfl,⟨by show 0<9223372036854775808;decide,rfl⟩⟩,?_⟩;rw[D];exact ax.2 rfl
 ·have hr:=cA.1 D;have h3:=hr.l2;simp only[sz,simprocAttr,ez,hb.len];refine mb (b:=2) (n:=n.nodes.length) (by unfold aQ;omega) (by unfold aQ;omega) (by simp) λW g1 hW n1 f1 vW=>?_;have k1:g1.h.get 1=W8 5 [[XL n.grain,b',cv,sv,oz]]:=by rw[f1 1 (by simp)];simp[RQ]
  have J:∀(g:G) (rows:List (List AV)),rows.length=n.nodes.length->Own g 2 W 3 rows->cH .slice W g=.val (XL (n.nodes.length:Int)):=λg rows h1 h=>by
   rcases h with⟨rfl,e⟩|⟨id,ep,lo,-,-,rfl,-⟩
   ·cases vW
   ·rw[h1];rfl
  have P:=J g1 _ (by simp) hW;have Z:vN W=true:=by
   rcases hW with⟨rfl,e⟩|⟨id,ep,lo,-,-,rfl,-⟩
   ·cases vW
   ·rfl
  simp only[sz,simprocAttr,P];simp only[pI];refine aI (m:=n.nodes.length) (by omega) (λj t df g=>df=[]/\FasJ n W b' cv sv oz j t g) ⟨rfl,by simp[St,sx],k1,_,[],hW,by simp,rfl,trivial,λi x hi=>(by simp at hi),λi _ hi=>by simp[hi]⟩ (by simp[sx]) (by simp[sx]) (by decide)
   (by rintro j t df g v s (rfl|rfl|rfl) ⟨a1,⟨b1,b2,-⟩,c1,c2⟩<;>exact⟨a1,by simp[St,sx,b1,b2],c1,c2⟩) ?_ ?_
  ·rintro j t df g Y ⟨rfl,⟨h4,h6,-⟩,hg,rows',l,hW,E,u,q,A,k⟩ B I;obtain⟨x,hx,-,-⟩:=ae Y;have R:Agg ((n,S.RN n,S.RX n,o):NwM) NoP 0 g.h (.agg [XL n.grain,b',cv,sv,oz]):=⟨_,rfl,yF.2 ⟨b',cv,sv,oz,rfl,hb.tree (TG 0),O.tree (TG 0),V.tree (TG 0),T.tree (TG 0)⟩⟩;obtain⟨f,ef,p,hp,cs,rfl,w⟩:=JM (d:=d+1) (g:=g) (i:=j) (TW d) hr R hx;obtain⟨a1,a2,c,rfl,L,M,N⟩:=qf.1 w;have U:=k j (TG _) Y;have K:=hW.rows;have C:j<rows'.length:=by omega
   simp only[sz,simprocAttr,B,h6,h4,hg,ef,K,C];refine bC (v:=W) (sz:=3) (n:=3) (i:=j) (off:=0) (x:=.agg [a1,a2,c]) (row':=[a1,a2,c]) hW U (by rfl) rfl ?_ λg4 hW4 n4 f4=>?_
   ·rfl
   have X:(rows'.set j [a1,a2,c]).take (j+1)=rows'.take j++[[a1,a2,c]]:=by
    rw[We,List.take_set_of_le (TG _),VV C]
    rfl
   simp only[sx,sy,↓reduceIte,Nat.reduceEqDiff];refine⟨⟨by simp[St,sx,h4,h6],?_,_,l++[S.Sj n j x p],hW4,by simpa using E,by simp[u],?_,?_,λi h1 h2=>by rw[Ws (by omega),k i (by omega) h2]⟩,B,I⟩
   ·rw[f4 1 λe=>by have:=(hW.lt e).1;omega,hg]
   ·rw[X];exact q.append ⟨qf.2 ⟨a1,a2,c,rfl,L,M,N⟩,trivial⟩
   ·intro i y hi F
    by_cases hij:i<l.length
    ·rw[T5 hij];exact A i y hij F
    ·have hi:i=j:=by simp at hi;omega
     subst hi;rw[hx]at F;injection F with F;subst F;exact⟨p,hp,by rw[T0 (by omega),u];simp⟩
  ·rintro t df g ⟨rfl,⟨h4,h6,-⟩,hg,rows',l,hW,E,u,q,A,k⟩;rw[TX (by omega)]at q;simp only[sz,simprocAttr,pJ,h6];refine⟨λ_=>True,l,⟨λ_=>u,A⟩,_,_,rfl,⟨W,rfl,Own.sl (α:=Factor) hW (by omega) (q.mono λa b r=>Rp.tree r (TG 0)) λ_ _=>trivial⟩,?_⟩;rw[D];exact ax.2 rfl
section
variable {x:Node}
abbrev QnM:Type:=Net×List Factor×List (List Int)
theorem yG{x:QnM}{cs:List AV}:Rp.rp P k h x cs↔∃a b c,cs=[XL x.1.grain,a,b,c]/\SlR P k h x.1.nodes a/\SlR P k h x.2.1 b/\SlR P k h x.2.2 c:=by
 constructor
 ·rintro⟨c1,d,rfl,h1,e,f,rfl,⟨b,rfl,hb⟩,⟨c,rfl,hc⟩⟩;obtain⟨a,rfl,ha⟩:=ie.1 h1;exact⟨a,b,c,rfl,ha,hb,hc⟩
 ·rintro⟨a,b,c,rfl,ha,hb,hc⟩;exact⟨[_,a],[b,c],rfl,ie.2 ⟨a,rfl,ha⟩,[b],[c],rfl,⟨b,rfl,hb⟩,⟨c,rfl,hc⟩⟩
theorem Ni(h:NR n)(hx:n.nodes[k]?=some x):(k:Int) ∉ x.parents:=λhm=>by
 have hk:=(TJ.1 hx).1;have hl:=h.l2;have h1:=vY.1 h.acyc k (by simp[S.RX];exact hk);have h2:Par (S.RX n) k=S.R0 x.parents:=by simp[Par,S.RX,hx]
 have h3:(S.R0 x.parents).testBit k=true:=(zk λy hy=>by have:=da (h.places x (TL hx)) y hy;omega).2 hm;have h4:=zA (p:=S.RX n) (s:=Par (S.RX n) k) (S.RX n).length k (by rw[h2];exact h3);rw[h1]at h4;cases h4
theorem Kc{k:Int}(h:S.Sa l k=true):l.Nodup:=by rw[List.Nodup,VZ];intro i j hi b a e;have:=Kb h (TH hi) (TH b) a;omega
theorem L1(h:NR n)(hx:n.nodes[k]?=some x)(p:Nat):(S.R3 x.parents p (k:Int)).Nodup:=by unfold S.R3;rw[List.perm_middle.nodup_iff,UE,List.nodup_cons];exact⟨Ni h hx,Kc (h.places x (TL hx))⟩
theorem AH(h:NR n)(hx:n.nodes[k]?=some x)(p:Nat):∀y∈S.R3 x.parents p (k:Int),0<=y/\y<n.nodes.length:=λy hy=>by
 have hk:=(TJ.1 hx).1;have hp:=da (h.places x (TL hx));simp only[S.R3,Uk,Us]at hy;rcases hy with hy|rfl|hy
 ·exact hp y (Uc hy)
 ·omega
 ·exact hp y (Uz hy)
theorem vJ(cs ps:List Int):(S.RO cs ps).length=ps.length:=by simp[S.RO]
theorem JL(h:NR n)(hx:n.nodes[k]?=some x)(p:Nat):∀c∈(S.Sj n k x p).cards,1<=c/\c<=4 :=
 aZ h.cs λy hy=>by rw[aB];exact AH h hx p y hy
def S.Tj(m:Nat)(f:Factor)(i:Nat)(R:List Int):Prop:=R.length=m/\∀(j:Nat) (y:Int),i<=j->f.vars[j]?=some y->R[y.toNat]?=some (S.RP (f.cards.drop (j+1)))
theorem HB{f:Factor}{R:List Int}{y:Int}(h:S.Tj m f (i+1) R)(hnd:f.vars.Nodup)(hin:∀y∈f.vars,0<=y/\y<m)(hy:f.vars[i]?=some y):S.Tj m f i (R.set y.toNat (S.RP (f.cards.drop (i+1)))):=by
 refine⟨by simp[h.1],λj z hij hz=>?_⟩;have k:=hin y (TL hy);have a:=hin z (TL hz)
 by_cases e:j=i
 ·subst e;rw[hy]at hz;injection hz with hz;subst hz;rw[VV (by rw[h.1];omega)]
 ·rw[Ws]
  ·exact h.2 j z (by omega) hz
  ·intro e2;have e3:y=z:=by omega
   subst e3;exact e ((List.getElem?_inj (TJ.1 hz).1 hnd).1 (by rw[hz,hy]))
structure QnOk (n:Net) (y:QnM):Prop where
 net:y.1=n
 fl:y.2.1.length=n.nodes.length
 fs:S.To n y.2.1
 sl:y.2.2.length=n.nodes.length
 st:∀(k:Nat) (f:Factor) (R:List Int),y.2.1[k]?=some f->y.2.2[k]?=some R->S.Tj n.nodes.length f 0 R
def S.SH(n:Net)(ls:List (List Int)):Int:=if S.Sl n then (if ls.all (S.Sc n) then 0 else 2) else 50
def NS(n:Net)(ls:List (List Int)):VS:=λP k h v=>∃y:QnM,(S.SH n ls=0->QnOk n y)/\pj (Agg y) (One (S.SH n ls)) P k h v
end
def EA(fl:AV)(m q k:Nat):List (Nat×AV):=[(11,XM q),(2,XM 0),(4,XM 1),(45,fl),(46,XL (m:Int)),(47,XL (k:Int))]
structure AskI (fl:AV) (m q k:Nat) (g0:G) (iR:Nat) (R:AV) (f:Factor) (fb j:Nat) (t:T) (g:G):Prop where
 st:St t ((13,XM fb)::(12,XL (k:Int))::(14,XL (S.RP (f.cards.drop j)))::EA fl m q k)
 nx:g0.nx<=g.nx
 fr:∀i,i<g0.nx->i≠iR->g.h.get i=g0.h.get i
 ow:∃X:List Int,Own g 2 R 1 (X.map ci)/\S.Tj m f j X
theorem Qg{fb iR:Nat}{va ca wa S_ R fl fl':AV}{f:Factor}{rowsS:List (List AV)}(hva:SlR NoP 0 .nil f.vars va)(hca:SlR NoP 0 .nil f.cards ca)(hcl:f.cards.length=f.vars.length)(hvl:f.vars.length<=16)(hcb:∀c∈f.cards,1<=c/\c<=4)(hnd:f.vars.Nodup)(hin:∀y∈f.vars,0<=y/\y<m)
  (e11:g0.h.get q=W8 4 [[XL gr,b,fl',S_]]) (e13:g0.h.get fb=W8 3 [[va,ca,wa]]) (hS:Own g0 2 S_ 1 rowsS) (hk:rowsS[k]?=some [R]) (vR:vid R=some iR) (vS:vid S_≠some iR) (n1:q≠iR/\fb≠iR) (n2:q<g0.nx/\fb<g0.nx/\iR<g0.nx)
  (h0:AskI fl m q k g0 iR R f fb f.vars.length t g) (h15:tat t 15=XL ((f.vars.length:Int) - 1))
  (fin:∀t g,AskI fl m q k g0 iR R f fb 0 t g->Q (.exit 4) t [] g):wpL (wp C0 d none mM) Q t [] g:=by
 have rva:=λh=>(hva.tree (h':=h) (TG 0)).ints;have rca:=λh=>(hca.tree (h':=h) (TG 0)).ints;simp only[mM];refine xi (m:=f.vars.length) (by omega) (λj t df g=>df=[]/\AskI fl m q k g0 iR R f fb j t g) ⟨rfl,h0⟩ h15 (by decide)
  (by rintro j t df g v s (rfl|rfl|rfl|rfl|rfl) ⟨a1,⟨b1,b2,Y,Z,b5,b6,b7,b8,b9,-⟩,c1,c2,c3⟩<;>exact⟨a1,by simp[St,EA,sx,b1,b2,Y,Z,b5,b6,b7,b8,b9],c1,c2,c3⟩) ?_ ?_
 ·rintro j t df g V ⟨rfl,⟨u,A,B,z,h2,h4,K,L,M,-⟩,O,o,X,hX,F⟩ h15;obtain⟨y,W,-,H⟩:=ae V;obtain⟨P,H⟩:=hin y H;obtain⟨yn,rfl⟩:=TP P;have D:f.cards[j]?=some f.cards[j]:=TH (by omega);have C:=hcb _ (Vr (show j<f.cards.length by omega));have E:f.cards.drop j=f.cards[j]::f.cards.drop (j+1):=UM (by omega);generalize f.cards[j]=c at D C E;have u1:j<(f.vars.map ci).length:=by simpa using V
  have u2:(f.vars.map ci)[j]?=some (ci (yn:Int)):=by rw[TK,W];rfl
  have u3:j<(f.cards.map ci).length:=by simp;omega
  have u4:(f.cards.map ci)[j]?=some (ci c):=by rw[TK,D];rfl
  have h5:=F.1;have r:yn<X.length:=by omega
  have u5:yn<(X.map ci).length:=by simpa using r
  have u6:(X.map ci)[yn]?=some (ci X[yn]):=by rw[TK,TH r];rfl
  have U:g.h.get q=W8 4 [[XL gr,b,fl',S_]]:=by rw[o q n2.1 n1.1,e11]
  have I:g.h.get fb=W8 3 [[va,ca,wa]]:=by rw[o fb n2.2.1 n1.2,e13]
  have N:Own g 2 S_ 1 rowsS:=hS.fr O λi hi=>o i (hS.lt hi).2 λe=>vS (by rw[hi,e]);have rS:=N.rows;have rX:=hX.rows;have kl:k<rowsS.length:=(TJ.1 hk).1;have w0:S.RP (f.cards.drop j)=S.RP (f.cards.drop (j+1))*c:=by rw[E,cm,Wa]
  have h7:=bG (l:=f.cards.drop j) λc hc=>hcb c (Uz hc);have h6:=eP (a:=(f.cards.drop j).length) (b:=16) (by simp;omega);have h3:(4:Int) ^ 16=4294967296:=by decide
  have w1:IntKind.wrap .i64 (S.RP (f.cards.drop (j+1))*c)=S.RP (f.cards.drop j):=by rw[<-w0,ap (by omega) (by omega)]
  have p:=HB F hnd hin W;rw[Ux]at p;simp only[sz,simprocAttr,sf,z,A,u,B,h15,U,I,rva,u1,u2,rS,kl,hk,rX,u5,ci];refine bC (v:=R) (sz:=1) (n:=1) (i:=yn) (off:=0) (x:=XL (S.RP (f.cards.drop (j+1)))) (row':=ci (S.RP (f.cards.drop (j+1)))) (hX.fr (by simp;omega) λi _=>by simp) u6 rfl rfl rfl λg4 hu4 n4 f4=>?_;rw[<-Vf]at hu4;have w:∀i,i≠iR->g4.h.get i=g.h.get i:=λi hi=>by rw[f4 i (by rw[vR];intro e;injection e with e;exact hi e.symm)];simp
  have h8:g.nx<=g4.nx:=by rw[n4];simp;omega
  simp only[sz,simprocAttr];refine⟨?_,?_⟩
  ·simp only[Uf,Ug,Ud,T4];exact aN (Xo (Xn (true::[]))) [] (by simp[All2,am,aE]) (by decide) (by simp)
  have J:g4.h.get fb=W8 3 [[va,ca,wa]]:=by rw[w fb n1.2,I]
  simp only[sz,simprocAttr,u,B,h15,J,rca,u3,u4,ci,w1];refine⟨by simp[St,EA,sx,u,A,z,h2,h4,K,L,M],?_,λi h1 h2=>?_,_,hu4.fr (by simp) λi _=>by simp,p⟩
  ·simp;omega
  ·simp only[bumpG_h];rw[w i h2,o i h1 h2]
 ·rintro t df g ⟨rfl,h⟩;exact fin t g h
structure FOk (m:Nat) (f:Factor):Prop where
 cl:f.cards.length=f.vars.length
 vl:f.vars.length<=16
 cb:∀c∈f.cards,1<=c/\c<=4
 nd:f.vars.Nodup
 vr:∀y∈f.vars,0<=y/\y<m
theorem Lv(h:NR n){x:Node}(hx:n.nodes[k]?=some x){p:Nat}(hp:p<=x.parents.length):FOk n.nodes.length (S.Sj n k x p):=by have h1:=dy (h.places x (TL hx)) (by omega);have h2:=h.l2;have h3:=t_ x.parents p (k:Int) hp;exact⟨vJ _ _,by show (S.R3 x.parents p (k:Int)).length<=16;omega,JL h hx p,L1 h hx p,AH h hx p⟩
structure AskH (gr:Int) (b fl S_:AV) (m q:Nat) (fs:List Factor) (k:Nat) (g:G):Prop where
 h0:g.h.get 0=W8 2 [[XL gr,b]]
 h1:g.h.get 1=W8 4 [[XL 0,.nils,.nils,.nils]]
 hq:g.h.get q=W8 4 [[XL gr,b,fl,S_]]
 q2:2<=q/\q<g.nx
 sq:∀i,vid S_=some i->i<q
 hS:∃(Vs:List AV) (l:List (List Int)),Own g 2 S_ 1 (Vs.map λv=>[v])/\Vs.length=m/\l.length=k/\All2 (λX v=>Own g (q+1) v 1 (X.map ci)) l (Vs.take k)/\∀(i:Nat) (f:Factor) (X:List Int),fs[i]?=some f->l[i]?=some X->S.Tj m f 0 X
structure AskJ (gr:Int) (b fl S_:AV) (m q:Nat) (fs:List Factor) (k:Nat) (t:T) (g:G):Prop where
 st:St t [(11,XM q),(2,XM 0),(4,XM 1),(45,fl)]
 hp:AskH gr b fl S_ m q fs k g
theorem Qh{fl S_:AV}{fs:List Factor}(hb:∀g,cH .slice b g=.val (XL (m:Int)))(hm:m<=8)(hfl:SlR NoP 0 .nil fs fl)(hfm:fs.length=m)(hok:∀(i:Nat) (f:Factor),fs[i]?=some f->FOk m f)
  (h0:AskJ gr b fl S_ m q fs 0 t g) (h47:tat t 47=XL 0) (h46:tat t 46=XL (m:Int))
  (fin:∀t g,AskJ gr b fl S_ m q fs m t g->Q (.exit 2) t [] g):wpL (wp C0 d none mN) Q t [] g:=by
 obtain⟨rows,r1,r2,r3,r4⟩:=hfl.all;have r1:∀h',ak h' 3 fl=some rows:=r1;simp only[mN,sV];refine aI (m:=m) (by omega) (λk t df g=>df=[]/\AskJ gr b fl S_ m q fs k t g) ⟨rfl,h0⟩ h47 h46 (by decide)
  (by rintro j t df g v s (rfl|rfl|rfl) ⟨a1,⟨b1,b2,b3,b4,-⟩,c1⟩<;>exact⟨a1,by simp[St,sx,b1,b2,b3,b4],c1⟩) ?_ ?_
 ·rintro k t df g hk ⟨rfl,⟨a,h2,h4,c,-⟩,hp⟩ h47 h46;obtain⟨f,hf,-,-⟩:=ae (l:=fs) (j:=k) (by omega);obtain⟨row,q1,q2⟩:=r3 k f hf;obtain⟨va,ca,wa,rfl,L,Z,hh⟩:=qf.1 q2;have E:=hok k f hf;have hlt:k<rows.length:=by omega
  have he:=r4 (by omega);obtain⟨Vs,l,hS,V,J,Y,h6⟩:=hp.hS;obtain⟨h8,h9⟩:=hp.q2;have ne0:∀i,i<g.nx->¬i=g.nx:=λi hi=>by omega
  refine ge (P:=λt' df g'=>df=[]/\g'=(g.new (W8 3 [[.nils,.nils,.nils]])).put g.nx (W8 3 [[va,ca,wa]])/\St t' ((13,XM g.nx)::(12,XL (k:Int))::EA fl m q k)) ?_ ?_
  ·simp only[sz,simprocAttr,c,h47,r1,hlt,q1];simp[St,EA,sx,a,h2,h4,c,h47,h46]
  clear a h2 h4 c h47 h46;rintro t df g1 ⟨rfl,D,⟨u,o,a,h2,h4,c,h46,h47,-⟩⟩;have f1:∀i,i<g.nx->g1.h.get i=g.h.get i:=λi hi=>by rw[D];simp[RQ,ne0 i hi]
  have n1:g1.nx=g.nx+1:=by rw[D];simp
  have k1:g1.h.get g.nx=W8 3 [[va,ca,wa]]:=by rw[D];simp[RQ]
  clear D;have e0:g1.h.get 0=W8 2 [[XL gr,b]]:=by rw[f1 0 (by omega),hp.h0]
  have eq:g1.h.get q=W8 4 [[XL gr,b,fl,S_]]:=by rw[f1 q (by omega),hp.hq]
  have C:Own g1 2 S_ 1 (Vs.map λv=>[v]):=hS.fr (by omega) λi hi=>f1 i (hS.lt hi).2;have rS:=C.rows;have h5:k<(Vs.map λv=>[v]).length:=by simp;omega
  have h3:(Vs.map λv=>[v])[k]?=some [Vs[k]'(by omega)]:=by rw[TK,TH (by omega)];rfl
  refine iX (P:=λt' df g'=>df=[]/\St t' ((13,XM g.nx)::(12,XL (k:Int))::EA fl m q k)/\g1.nx<g'.nx/\∃R iR,vid R=some iR/\g1.nx<=iR/\iR<g'.nx/\Own g' 2 S_ 1 ((Vs.set k R).map λv=>[v])/\Own g' (q+1) R 1 ((List.replicate m (0:Int)).map ci)/\∀i,i<g1.nx->vid S_≠some i->g'.h.get i=g1.h.get i) ?_ ?_
  ·simp only[sz,simprocAttr,sf,a,h2,o,e0,eq,hb];refine nj (b:=q+1) (n:=m) (by unfold aQ;omega) (by unfold aQ;omega) (by simp;omega) λR g2 hR n2 f2 vR lg2=>?_;simp only[sy]at n2 f2 vR lg2;have z:Own g2 2 S_ 1 (Vs.map λv=>[v]):=C.fr (by omega) λi hi=>by have:=C.lt hi;rw[f2 i (by omega)]
   have rS2:=z.rows;simp only[sz,simprocAttr,sf,rS2,h5];refine bC (v:=S_) (sz:=1) (n:=1) (i:=k) (off:=0) (x:=R) (row':=[R]) (z.fr (by simp;omega) λi _=>by simp) h3 (by rw[hR.cell.1];rfl) hR.cell.2 (by rw[hR.cell.1];rfl) λg4 hu4 n4 f4=>?_;rw[show (Vs.map λv=>[v]).set k [R]=(Vs.set k R).map λv=>[v] from by rw[Vf]]at hu4;have H:∀i,vid S_≠some i->g4.h.get i=g2.h.get i:=λi hi=>by rw[f4 i hi];simp
   have hl:g2.nx<=g4.nx:=by rw[n4];simp;omega
   simp only[sy,lg2];refine⟨?_,?_,?_,R,g1.nx+6,vR,by omega,?_,?_,?_,λi h1 h2=>?_⟩
   ·simp only[Uf,Ug,Ud,T4];refine aN (Xp (Xo (true::(false::(true::[]))))) [(0,6),(1,6),(2,6)] (by simp[All2,am,aE]) (by decide) ?_;rintro p K x y hx M;simp only[Us,TY,Wt]at K;rcases K with rfl|rfl|rfl<;>(simp at hx M;subst hx;subst M;refine dh rfl rfl rfl rfl ?_ ?_ ?_<;>simp[am,aE,an]<;>omega)
   ·simp[St,EA,sx,u,o,a,h2,h4,c,h46,h47]
   ·omega
   ·omega
   ·exact hu4.fr (by simp) λi _=>by simp
   ·have O:Own g2 (q+1) R 1 ((List.replicate m (0:Int)).map ci):=by simpa [ci] using hR
    refine O.fr (by simp;omega) λi hi=>?_;have:=dv vR hi;simp only[bumpG_h];exact H i λe=>by have:=C.lt e;omega
   ·rw[H i h2,f2 i (by omega)]
  clear u o a h2 h4 c h46 h47;rintro t df g2 ⟨rfl,⟨u,o,a,h2,h4,c,h46,h47,-⟩,n2,R,iR,vR,hd,ha,z,hR,f2⟩;have F:g2.h.get g.nx=W8 3 [[va,ca,wa]]:=by rw[f2 g.nx (by omega) (λe=>by have:=hp.sq _ e;omega),k1]
  have N:g2.h.get q=W8 4 [[XL gr,b,fl,S_]]:=by rw[f2 q (by omega) (λe=>by have:=hp.sq _ e;omega),eq]
  have lva:=L.len;have hg:=E.vl;have U:Own g2 2 R 1 ((List.replicate m (0:Int)).map ci):=Own.low hR (by omega);have w1:IntKind.wrap .i64 ((f.vars.length:Int) - 1)=(f.vars.length:Int) - 1:=ap (by omega) (by omega);have I:((Vs.set k R).map λv=>[v])[k]?=some [R]:=by rw[TK,VV (by omega)];rfl
  simp only[sz,simprocAttr,u,F,lva,w1];refine Qg (g0:=g2) (fl:=fl) (fl':=fl) (m:=m) (q:=q) (k:=k) (fb:=g.nx) (iR:=iR) (R:=R) (S_:=S_) (b:=b) (gr:=gr) (va:=va) (ca:=ca) (wa:=wa) (f:=f) (rowsS:=(Vs.set k R).map λv=>[v]) L Z E.cl E.vl E.cb E.nd E.vr N F z I vR (λe=>by have:=hp.sq _ e;omega) ⟨by omega,by omega⟩ ⟨by omega,by omega,by omega⟩
   ⟨by simp[St,EA,sx,u,o,a,h2,h4,c,h46,h47,S.RP,VU (show f.cards.length<=f.vars.length by rw[E.cl];exact TG _)],TG _,λ_ _ _=>rfl,List.replicate m 0,U,by simp,λj y hj M=>?_⟩ (by simp[sx]) ?_
  ·have:=(TJ.1 M).1;omega
  clear u o a h2 h4 c h46 h47;rintro t g3 ⟨⟨u,o,hc,a,h2,h4,c,h46,h47,-⟩,n3,f3,X,hX,W⟩;simp only[sx,sy,↓reduceIte];have w:∀i,i<g.nx->vid S_≠some i->g3.h.get i=g.h.get i:=λi h1 h2=>by rw[f3 i (by omega) (by omega),f2 i (by omega) h2,f1 i h1]
  refine⟨⟨by simp[St,a,h2,h4,c],?_⟩,h47,h46⟩;have hsl:∀i,i<2\/i=q->vid S_≠some i:=λi hi e=>by have:=hp.sq i e;have:=(hS.lt e).1;omega
  refine⟨by rw[w 0 (by omega) (hsl 0 (by omega)),hp.h0],by rw[w 1 (by omega) (hsl 1 (by omega)),hp.h1],by rw[w q h9 (hsl q (by omega)),hp.hq],⟨h8,by omega⟩,hp.sq,Vs.set k R,l++[X],z.fr n3 λi hi=>f3 i (z.lt hi).2 λe=>by have:=hp.sq i hi;omega,by simpa using V,by simp[J],?_,?_⟩
  ·have h7:(Vs.set k R).take (k+1)=Vs.take k++[R]:=by
    rw[We,List.take_set_of_le (TG _),VV (by omega)]
    rfl
   rw[h7];refine (Y.mono λX' v r=>?_).append ⟨?_,trivial⟩
   ·exact r.fr (by omega) λi hi=>by have:=r.lt hi;exact w i this.2 λe=>by have:=hp.sq i e;omega
   ·rcases hX with h|⟨id,ep,lo,p1,p2,rfl,p4⟩
    ·exact .inl h
    ·injection vR with vR;exact .inr ⟨id,ep,lo,by omega,p2,rfl,p4⟩
  ·intro i f' X' B A
   by_cases hi:i<l.length
   ·rw[T5 hi]at A;exact h6 i f' X' B A
   ·have h1:=(TJ.1 A).1;have:i=k:=by simp at h1;omega
    subst this;rw[hf]at B;injection B with B;subst B;rw[T0 (by omega),J,UD]at A;simp at A;subst A;exact W
 ·rintro t df g ⟨rfl,h⟩;exact fin t g h
theorem Pf(n:Net)(ls:List (List Int)):Snb (NS n ls) 2:=md λy=>bO (m:=2) (cq _) (aJ _) (by decide) (by decide)
def qn0:QnM:=(⟨0,[]⟩,[],[])
theorem M9(P:Nat->Prop)(h:H):Agg qn0 P 0 h (.agg [XL 0,.nils,.nils,.nils]):=⟨_,rfl,yG.2 ⟨.nils,.nils,.nils,rfl,⟨by show 0<9223372036854775808;decide,rfl⟩,⟨by show 0<9223372036854775808;decide,rfl⟩,⟨by show 0<9223372036854775808;decide,rfl⟩⟩⟩
theorem GP{a c:AV}(h:w.cells=[w])(h2:w.isTup=false)(h3:b.cells=[b])(h4:b.isTup=false):d7 [XL 0,.nils,.nils,.nils] [((0,2),.agg [a,c]),((2,1),b),((3,1),w)]=some [a,c,b,w]:=by
 have k:(AV.agg [a,c]).cells=[a,c]:=rfl;have k2:(AV.agg [a,c]).isTup=false:=rfl;simp[d7,h,h2,h3,h4,fQ,k,k2]
 rfl
theorem KV{kk:Nat}{ls:List (List Int)}(hd:0<d)(hm:Agg n NoP 0 g.h v)(hw:SlR P kk g.h ls w):∃r,ah C0 d 81 [v,w] g=.val r/\NS n ls NoP 0 .nil r:=by
 obtain⟨b,rows,rfl,e1,M,hN,r1,r2,r3,r4⟩:=fP d hm;obtain⟨w',e2,R⟩:=bm hw d;obtain⟨wrows,U,p2,p3,p4⟩:=(R .nil).all;have U:∀h',ak h' 1 w'=some wrows:=U;have ha:=hw.1;have wl:=λg=>(R .nil).len g;rw[zX];refine aL Dz (xs:=[.agg [XL n.grain,b],w']) (by simp only[aF,e1,e2]) (by simp[sT]) (Pf n ls) (by decide) hd ?_;simp only[sz,simprocAttr,sT];obtain⟨g0,hg0⟩:∃g0,g0=(G.empty.new (W8 2 [[XL n.grain,b]])).new (W8 4 [[XL 0,.nils,.nils,.nils]]):=⟨_,rfl⟩;rw[<-hg0];have f0:g0.h.get 0=W8 2 [[XL n.grain,b]]:=by rw[hg0];simp[sx,RQ]
 have f1:g0.h.get 1=W8 4 [[XL 0,.nils,.nils,.nils]]:=by rw[hg0];simp[sx]
 have f2:g0.nx=2:=by rw[hg0];simp[sx]
 clear hg0;simp only[uH];obtain⟨z,ez,fs,⟨o,L⟩,fl,er,rfl,a,A⟩:=On (d:=d+1) (g:=g0) (TW d) (M g0.h);have A:=ax.1 A;injection A with A;subst A;obtain⟨_,e3,a⟩:=a;injection e3 with e3;subst e3;cases hn:S.Sl n with
 | false =>
  have hs:S.SH n ls=50:=by rw[S.SH,hn];rfl
  rw[hn]at ez;simp only[VO,↓reduceIte]at ez;simp only[sz,simprocAttr,f0,ez,show ¬((50:Int)=0) from by decide,f1];refine⟨λ_=>True,qn0,?_,_,_,rfl,?_,?_⟩
  ·rw[hs];intro h;cases h
  ·exact M9 _ _
  ·rw[hs];exact ax.2 rfl
 | true =>
  have hr:=cA.1 hn;have o:=o hn;rw[hn]at ez;simp only[↓reduceIte]at ez;refine iX (P:=λt' df g'=>df=[]/\g'=g0/\St t' [(1,w'),(2,XM 0),(4,XM 1),(6,fl),(7,XL 0)]) ?_ ?_
  ·simp only[sz,simprocAttr,f0,ez];simp[St,sx]
  rintro t df g1 ⟨rfl,rfl,h1,h2,h4,h6,h7,-⟩;obtain⟨Qf,F⟩:∃Qf,Qf=fnQ C0 (d+1) [SR.cell true 4 4,SR.tm 5] (λv g'=>∃P,NS n ls P 0 g'.h v):=⟨_,rfl⟩;rw[<-F];simp only[sz,simprocAttr,h1,h7,wl,sU];refine aI (m:=ls.length) ha (λj t df g=>df=[]/\St t [(25,w'),(2,XM 0),(4,XM 1),(6,fl)]/\g=g1/\∀e∈ls.take j,S.Sc n e=true) ⟨rfl,by simp[St,sx,h2,h4,h6],rfl,by simp⟩ (by simp[sx]) (by simp[sx]) (by decide)
   (by rintro j t df g v s (rfl|rfl|rfl) ⟨a1,⟨b1,b2,b3,b4,-⟩,c1,c2⟩<;>exact⟨a1,by simp[St,sx,b1,b2,b3,b4],c1,c2⟩) ?_ ?_
  ·rintro j t df g hj ⟨rfl,⟨u,h2,h4,h6,-⟩,rfl,c⟩ I V;obtain⟨e,he,h9,Z⟩:=ae hj;obtain⟨row,q1,q2⟩:=p3 j e he;obtain⟨z,rfl,hz⟩:=eC.1 q2;have hlt:j<wrows.length:=by omega
   have C:=EQ (d:=d+1) (g:=g) (e:=e) (w:=z) (TW d) (M g.h) (hz.tree (h':=g.h) (TG _));cases hev:S.Sc n e with
   | true =>
    have hs:S.RZ n e=0:=by rw[S.RZ,hn,hev];rfl
    rw[hs]at C;simp only[sz,simprocAttr,u,I,V,h2,U,hlt,q1,f0,C];refine⟨by simp[St,sx,h2,h4,h6,u],λy T=>?_⟩;rw[h9]at T;rcases Uk.1 T with h|h
    ·exact c y h
    ·rw[UX.1 h];exact hev
   | false =>
    have hs:S.RZ n e=2:=by rw[S.RZ,hn,hev];rfl
    have O:S.SH n ls=2:=by
     have:ls.all (S.Sc n)=false:=by rw[<-Vh,Ue];intro h;rw[h e Z]at hev;cases hev
     rw[S.SH,hn,this];rfl
    rw[hs]at C;rw[F];simp only[sz,simprocAttr,u,I,h2,h4,U,hlt,q1,f0,f1,C,show ¬((2:Int)=0) from by decide];refine⟨λ_=>True,qn0,?_,_,_,rfl,?_,?_⟩
    ·rw[O];intro h;cases h
    ·exact M9 _ _
    ·rw[O];exact ax.2 rfl
  ·rintro t df g ⟨rfl,⟨u,h2,h4,h6,-⟩,rfl,c⟩;rw[Ur]at c;have hs:S.SH n ls=0:=by rw[S.SH,hn,Ue.2 c];rfl
   have h3:=hr.l2;have fll:=λg=>a.len g;simp only[sx,↓reduceIte];unfold sX;refine iX (P:=λt' df g'=>df=[]/\∃S_ q,St t' [(2,XM 0),(4,XM 1),(6,fl),(11,XM q)]/\AskH n.grain b fl S_ n.nodes.length q fs 0 g') ?_ ?_
   ·simp only[sz,simprocAttr,sf,h2,h6,f0,fll,o];refine nj (b:=2) (n:=n.nodes.length) (by unfold aQ;omega) (by unfold aQ;omega) (by first| (simp;done)| (simp;omega)) λS_ g2 hS n2 f2' vS lg2=>?_;simp only[sy]at n2 f2' vS lg2;have E:fl.cells=[fl]/\fl.isTup=false:=by
     have h:=a.2;unfold SlV at h
     split at h<;>first|exact⟨rfl,rfl⟩|exact h.elim
    simp only[sz,simprocAttr,sf,GP hS.cell.1 hS.cell.2 E.1 E.2,lg2];have hk:g.nx+5=g2.nx:=by omega
    have k0:g2.h.get 0=W8 2 [[XL n.grain,b]]:=by rw[f2' 0 (by omega),f0]
    have k1:g2.h.get 1=W8 4 [[XL 0,.nils,.nils,.nils]]:=by rw[f2' 1 (by omega),f1]
    refine⟨?_,S_,g2.nx+1+1,by simp[St,sx,h2,h4,h6],⟨?_,?_,?_,⟨by omega,by simp⟩,λi hi=>by have:=dv vS hi;omega,List.replicate n.nodes.length .nils,[],?_,by simp,rfl,trivial,λi f X _ h=>by simp at h⟩⟩
    ·simp only[Uf,Ug,Ud,T4,G.new_lg,G.put_lg,setLog_lg];refine aN (Xo (true::(false::(true::(true::[]))))) [(0,4),(1,4),(0,6),(1,6),(2,6),(3,6),(4,6),(5,6)] (by simp[All2,am,aE]) (by decide) ?_;rintro p N x y hx T;simp only[Us,TY,Wt]at N;rcases N with rfl|rfl|rfl|rfl|rfl|rfl|rfl|rfl<;>(simp at hx T;subst hx;subst T;refine dh rfl rfl rfl rfl ?_ ?_ ?_<;>simp[am,aE,an]<;>omega)
    ·simp[RQ,k0]
    ·simp[RQ,k1]
    ·simp[RQ]
    ·have H:Own g2 2 S_ 1 ((List.replicate n.nodes.length AV.nils).map λv=>[v]):=by simpa using hS
     refine H.fr (by simp;omega) λi hi=>?_;have:=dv vS hi;simp[RQ,show ¬i=g2.nx+1+1 by omega]
   clear u h2 h4 h6;rintro t df g2 ⟨rfl,S_,q,⟨h2,h4,h6,B,-⟩,hp⟩;have W:=hN.len;simp only[sz,simprocAttr,h6,fll,o];refine Qh (m:=n.nodes.length) (q:=q) (gr:=n.grain) (b:=b) (fl:=fl) (S_:=S_) (fs:=fs) W h3 a o (λi f hf=>?_) ⟨by simp[St,sx,h2,h4,B],hp⟩ (by simp[sx]) (by simp[sx]) ?_
   ·have hi:=(TJ.1 hf).1;obtain⟨x,hx,-,-⟩:=ae (l:=n.nodes) (j:=i) (by omega);obtain⟨p,h8,D⟩:=L i x hi hx;rw[hf]at D;injection D with D;subst D;exact Lv hr hx h8
   clear h2 h4 h6 B hp;rintro t g3 ⟨⟨B,h2,h4,hb,-⟩,hp⟩;obtain⟨Vs,l,hS,hc,h5,J,Q⟩:=hp.hS;rw[TX (by omega)]at J;rw[F];have q2:=hp.q2.1;simp only[sz,simprocAttr,sW,B,h4,hp.hq,hp.h1];have hg:∀i,i≠1->(g3.h.put 1 (W8 4 [[XL n.grain,b,fl,S_]])).get i=g3.h.get i:=λi hi=>by simp[RQ,hi]
   refine⟨λ_=>True,(n,fs,l),λ_=>⟨rfl,o,L,h5,Q⟩,_,_,rfl,⟨_,rfl,yG.2 ⟨b,fl,S_,rfl,hN.wide (TG 0),a.wide (TG 0),?_⟩⟩,?_⟩
   ·have H:Own (g3.put 1 (W8 4 [[XL n.grain,b,fl,S_]])) 2 S_ 1 (Vs.map λv=>[v]):=hS.fr (by simp) λi hi=>by have:=(hS.lt hi).1;simp[RQ,show ¬i=1 by omega]
    refine Own.sl (α:=List Int) H (by show l.length<_;omega) ?_ λ_ _=>trivial;have K:∀(l:List (List Int)) (Vs:List AV),All2 (λX v=>Own g3 (q+1) v 1 (X.map ci)) l Vs->(∀X∈l,X.length<9223372036854775808)->All2 (Rp.rp (λ_=>True) 0 (g3.put 1 (W8 4 [[XL n.grain,b,fl,S_]])).h) l (Vs.map λv=>[v]):=by
     intro l
     induction l with
     | nil=>intro Vs h _;cases Vs with
      |nil=>trivial
      |cons v Vs=>exact h.elim
     | cons X l ih=>intro Vs h hX;cases Vs with
      |nil=>exact h.elim
      | cons v Vs =>
       refine⟨?_,ih Vs h.2 λY hY=>hX Y (by simp[hY])⟩;have ho:Own (g3.put 1 (W8 4 [[XL n.grain,b,fl,S_]])) (q+1) v 1 (X.map ci):=h.1.fr (by simp) λi hi=>by have:=(h.1.lt hi).1;simp[RQ,show ¬i=1 by omega]
       obtain⟨_,e1,hh⟩:=ho.ints (k:=0) (hX X (by simp));exact eC.2 ⟨_,e1,hh⟩
    refine K l Vs J λX hX=>?_;obtain⟨i,hi,he⟩:=Vk.1 hX;have:=(Q i _ X (TH (show i<fs.length by omega)) (by rw[TH hi,he])).1;omega
   ·rw[hs];exact ax.2 rfl
theorem DO{α:Type}{l:List α}{x y:α}(h1:l[i]?=some x)(h2:l[i]?=some y):x=y:=by rw[h1]at h2;injection h2
structure WtI (y:QnM) (b fl S_ wv va ca wa:AV) (gr wt:Int) (p:Int) (cards pv:List Int) (m k fb i:Nat) (t:T) (g:G):Prop where
 st:St t [(1,wv),(2,XM 0),(12,fl),(13,XL (m:Int)),(14,XL (k:Int)),(5,XL wt),(6,XL (k:Int)),(7,XM fb),(20,va),(8,XL (p - S.RQ (cards.drop i) (pv.drop i)))]
 h0:g.h.get 0=W8 4 [[XL gr,b,fl,S_]]
 hf:g.h.get fb=W8 3 [[va,ca,wa]]
 nn:0<=p - S.RQ (cards.drop i) (pv.drop i)
 nx:1<=g.nx
theorem KJ{fb kv kz:Nat}{y:QnM}{fl S_ wv va ca wa:AV}{wt p:Int}{f:Factor}{R:List Int}{mm:Nat}(hva:SlR NoP kv .nil f.vars va)(hF:FOk mm f)(hR:S.Tj mm f 0 R)(hvl:vals.length=mm)
  (hS:∃(srows:List (List AV)) (z:AV),(∀h,ak h 1 S_=some srows)/\srows[k]?=some [z]/\k<srows.length/\SlR NoP kz .nil R z) (rv:∀h,ak h 1 wv=some (vals.map ci)) (hp:p=S.RQ f.cards (S.RO vals f.vars)) (hin:InC f.cards (S.RO vals f.vars)) (hpb:p<=10000000)
  (h0:WtI y b fl S_ wv va ca wa gr wt p f.cards (S.RO vals f.vars) m k fb 0 t g) (h22:tat t 22=XL 0) (h21:tat t 21=XL (f.vars.length:Int))
  (fin:∀t g,WtI y b fl S_ wv va ca wa gr wt p f.cards (S.RO vals f.vars) m k fb f.vars.length t g->Q (.exit 2) t [] g):wpL (wp C0 d none cO) Q t [] g:=by
 obtain⟨srows,z,s1,s2,s3,hz⟩:=hS;have rva:=λh=>(hva.tree (h':=h) (TG _)).ints;have rz:=λh=>(hz.tree (h':=h) (TG _)).ints;simp only[cO];refine aI (m:=f.vars.length) hva.1 (λi t df g=>df=[]/\WtI y b fl S_ wv va ca wa gr wt p f.cards (S.RO vals f.vars) m k fb i t g) ⟨rfl,h0⟩ h22 h21 (by decide)
  (by rintro j t df g v s (rfl|rfl|rfl) ⟨a1,⟨b1,b2,J,K,L,M,N,O,P,w,-⟩,c1,U,V,W⟩<;>exact⟨a1,by simp[St,sx,b1,b2,J,K,L,M,N,O,P,w],c1,U,V,W⟩) ?_ ?_
 ·rintro i t df g hi ⟨rfl,⟨h1,h2,A,B,C,h5,h6,h7,n,h8,-⟩,e0,ef,Z,F⟩ h22 h21;obtain⟨u,hu,-,q⟩:=ae hi;obtain⟨H,q⟩:=hF.vr u q;obtain⟨un,rfl⟩:=TP H;have hcl:=hF.cl;have E:f.cards.drop i=f.cards[i]::f.cards.drop (i+1):=UM (by omega);have e:vals[un]?=some vals[un]:=TH (by omega);have a:(S.RO vals f.vars)[i]?=some vals[un]:=by simp[S.RO,hu,e]
  have o:(S.RO vals f.vars).drop i=vals[un]::(S.RO vals f.vars).drop (i+1):=by
   have hl:i<(S.RO vals f.vars).length:=by rw[vJ];exact hi
   rw[UM hl];rw[TH hl]at a;injection a with a;rw[a]
  have r:0<=vals[un]:=by obtain⟨v',h1,h2,-⟩:=hin.get (i:=i) (c:=f.cards[i]) (TH (by omega));rw[DO a h1];exact h2
  generalize vals[un]=x at e a o r;have l:=hR.2 i (un:Int) (Uj _) hu;rw[Ux]at l;have D:=(TJ.1 l).1;have u1:i<(f.vars.map ci).length:=by simpa using hi
  have u2:(f.vars.map ci)[i]?=some (ci (un:Int)):=by rw[TK,hu];rfl
  have u3:un<(vals.map ci).length:=by simp;omega
  have u4:(vals.map ci)[un]?=some (ci x):=by rw[TK,e];rfl
  have u5:un<(R.map ci).length:=by simpa using D
  have u6:(R.map ci)[un]?=some (ci (S.RP (f.cards.drop (i+1)))):=by rw[TK,l];rfl
  have I:S.RQ (f.cards.drop i) ((S.RO vals f.vars).drop i)=x*S.RP (f.cards.drop (i+1))+S.RQ (f.cards.drop (i+1)) ((S.RO vals f.vars).drop (i+1)):=by rw[E,o,S.RQ]
  have X:=bI (cards:=f.cards.drop (i+1)) (vals:=(S.RO vals f.vars).drop (i+1)) (λc hc=>hF.cb c (Uz hc)) (hin.drop (i+1));have Y:=bI (cards:=f.cards.drop i) (vals:=(S.RO vals f.vars).drop i) (λc hc=>hF.cb c (Uz hc)) (hin.drop i);have h3:=co (cs:=f.cards.drop (i+1)) λc hc=>(hF.cb c (Uz hc)).1;have h4:0<=x*S.RP (f.cards.drop (i+1)):=Vp r (by omega);have w1:IntKind.wrap .i64 (x*S.RP (f.cards.drop (i+1)))=x*S.RP (f.cards.drop (i+1)):=ap (by omega) (by omega);have w2:IntKind.wrap .i64 (p - S.RQ (f.cards.drop i) ((S.RO vals f.vars).drop i)+x*S.RP (f.cards.drop (i+1)))=p - S.RQ (f.cards.drop (i+1)) ((S.RO vals f.vars).drop (i+1)):=by rw[ap (by omega) (by omega)];omega
  simp only[sz,simprocAttr,h1,h2,h6,h8,n,h22,h21,e0,rva,u1,u2,rv,u3,u4,s1,s2,s3,rz,u5,u6,ci,w1,w2];refine⟨by simp[St,sx,h1,h2,A,B,C,h5,h6,h7,n],e0,ef,by omega,by first|exact F| (simp;done)| (simp;omega)⟩
 ·rintro t df g ⟨rfl,h⟩;exact fin t g h
structure WtJ (n:Net) (vals:List Int) (b fl S_ wv:AV) (k:Nat) (t:T) (g:G):Prop where
 st:St t [(1,wv),(2,XM 0),(12,fl),(5,XL (S.RP ((List.range k).map (S.R2 n vals))))]
 h0:g.h.get 0=W8 4 [[XL n.grain,b,fl,S_]]
 nx:1<=g.nx
theorem KL{kk ky:Nat}{y:QnM}(hd:0<d)(hr:NR n)(hm:Agg y NoP ky g.h v)(hq:QnOk n y)(hv:SlR P kk g.h vals w)(hc:InC (S.RN n) vals) :
  ah C0 d 115 [v,w] g=.val (XL (S.Sw n vals)):=by
 have e0:=mo d hm;obtain⟨cs,rfl,I⟩:=hm;obtain⟨b,fl,S_,rfl,hN,o,hS⟩:=yG.1 I;have o:SlR NoP ky .nil y.2.1 fl:=o.tree (TG _);have hS:SlR NoP ky .nil y.2.2 S_:=hS.tree (TG _);obtain⟨w',e2,L⟩:=bm hv d;have J:y.1.grain=n.grain:=by rw[hq.net]
 obtain⟨frows,f1,f2,U,V⟩:=o.all;have f1:∀h',ak h' 3 fl=some frows:=f1;obtain⟨srows,s1,s2,s3,s4⟩:=zq hS;have rv:=λh=>(L h).ints;have F:=hc.len;rw[aB]at F;have h9:=hr.l2;have B:=hq.fl;rw[my];refine ff ol (xs:=[.agg [XL y.1.grain,b,fl,S_],w']) (by simp only[aF,e0,e2]) (by simp[dJ]) hd ?_;rw[J];have ll:=o.len;simp only[sz,simprocAttr,dJ,gk,ll,B];simp only[fu,fB];refine aI (m:=n.nodes.length) (by omega) (λk t df g=>df=[]/\WtJ n vals b fl S_ w' k t g) ⟨rfl,by simp[St,sx,S.RP],by simp[sx],by simp⟩ (by simp[sx]) (by simp[sx]) (by decide)
  (by rintro j t df g v s (rfl|rfl|rfl) ⟨a1,⟨b1,b2,O,Q,-⟩,c1,T⟩<;>exact⟨a1,by simp[St,sx,b1,b2,O,Q],c1,T⟩) ?_ ?_
 ·rintro k t df g hk ⟨rfl,⟨h1,h2,c,h5,-⟩,g0,K⟩ e i;obtain⟨x,hx,-,-⟩:=ae hk;obtain⟨p,hp,hf⟩:=hq.fs k x (by omega) hx;obtain⟨row,q1,q2⟩:=U k _ hf;obtain⟨va,ca,wa,rfl,E,Y,M⟩:=qf.1 q2;have A:=Lv hr hx hp;obtain⟨pn,i1,i2,N⟩:=Qq hr hc hx p;have hlt:k<frows.length:=by omega
  have he:=V (by omega);obtain⟨R,hR,-,-⟩:=ae (l:=y.2.2) (j:=k) (by rw[hq.sl];exact hk);obtain⟨z,z1,z2,z3⟩:=s3 k R hR;have q:InC (S.Sj n k x p).cards (S.RO vals (S.Sj n k x p).vars):=dx hc λu hu=>by rw[aB];exact AH hr hx p u hu
  have h4:=bI A.cb q;have hb:=bG (l:=(S.Sj n k x p).cards) A.cb;have Z:=A.vl;have ha:=eP (a:=(S.Sj n k x p).cards.length) (b:=9) (by
   have h1:=dy (hr.places x (TL hx)) (by omega);have h3:=t_ x.parents p (k:Int) hp;show (S.RO _ _).length<=9;rw[vJ];omega)
  have X:(4:Int) ^ 9=262144:=by decide
  have ei:S.RQ (S.Sj n k x p).cards (S.RO vals (S.Sj n k x p).vars)=(pn:Int):=i1;have lva:=E.len;have rwa:=λh=>(M.tree (h':=h) (TG _)).ints;refine ge (P:=λt' df g'=>df=[]/\g'=(g.new (W8 3 [[.nils,.nils,.nils]])).put g.nx (W8 3 [[va,ca,wa]])/\St t' [(1,w'),(2,XM 0),(12,fl),(13,XL (n.nodes.length:Int)),(14,XL (k:Int)),(5,XL (S.RP ((List.range k).map (S.R2 n vals)))),(6,XL (k:Int)),(7,XM g.nx)]) ?_ ?_
  ·simp only[sz,simprocAttr,e,c,f1,hlt,q1];simp[St,sx,h1,h2,c,i,e,h5]
  clear h1 h2 c h5 e i;rintro t df g1 ⟨rfl,r,⟨h1,h2,c,i,e,h5,h6,h7,-⟩⟩;have k0:g1.h.get 0=W8 4 [[XL n.grain,b,fl,S_]]:=by rw[r];simp[RQ,show ¬0=g.nx by omega,g0]
  have H:g1.h.get g.nx=W8 3 [[va,ca,wa]]:=by rw[r];simp[RQ]
  have kn:g1.nx=g.nx+1:=by rw[r];simp
  simp only[sz,simprocAttr,h7,H,lva];refine KJ (y:=y) (b:=b) (fl:=fl) (S_:=S_) (wv:=w') (va:=va) (ca:=ca) (wa:=wa) (gr:=n.grain) (wt:=S.RP ((List.range k).map (S.R2 n vals))) (p:=(pn:Int)) (f:=S.Sj n k x p) (R:=R) (vals:=vals) (mm:=n.nodes.length) (m:=n.nodes.length) (k:=k) (fb:=g.nx) E A (hq.st k _ R hf hR) F ⟨srows,z,s1,z1,z2,z3⟩ rv ei.symm q (by omega)
   ⟨by simp[St,sx,h1,h2,c,i,e,h5,h6,h7,ei],by simpa using k0,by simpa using H,by simp[ei],by omega⟩ (by simp[sx]) (by simp[sx]) ?_
  clear h1 h2 c i e h5 h6 h7;rintro t g2 ⟨⟨h1,h2,c,i,e,h5,h6,h7,W,h8,-⟩,k0,H,-,D⟩;have C:S.RQ ((S.Sj n k x p).cards.drop (S.Sj n k x p).vars.length) ((S.RO vals (S.Sj n k x p).vars).drop (S.Sj n k x p).vars.length)=0:=by rw[VU (by rw[A.cl];exact TG _)];rfl
  rw[C,Int.sub_zero]at h8;have u1:pn<((S.Sj n k x p).w.map ci).length:=by rw[TT];exact (TJ.1 N).1
  have u2:((S.Sj n k x p).w.map ci)[pn]?=some (ci (S.R2 n vals k)):=by rw[TK];exact congrArg (Option.map ci) N
  have wb:=kG hr hc (j:=k+1) (by omega);have ws:=q_ n vals k;have w1:IntKind.wrap .i64 (S.RP ((List.range k).map (S.R2 n vals))*S.R2 n vals k)=S.RP ((List.range (k+1)).map (S.R2 n vals)):=by rw[<-ws,ap (by omega) (by omega)]
  simp only[sz,simprocAttr,fy,h5,h7,H,h8,rwa,u1,u2,ci,w1];exact⟨⟨by simp[St,sx,h1,h2,c],k0,D⟩,e,i⟩
 ·rintro t df g ⟨rfl,⟨h1,h2,c,h5,-⟩,g0,K⟩;simp only[sz,simprocAttr,fC,h5]
  rfl
def S.Ta(vals e:List Int)(i:Nat):Bool:=decide (e[i]?.getD 0 = -1) || decide (e[i]?.getD 0=vals[i]?.getD 0)
def S.jm(vals e:List Int):Bool:=(List.range e.length).all (S.Ta vals e)
theorem Iv{e:List Int}(h:∀x∈e,-1<=x):S.jm vals e=S.S4 vals e:=by
 have key:S.Ta vals e=S.Tb vals e:=by
  funext i;have h1:-1<=e[i]?.getD 0:=by
   cases hx:e[i]? with
   |none=>decide
   |some x=>exact h x (TL hx)
  unfold S.Ta S.Tb;generalize e[i]?.getD 0=x at h1;congr 1;rw[decide_eq_decide];omega
 rw[S.jm,S.S4,key]
theorem G5{k2:Nat}{P2:Nat->Prop}{e:List Int}(hd:0<d)(hv:SlR P k g.h vals v)(hw:SlR P2 k2 g.h e w)(hl:e.length<=vals.length) :
  ah C0 d 114 [v,w] g=.val (.bool (S.jm vals e)):=by
 obtain⟨v',e1,o⟩:=bm hv d;obtain⟨w',e2,n⟩:=bm hw d;have ra:∀h',ak h' 1 v'=some (vals.map ci):=λh'=>(o h').ints;have rb:∀h',ak h' 1 w'=some (e.map ci):=λh'=>(n h').ints;have n2:=λg=>(n .nil).len g;rw[uT];refine kV xP (xs:=[v',w']) (by simp only[aF,e1,e2]) (by simp[lD]) hd ?_;simp only[sz,simprocAttr,lD,mO,n2];refine aI (m:=e.length) hw.1 (λj t df g=>df=[]/\St t [(0,v'),(8,w'),(5,.bool true)]/\(List.range j).all (S.Ta vals e)=true) ⟨rfl,by simp[St,sx],rfl⟩ (by simp[sx]) (by simp[sx]) (by decide) (by rintro j t df g v s (rfl|rfl|rfl)<;>simp[St,sx]) ?_ ?_
 ·rintro j t df g c ⟨rfl,⟨h0,h8,h5,-⟩,b⟩ h10 h9;obtain⟨x,hx,-,-⟩:=ae c;obtain⟨z,hz,-,-⟩:=ae (l:=vals) (j:=j) (by omega);have f:j<(e.map ci).length:=by simpa using c
  have q2:j<(vals.map ci).length:=by rw[TT];omega
  have q3:(e.map ci)[j]?=some (ci x):=by rw[TK,hx];rfl
  have i:(vals.map ci)[j]?=some (ci z):=by rw[TK,hz];rfl
  have a:S.Ta vals e j=(decide (x = -1) || decide (x=z)):=by simp[S.Ta,hx,hz]
  by_cases c1:x = -1
  ·subst c1;simp only[sz,simprocAttr,h10,h9,h8,rb,f,q3,ci];refine⟨by simp[St,sx,h0,h8,h5],?_⟩;rw[fk,b,a];simp
  ·by_cases c2:x=z
   ·subst c2;simp only[sz,simprocAttr,h10,h9,h8,h0,ra,rb,f,q2,q3,i,ci,c1];refine⟨by simp[St,sx,h0,h8,h5],?_⟩;rw[fk,b,a];simp
   ·have:S.Ta vals e j=false:=by rw[a];simp[c1,c2]
    have hf:S.jm vals e=false:=by rw[S.jm,yM c this]
    simp only[sz,simprocAttr,h10,h8,h0,ra,rb,f,q2,q3,i,ci,c1,c2,h_,hf]
 ·rintro t df g ⟨rfl,⟨h0,h8,h5,-⟩,b⟩;simp only[sz,simprocAttr,h_,h5];rw[S.jm,b]
theorem Gp(hd:0<d)(hv:SlR P k g.h l v):ah C0 d 98 [v] g=.val (XL (S.Sr l)):=by
 obtain⟨v',e,c⟩:=bm hv d;have vl:∀g,cH .slice v' g=.val (XL (l.length:Int)):=λg=>(c .nil).len g;have ri:=λh=>(c h).ints;rw[yW];refine ff B5 (xs:=[v']) (by simp only[aF,e]) (by simp[qG]) hd ?_;simp only[sz,simprocAttr,qG,vl,rN];refine aI (m:=l.length) hv.1 (λj t df g=>df=[]/\St t [(6,v'),(3,XL (S.Sr (l.take j)))]) ⟨rfl,by simp[St,sx,S.Sr]⟩ (by simp[sx]) (by simp[sx]) (by decide)
  (by rintro j t df g v s (rfl|rfl|rfl)<;>simp[sx,St]) ?_ ?_
 ·rintro j t df g b ⟨rfl,h6,h3,-⟩ h8 h7;obtain⟨x,hx,a,hm⟩:=ae b;have f:j<(l.map ci).length:=by simpa using b
  have i:(l.map ci)[j]?=some (ci x):=by rw[TK,hx];rfl
  simp only[sz,simprocAttr,h6,h8,h3,ri,f,i,ci];simp[St,sx,h6,h7,h8,a,S.Sr,Wr]
 ·rintro t df g ⟨rfl,h6,h3,-⟩;rw[Ur]at h3;simp only[sz,simprocAttr,rO,h3]
theorem yi(hd:0<d)(hv:SlR P k g.h n.nodes v)(hn:n.nodes.length<1073741824):∃r,ah C0 d 97 [v] g=.val r/\IT 0 (S.RN n) r:=by
 obtain⟨v',e,r0⟩:=bm hv d;obtain⟨rows,p,E,A,B⟩:=(r0 .nil).all;have p:∀h',ak h' 3 v'=some rows:=p;have vl:∀g,cH .slice v' g=.val (XL (n.nodes.length:Int)):=λg=>(r0 .nil).len g;rw[xI];refine aL Az (xs:=[v']) (by simp only[aF,e]) (by simp[oR]) (aJ _) (by decide) hd ?_;simp only[sz,simprocAttr,oR,vl];refine mb (b:=0) (n:=n.nodes.length) (by unfold aQ;omega) (by unfold aQ;omega) (Uj _) λu g1 hu n1 f1 v1=>?_;simp only[sz,simprocAttr,vl,pS];refine aI (m:=n.nodes.length) (by omega) (λj t df g=>df=[]/\St t [(9,v'),(3,u)]/\Own g 0 u 1 ((((S.RN n).take j)++List.replicate (n.nodes.length - j) 0).map ci)) ⟨rfl,by simp[St,sx],?_⟩ (by simp[sx]) (by simp[sx]) (by decide)
  (by rintro j t df g v s (rfl|rfl|rfl)<;>simp[sx,St]) ?_ ?_
 ·simpa [ci] using hu
 ·rintro j t df g y ⟨rfl,⟨h9,h3,-⟩,f⟩ c h10;obtain⟨x,hx,-,hm⟩:=ae y;obtain⟨row,z,q2⟩:=A j x hx;obtain⟨a',b',rfl,q,w⟩:=cI.1 q2;have hlt:j<rows.length:=by omega
  have o:=B (by omega);have hcl:(S.RN n).length=n.nodes.length:=aB n;have l:(S.RN n)[j]?=some x.card:=by simp[S.RN,hx]
  have C:j<((((S.RN n).take j)++List.replicate (n.nodes.length - j) 0).map ci).length:=by simp;omega
  have D:((((S.RN n).take j)++List.replicate (n.nodes.length - j) 0).map ci)[j]?=some (ci 0):=by rw[TK,T0 (by simp;omega),VQ];simp;omega
  have e2:((((S.RN n).take j)++List.replicate (n.nodes.length - j) 0).map ci).set j (ci x.card)=(((S.RN n).take (j+1))++List.replicate (n.nodes.length - (j+1)) 0).map ci:=by
   rw[<-Vf,UU _ _ (by simp;omega),T_,UP (by omega),UD,Uh (by omega),show n.nodes.length - j=(n.nodes.length - (j+1))+1 by omega,UY,Vm,UJ];have:(S.RN n)[j]=x.card:=by rw[TH (by omega)]at l;injection l
   rw[this];rfl
  have fw:d7 [XL 0,.nils,.nils] [((0,3),.agg [XL x.card,a',b'])]=some [XL x.card,a',b']:=rfl;simp only[sz,simprocAttr,h9,c,p,hlt,z,o];have a:Own ((g.new (W8 3 [[XL 0,.nils,.nils]])).put g.nx (W8 3 [[XL x.card,a',b']])) 0 u 1 ((((S.RN n).take j)++List.replicate (n.nodes.length - j) 0).map ci) :=
   f.fr (by simp) λi hi=>by have:=(f.lt hi).2;simp[RQ,show ¬i=g.nx by omega]
  generalize (g.new (W8 3 [[XL 0,.nils,.nils]])).put g.nx (W8 3 [[XL x.card,a',b']])=g2 at a ⊢;simp only[sz,simprocAttr,h3,a.rows,C];refine bC (v:=u) (sz:=1) (n:=1) (i:=j) (off:=0) (x:=XL x.card) (row:=ci 0) (row':=ci x.card) a D rfl rfl rfl λg3 o3 n3 f3=>?_;rw[e2]at o3;simp only[sz,simprocAttr];simpa [St,sx,h9,h3,h10,c] using o3
 ·rintro t df g ⟨rfl,⟨h9,h3,-⟩,f⟩;rw[TX (by rw[aB];omega),UD]at f;simp only[sz,simprocAttr,pT,h3];exact⟨_,(by simpa using f:Own g 0 u 1 ((S.RN n).map ci)).ints (by rw[aB];omega)⟩
def S.S9(l:List Int)(x:Int):Int:=if x∈l then (l.idxOf x:Int) else -1
theorem Lz:(0:Int)<=S.S9 l x↔x∈l:=by
 unfold S.S9
 split
 ·rename_i h;simp[h]
 ·rename_i h;simp[h]
theorem KM(hd:0<d)(hv:SlR P k g.h l v):ah C0 d 129 [v,XL x] g=.val (XL (S.S9 l x)):=by
 obtain⟨v',e,n⟩:=bm hv d;have vl:∀g,cH .slice v' g=.val (XL (l.length:Int)):=λg=>(n .nil).len g;have ri:=λh=>(n h).ints;rw[py];refine ff se (xs:=[v',XL x]) (by simp only[aF,e,bD 0]) (by simp[fK]) hd ?_;simp only[sz,simprocAttr,fK,vl,iL];refine aI (m:=l.length) hv.1 (λj t df g=>df=[]/\St t [(0,v'),(1,XL x)]/\x ∉ l.take j) ⟨rfl,by simp[St,sx],by simp⟩ (by simp[sx]) (by simp[sx]) (by decide)
  (by rintro j t df g v s (rfl|rfl|rfl)<;>simp[sx,St]) ?_ ?_
 ·rintro j t df g b ⟨rfl,⟨h0,h1,-⟩,a⟩ h8 h7;obtain⟨y,i,f,hm⟩:=ae b;have o:j<(l.map ci).length:=by simpa using b
  have p:(l.map ci)[j]?=some (ci y):=by rw[TK,i];rfl
  by_cases c:x=y
  ·subst c;have hl:l=l.take j++x::l.drop (j+1):=by
    have:l.drop j=x::l.drop (j+1):=by rw[UM b];congr 1;rw[TH b]at i;injection i
    rw[<-this,UE]
   have hf:S.S9 l x=(j:Int):=by
    unfold S.S9;rw[TO hm];have:l.idxOf x=j:=by
     conv=>lhs;rw[hl]
     rw[List.idxOf_append,TN a,List.idxOf_cons_self,T_];omega
    rw[this]
   simp only[sz,simprocAttr,h0,h1,h8,ri,o,p,ci,hf]
  ·simp only[sz,simprocAttr,h0,h1,h8,ri,o,p,ci,c];simp[St,sx,h0,h1,h7,h8,f,a,c]
 ·rintro t df g ⟨rfl,-,a⟩;rw[Ur]at a;simp only[sz,simprocAttr,iM,S.S9,a]
theorem Eu(hd:0<d)(hv:SlR P k g.h l v):ah C0 d 94 [v,XL x] g=.val (.bool (decide (x∈l))):=by obtain⟨v',e,b⟩:=bm hv d;have ki:=λg=>KM (d:=d+1) (g:=g) (x:=x) (TW d) (b g.h);have a:decide ((0:Int)<=S.S9 l x)=decide (x∈l):=decide_eq_decide.2 Lz;rw[mz];refine kV om (xs:=[v',XL x]) (by simp only[aF,e,bD 0]) (by simp[dV]) hd ?_;simp only[sz,simprocAttr,dV,ki,<-a]
theorem zO{α:Type} [Rp α]{l:List α}(hw:SlR P k h l w)(g:G):EH w g=.upd (XM g.nx) (g.new (W8 1 [[w]])):=by rw[Gy _ _ hw.cell.2,hw.cell.1];rfl
def yL{α:Type} [Rp α](x:α)(sz:Nat):VS:=λP k h v=>(∃id cs,v=XM id/\P id/\h.get id=W8 sz [cs]/\Rp.rp P k h x cs)\/∃t cs,v=.tptr t sz [cs] 0 0/\t<=k/\Rp.rp NoP k .nil x cs
theorem nm{α:Type} [Rp α]{x:α}{sz:Nat}{n:Nat}(d:Nat)(r:yL x sz P k h v)(hn:Rp.dp α<=n)(hd:Rp.dp α<=20:=by decide):∃v',Hx.snap h d (n+1) v=some v'/\yL x sz NoP (max k d) .nil v':=by
 rcases r with⟨id,cs,rfl,-,hg,r⟩|⟨t,cs,rfl,ht,r⟩
 ·obtain⟨cs',e,r'⟩:=Rp.snap (n:=n) d r hn (by show _<=24;omega);obtain⟨m,e2,l2⟩:=Rp.tag (n:=aC) r' (by show _<=24;omega);refine⟨.tptr (Nat.max d (Nat.max m 0)) sz [cs'] 0 0,?_,.inr ⟨_,cs',rfl,?_,r'⟩⟩
  ·simp only[Hx.snap,hg,show Nat.beq 0 0=true from rfl,aF,e,fg,eV,e2]
  ·show max d (max m 0)<=max k d;omega
 ·exact⟨.tptr t sz [cs] 0 0,rfl,.inr ⟨t,cs,rfl,by omega,Rp.mono r (λi hi=>hi.elim) (by omega)⟩⟩
theorem qP{α:Type} [Rp α]{x:α}{sz:Nat}{n:Nat}(r:yL x sz NoP k h v):∃m,dZ (n+1) v=some m/\m<=k:=by
 rcases r with⟨id,cs,rfl,a,-⟩|⟨t,cs,rfl,ht,r⟩
 ·exact a.elim
 ·exact⟨t,rfl,ht⟩
def MtV(y:QnM)(e:List Int):VS:=λP k h v=>∃p q,v=.clo 113 [] [p,q]/\yL y 4 P k h p/\yL e 1 P k h q
theorem Q0(y:QnM)(e:List Int):Snb (MtV y e) 2:=by
 refine⟨λ{P k h v n} d r hn=>?_,λ{k h v n} r hn=>?_⟩
 ·obtain⟨p,q,rfl,a,c⟩:=r;obtain⟨n,rfl⟩:∃q,n=q+2:=⟨n - 2,by omega⟩;obtain⟨p',e1,b⟩:=nm (n:=n) d a (T6 (show Rp.dp QnM<=20 by decide) (by omega));obtain⟨q',e2,f⟩:=nm (n:=n) d c (T6 (show Rp.dp (List Int)<=20 by decide) (by omega));refine⟨.clo 113 [] [p',q'],?_,p',q',rfl,b,f⟩;simp only[Hx.snap,aF]at e1 e2 ⊢;rw[e1,e2]
 ·obtain⟨p,q,rfl,a,c⟩:=r;obtain⟨n,rfl⟩:∃q,n=q+2:=⟨n - 2,by omega⟩;obtain⟨i,e1,l1⟩:=qP (n:=n) a;obtain⟨j,e2,l2⟩:=qP (n:=n) c;refine⟨Nat.max i (Nat.max j 0),?_,by show max i (max j 0)<=k;omega⟩;show eV (dZ (n+1)) [p,q]=_;simp only[eV,e1,e2]
theorem yz{kk:Nat}{y:QnM}{e:List Int}(hd:0<d)(hm:Agg y NoP 0 g.h v)(hw:SlR NoP kk g.h e w)(hk:kk<d:=by omega) :
  ∃cs z t1 t2,ah C0 d 83 [v,w] g=.val (.clo 113 [] [.tptr t1 4 [cs] 0 0,.tptr t2 1 [[z]] 0 0])/\Rp.rp NoP kk .nil y cs/\SlR NoP kk .nil e z:=by
 have e0:=mo d hm;obtain⟨cs,rfl,hc⟩:=hm;obtain⟨a,b,c,rfl,h1,h2,h3⟩:=yG.1 hc;have key:∃r,ah C0 d 83 [.agg [XL y.1.grain,a,b,c],w] g=.val r/\MtV y e NoP kk .nil r:=by rw[lj];refine aL mG (xs:=[.agg [XL y.1.grain,a,b,c],w]) (by simp only[aF,e0,jC d hw]) (by simp[cW]) (Q0 y e) (by decide) hk ?_;simp only[sz,simprocAttr,cW,eZ,zO hw];refine⟨λ_=>True,_,_,rfl,.inl ⟨0,_,rfl,trivial,by simp[sx,RQ],Rp.tree hc (Uj _)⟩,.inl ⟨1,[w],rfl,trivial,by simp[sx],?_⟩⟩;exact⟨w,rfl,hw.wide (TG _)⟩
 obtain⟨r,hr,p,q,rfl,f,i⟩:=key;rcases f with⟨id,cs,rfl,k,-⟩|⟨t,cs,rfl,ht,f⟩
 ·exact k.elim
 rcases i with⟨id,cs,rfl,k,-⟩|⟨t2,cs2,rfl,j,i⟩
 ·exact k.elim
 obtain⟨z,rfl,hz⟩:=eC.1 i;exact⟨cs,z,t,t2,hr,f,hz⟩
theorem A4{cs vs:List Int}(h:InC cs vs)(hc:∀c∈cs,1<=c){c:Int}(hi:vs[i]?=some x)(hci:cs[i]?=some c)(hx:x≠c - 1):InC cs (vs.take i++(x+1)::List.replicate (vs.length - (i+1)) 0):=by
 have d:=(TJ.1 hi).1;have hl:=h.len;refine DT (by simp;omega) λj c' v a k=>?_;obtain⟨v',h1,h2,h3⟩:=h.get a;have b:=hc c' (TL a)
 by_cases h4:j<i
 ·rw[T5 (by simp;omega),T7 h4]at k;rw[h1]at k;injection k with k;omega
 ·rw[T0 (by simp;omega)]at k;rw[T_,UP (by omega)]at k
  by_cases h5:j=i
  ·subst h5;rw[UD]at k;simp at k;rw[hi]at h1;injection h1 with h1;rw[hci]at a;injection a with a;omega
  ·obtain⟨m,hm⟩:∃m,j - i=m+1:=⟨j - i - 1,by omega⟩;rw[hm,Wz]at k;have:=TL k;rw[Wl]at this;omega
theorem BF{cs:List Int}(hc:∀c∈cs,1<=c):InC cs (List.replicate cs.length 0) :=
 DT (by simp) λj c v hj hv=>by have:=TL hv;rw[Wl]at this;have:=hc c (TL hj);omega
end
end Hx
