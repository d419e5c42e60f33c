/- A part of the proof: an interpreter over abstract values, shown right against the model, and what the functions of the chapter compute on it. -/
import Derived.Test.YteaikmdilmfbeaaGreatHx12
set_option linter.unusedVariables false
set_option linter.unusedSimpArgs false
set_option linter.unnecessarySimpa false
section
namespace Hx
open Go
noncomputable section
theorem Lx {d:Nat}{g:G}{x:Int}(hd:0<d):ap C0 d N.aH [.int .i64 x] g=.val (.bool false):=by rw[uz];refine pC xe (xs:=[.int .i64 x]) (by simp only[aH,dy 0]) (by simp[ma]) hd ?_;simp only[sz,simprocAttr,ma]
theorem Mx {d:Nat}{g:G}{x:Int}(hd:0<d):ap C0 d N.aU [.int .i64 x] g=.val (.bool false):=by rw[rn];refine pC tV (xs:=[.int .i64 x]) (by simp only[aH,dy 0]) (by simp[ji]) hd ?_;simp only[sz,simprocAttr,ji]
theorem L1 {d:Nat}{g:G}{x y:Int}(hd:0<d):ap C0 d N.aX [.int .i64 x,.int .i64 y] g=.val (.bool (decide (x<y))):=by rw[vG];refine pC yv (xs:=[.int .i64 x,.int .i64 y]) (by simp only[aH,dy 0]) (by simp[nK]) hd ?_;simp only[sz,simprocAttr,nK,Lx (Nat.succ_pos d)]
theorem JD {i j:Nat}(h:i+j<9223372036854775808):cE .shr (.int .u64 ((i+j:Nat):Int)) (.int .u64 1)=.val (.int .u64 (((i+j) / 2:Nat):Int)):=Br .u64 (i+j) 1 (by omega)
theorem Im {d k:Nat}{g:G}{P:Nat->Prop}{v:AV}{l:List Int}{x:Int}(hd:0<d)(hv:SlR P k g.h l v)(hl:l.length<=1000):∃(p:Nat) (b:Bool),p<=l.length/\ap C0 d N.aT [v,.int .i64 x] g=.val (.tup [.int .i64 (p:Int),.bool b]):=by
 obtain ⟨v',e,hv'⟩:=bG hv d;have nl:=λg=>(hv' .nil).len g;have rl:=λh=>(hv' h).ints;have key:∃r,ap C0 d N.aT [v,.int .i64 x] g=.val r/\(λP k h v=>∃o:Nat×Bool,o.1<=l.length/\tG (One (o.1:Int)) (One o.2) P k h v) NoP 0 .nil r:=by
  rw[jH];refine aW kP (xs:=[v',.int .i64 x]) (by simp only[aH,e,dy 0]) (by simp[cG]) (lF λo=>dk (m:=1) (aR _) (aR _) (by decide) (by decide)) (by decide) hd ?_;simp only[sz,simprocAttr,cG,nl];refine fO (λm t df g=>df=[]/\∃i j:Nat,m=j - i/\i<=j/\j<=l.length/\St t [(0,v'),(1,.int .i64 x),(6,.int .i64 (l.length:Int)),(7,.int .i64 (i:Int)),(8,.int .i64 (j:Int))]) l.length
   ⟨rfl,0,l.length,rfl,Nat.zero_le _,Nat.le_refl _,by simp[St,sx]⟩ ?_
  rintro m t df g ⟨rfl,i,j,rfl,hij,hj,h0,h1,h6,h7,h8,-⟩;simp only[sz,simprocAttr,dO,h7,h8];refine fS (λhb=>?_) (λhb=>?_)
  ·have hb:i<j:=by simpa using hb
   have w1:IntKind.wrap .i64 ((i:Int)+(j:Int))=((i+j:Nat):Int):=by rw[aq (by omega) (by omega)];simp
   have w2:IntKind.wrap .u64 ((i+j:Nat):Int)=((i+j:Nat):Int):=vg (by omega) (by omega);have hm:(i+j) / 2<l.length:=by omega
   have hm1:i<=(i+j) / 2:=by omega
   have hm2:(i+j) / 2<j:=by omega
   have hsh:=JD (i:=i) (j:=j) (by omega);generalize (i+j) / 2=c at hm hm1 hm2 hsh;have w3:IntKind.wrap .i64 (c:Int)=(c:Int):=aq (by omega) (by omega);have w4:IntKind.wrap .i64 ((c:Int)+1)=((c+1:Nat):Int):=by rw[aq (by omega) (by omega)];simp
   obtain ⟨y,hy,-,-⟩:=ae (l:=l) (j:=c) hm;have u1:c<(l.map ci).length:=by simpa using hm
   have u2:(l.map ci)[c]?=some (ci y):=by rw[List.getElem?_map,hy];rfl
   simp only[sz,simprocAttr,h0,h1,h7,h8,w1,w2,hsh,w3,rl,u1,u2,ci,L1 (Nat.succ_pos d)];refine fS (λhb=>?_) (λhb=>?_)
   ·simp only[sz,simprocAttr,w4];exact ⟨j - (c+1),by omega,c+1,j,rfl,by omega,hj,by simp[St,sx,h0,h1,h6,h8]⟩
   ·simp only[sz,simprocAttr];exact ⟨c - i,by omega,i,c,rfl,by omega,by omega,by simp[St,sx,h0,h1,h6,h7]⟩
  ·simp only[sz,simprocAttr,dP,h6,h7];have hil:i<=l.length:=by omega
   by_cases c1:i<l.length
   ·obtain ⟨y,hy,-,-⟩:=ae (l:=l) (j:=i) c1;have u1:i<(l.map ci).length:=by simpa using c1
    have u2:(l.map ci)[i]?=some (ci y):=by rw[List.getElem?_map,hy];rfl
    have c2:(i:Int)<(l.length:Int):=by omega
    cases hq:decide (y=x) with
    | true =>
     simp only[sz,simprocAttr,h0,h1,h7,c2,rl,u1,u2,ci,hq];exact ⟨λ_=>True,(i,true),hil,_,_,rfl,aF.2 rfl,fY.2 rfl⟩
    | false =>
     simp only[sz,simprocAttr,h0,h1,h7,c2,rl,u1,u2,ci,hq,Mx (Nat.succ_pos d)];exact ⟨λ_=>True,(i,false),hil,_,_,rfl,aF.2 rfl,fY.2 rfl⟩
   ·have c2:¬((i:Int)<(l.length:Int)):=by omega
    simp only[sz,simprocAttr,c2];exact ⟨λ_=>True,(i,false),hil,_,_,rfl,aF.2 rfl,fY.2 rfl⟩
 obtain ⟨r,hr,⟨p,b⟩,hp,a,c,rfl,ha,hc⟩:=key;have ha:=aF.1 ha;have hc:=fY.1 hc;injection ha with ha;injection hc with hc;exact ⟨p,b,hp,by rw[hr,ha,hc]⟩
theorem nC (d:Nat)(xs:List AV)(g:G):ap C0 d N.bH xs g=jY d xs g:=by kernel_rfl
def CloneR (b:Nat)(l:List Int)(u:AV)(g:G):Prop:=(l=[]/\u=.nils)\/∃id lo,b<=id/\id<g.nx/\u=.hsl id 0 0 l.length none/\g.h.get id=.cells 1 (l.map ci) 0 lo false/\(0<l.length->lo=true)/\(l.length=0->lo=false)
theorem CloneR.fr {b:Nat}{l:List Int}{u:AV}{g g':G}(h:CloneR b l u g)(f:Fr g g'):CloneR b l u g':=by
 rcases h with h | ⟨id,lo,h1,h2,h3,h4,h5⟩
 ·exact .inl h
 ·exact .inr ⟨id,lo,h1,Nat.lt_of_lt_of_le h2 f.1,h3,by rw[f.2 id h2,h4],h5⟩
theorem Bq {g:G}{id:Nat}{x:AV}{l:List Int}{K:AV->G->Prop}{D:ADf->Prop}(hx:ah g.h 1 x=some (l.map ci))(h3:g.h.get id=.cells 1 [] 0 false false)(hid:id<g.nx)(hr:l.length<=1000)
  (k:∀u g',CloneR id l u g'->Fr g g'->K u g'):(cP 1 8 (.hsl id 0 0 0 none) x g).sat K g D:=by
 unfold cP;rw[hx];cases l with
 | nil =>
  simp only[bi,G.get_eq,h3,ax,aa,Nat.beq_refl,Bool.true_and,Nat.ble_eq,Bool.and_eq_true,List.map_nil,List.length_nil];rw[if_pos ⟨by simp,by simp⟩,if_pos (by simp)];exact k _ _ (.inr ⟨id,false,Nat.le_refl _,hid,rfl,by simpa using h3,by simp,by simp⟩) (Fr.refl g)
 | cons y l =>
  simp only[bi,G.get_eq,h3,ax,aa,Nat.beq_refl,Bool.true_and,Nat.ble_eq,Bool.and_eq_true,List.map_cons,List.length_cons,List.length_nil,List.length_map,Nat.zero_add,Option.getD_none,Nat.sub_zero];rw[if_pos ⟨by omega,by unfold aP;simp at hr;omega⟩,if_neg (by omega),if_pos (by rfl)];refine k _ _ (.inr ⟨g.nx,true,by omega,by simp,by simp,?_,by simp,by simp⟩) (Fr.new g _);simp[aO,bh,be]
theorem Ht {d:Nat}{g:G}{l:List Int}{v:AV}{K:AV->G->Prop}{D:ADf->Prop}(hv:SlR NoP 0 .nil l v)(hl2:l.length<=1000)(kk:∀u g',CloneR g.nx l u g'->Fr g g'->K u g') :
  (ap C0 d N.aq [v] g).sat K g D:=by
 rw[ii];refine xx jt (by simp[bu]) ?_
 by_cases hn:v=.nils
 ·subst hn;have hl:l=[]:=by have h:=hv.2;unfold SlV at h;exact h
  have hne:z9 false .slice .nils .nils=.val (.bool true):=rfl;simp only[sz,simprocAttr,bu,hne];exact kk _ _ (.inl ⟨hl,rfl⟩) (Fr.refl g)
 ·have hne:z9 false .slice v .nils=.val (.bool false):=by
   have h:=hv.2;unfold SlV at h
   split at h
   ·exact absurd rfl hn
   ·rfl
   ·rfl
   ·exact h.1.elim
   ·exact h.elim
  simp only[sz,simprocAttr,bu,hne];refine Bq (l:=l) ((hv.tree (Nat.le_refl _)).ints) (by simp[H.get_put]) (by simp) hl2 λu g1 hu f1=>?_;simp only[sz,simprocAttr];exact kk u g1 hu ((Fr.new g _).trans f1)
theorem sR (ps:List Int)(k:Nat)(v:Int)(hk:k<=ps.length):(S.ax ps k v).length=ps.length+1:=by simp[S.ax];omega
theorem EQ {d b p id2 ep2:Nat}{g:G}{l:List Int}{u:AV}{x:Int}{lim:Option Nat}{lo fz:Bool}(hu:CloneR b l u g)(hl:l.length<=1000)(hp:p<=l.length)(h2:g.h.get id2=.cells 1 [ci x] ep2 lo fz)(hne:∀i,vid u=some i->i≠id2)(hb:b<=g.nx) :
  ∃w g',ap C0 d N.bH [u,.int .i64 (p:Int),.hsl id2 ep2 0 1 lim] g=.upd w g'/\Own g' b w 1 ((S.ax l p x).map ci)/\g.nx<=g'.nx/\(∀i,i<g.nx->vid u≠some i->g'.h.get i=g.h.get i):=by
 rw[nC];have e0:jY d [u,.int .i64 (p:Int),.hsl id2 ep2 0 1 lim] g=xk id2 p u [ci x] g:=by
  show (match g.get id2 with
   | .cells sz2 vrows ep2' _ _=>au ((((Nat.beq sz2 1&&Nat.beq ep2 ep2')&&Nat.beq 0 0)&&Nat.beq 1 (bk vrows))&&Nat.ble 1 1) (xk id2 p u vrows g) .fail
   | _=>.fail)=_
  rw[G.get_eq,h2];dsimp only;rw[aa,if_pos];simp[ax]
 rw[e0];have hnew:p=0->l=[]->∃w g',qb p [ci x] g=.upd w g'/\Own g' b w 1 ((S.ax l p x).map ci)/\g.nx<=g'.nx/\(∀i,i<g.nx->vid u≠some i->g'.h.get i=g.h.get i):=λh1 h2=>by
  subst h1;subst h2;refine ⟨.hsl g.nx 0 0 1 none,g.new (.cells 1 [ci x] 0 true false),?_,.inr ⟨g.nx,0,true,hb,by simp,rfl,by simp[aO,S.ax]⟩,by simp,λi hi _=>?_⟩
  ·unfold qb;rw[aa,if_pos]
   ·rfl
   ·simp[ax]
  ·rw[G.new_h,aw _ _ _ (by omega)]
 rcases hu with ⟨rfl,rfl⟩ | ⟨id,lo2,h3,h4,rfl,h5,h6,h7⟩
 ·exact hnew (by simpa using hp) rfl
 ·cases l with
  | nil =>
   have e1:xk id2 p (.hsl id 0 0 ([]:List Int).length none) [ci x] g=qb p [ci x] g:=by rw[h7 rfl] at h5;simp only[xk,G.get_eq,h5,List.map_nil];rw[aa,if_pos];simp
   rw[e1];exact hnew (by simpa using hp) rfl
  | cons y l =>
   rw[h6 (by simp)] at h5;have hid:=hne id rfl;have e1:xk id2 p (.hsl id 0 0 (y::l).length none) [ci x] g=.upd (.hsl id 1 0 ((y::l).length+1) none) (g.put id (.cells 1 ((S.ax (y::l) p x).map ci) 1 true false)):=by
    simp only[xk,G.get_eq,h5,List.map_cons];rw[aa,if_pos]
    ·simp[ax,bh,be,S.ax]
    ·rw[show Nat.beq 1 1=true from rfl];have hb1:Nat.beq id id2=false:=by rw[<-Bool.not_eq_true,Nat.beq_eq];exact hid
     simp only[hb1,jn,ax,Nat.beq_refl,Bool.and_eq_true,Nat.ble_eq,List.length_cons,List.length_map,List.length_nil,true_and,and_true];simp at hp hl
     (repeat' apply And.intro)<;>first | omega | (simp;done)
   rw[e1];refine ⟨_,_,rfl,.inr ⟨id,1,true,h3,by simpa using h4,?_,by simp[aO]⟩,by simp,λi hi hv=>?_⟩
   ·rw[List.length_map,sR _ _ _ hp]
   ·rw[G.put_h,aw _ _ _ (λe=>hv (by rw[e];rfl))]
structure FacH (bx nd:List AV) (w u:AV) (vars cards:List Int) (beh:Int) (q:Nat) (g:G):Prop where
 h0:g.h.get 0=.cells 5 [bx] 0 false false
 h1:g.h.get 1=.cells 3 [[.nils,.nils,.nils]] 0 false false
 h2:g.h.get 2=.cells 3 [nd] 0 false false
 h8:g.h.get q=.cells 3 [[w,u,.nils]] 0 false false
 h9:g.h.get (q+1)=.cells 1 [[.int .i64 beh]] 0 false false
 hw:Own g 3 w 1 (vars.map ci)
 hu:Own g (q+2) u 1 (cards.map ci)
 wq:∀i,vid w=some i->i<q
 q3:3<=q
 qn:q+2<=g.nx
def ny (q:Nat):List (Nat×AV):=[(2,.hptr 0 0 0 0),(4,.hptr 1 0 0 0),(5,.hptr 2 0 0 0),(8,.hptr q 0 0 0),(9,.hptr (q+1) 0 0 0)]
structure FacJ (gr:Int) (b cv sv oz:AV) (nd:List AV) (w:AV) (cs vars:List Int) (pl q j:Nat) (t:T) (g:G):Prop where
 st:St t ((38,w)::(6,.int .i64 (pl:Int))::ny q)
 hp:∃u,FacH [.int .i64 gr,b,cv,sv,oz] nd w u vars (S.ae cs (vars.take j)) (S.af (S.ae cs ((vars.take j).drop (pl+1)))) q g
theorem yp {l:List Int}{j k:Nat}{p:Int}(hp:l.take (j+1)=l.take j++[p])(hj:j<l.length)(h:k<j):(l.take (j+1)).drop (k+1)=(l.take j).drop (k+1)++[p]:=by rw[hp,List.drop_append_of_le_length (by simp;omega)]
theorem ym {l:List Int}{j k:Nat}(h:j<=k):(l.take (j+1)).drop (k+1)=(l.take j).drop (k+1):=by rw[List.drop_of_length_le (by simp;omega),List.drop_of_length_le (by simp;omega)]
theorem NE {d pl q:Nat}{gr:Int}{b cv sv oz w:AV}{nd:List AV}{cs vars:List Int}{Q:QT}{t:T}{g:G}(rc:∀h,ah h 1 cv=some (cs.map ci))(hvl:vars.length<=16)(hvp:∀p∈vars,0<=p/\p<cs.length)(hcb:∀c∈cs,1<=c/\c<=4)(hpl:pl<=1000)
  (h0:FacJ gr b cv sv oz nd w cs vars pl q 0 t g) (h40:tat t 40=.int .i64 0) (h39:tat t 39=.int .i64 (vars.length:Int))
  (fin:∀t g,FacJ gr b cv sv oz nd w cs vars pl q vars.length t g->Q (.exit 0) t [] g):wpL (wp C0 d none dJ) Q t [] g:=by
 simp only[dJ,ip];refine aK (m:=vars.length) (by omega) (λj t df g=>df=[]/\FacJ gr b cv sv oz nd w cs vars pl q j t g) ⟨rfl,h0⟩ h40 h39 (by decide)
  (by rintro j t df g v s (rfl | rfl | rfl) ⟨a1,⟨b1,b2,b3,b4,b5,b6,b7,-⟩,c1⟩<;>exact ⟨a1,by simp[St,ny,sx,b1,b2,b3,b4,b5,b6,b7],c1⟩) ?_ ?_
 ·rintro j t df g hj ⟨rfl,⟨h38,h6,h2,h4,h5,h8,h9,-⟩,u,hp⟩ h40 h39;obtain ⟨p,hpj,htk,hpm⟩:=ae hj;obtain ⟨hp0,hpc⟩:=hvp p hpm;obtain ⟨pn,rfl⟩:=Int.eq_ofNat_of_zero_le hp0;have hpn:pn<cs.length:=by omega
  have hcp:cs[pn]?=some cs[pn]:=List.getElem?_eq_getElem hpn;have hcb1:=hcb _ (List.getElem_mem hpn);generalize cs[pn]=c at hcp hcb1;have u1:j<(vars.map ci).length:=by simpa using hj
  have u2:(vars.map ci)[j]?=some (ci (pn:Int)):=by rw[List.getElem?_map,hpj];rfl
  have u3:pn<(cs.map ci).length:=by simpa using hpn
  have u4:(cs.map ci)[pn]?=some (ci c):=by rw[List.getElem?_map,hcp];rfl
  have rw_:=hp.hw.rows;have q3:=hp.q3;have qn:=hp.qn;have epc:S.ae cs (vars.take (j+1))=S.ae cs (vars.take j)++[c]:=by rw[htk,cy];simp[S.ae,hcp]
  have hle:(S.ae cs (vars.take j)).length<=16:=by simp[S.ae];omega
  have nq1:¬q=q+1:=by omega
  have nq2:¬q+1=q:=by omega
  refine di (P:=λt' df g'=>df=[]/\g'=g/\St t' ((40,.int .i64 (j:Int))::(39,.int .i64 (vars.length:Int))::(10,.int .i64 (j:Int))::(11,.int .i64 (pn:Int))::(38,w)::(6,.int .i64 (pl:Int))::ny q)) ?_ ?_
  ·simp only[sz,simprocAttr,h38,h40,rw_,u1,u2,ci];simp[St,ny,sx,h38,h6,h2,h4,h5,h8,h9,h40,h39]
  clear h38 h6 h2 h4 h5 h8 h9 h40 h39;rintro t df g1 ⟨rfl,rfl,⟨h40,h39,h10,h11,h38,h6,h2,h4,h5,h8,h9,-⟩⟩;refine gx (P:=λt' df g'=>df=[]/\St t' ((40,.int .i64 (j:Int))::(39,.int .i64 (vars.length:Int))::(10,.int .i64 (j:Int))::(11,.int .i64 (pn:Int))::(38,w)::(6,.int .i64 (pl:Int))::ny q) /\
   ∃u,FacH [.int .i64 gr,b,cv,sv,oz] nd w u vars (S.ae cs (vars.take (j+1))) (S.af (S.ae cs ((vars.take j).drop (pl+1)))) q g') ?_ ?_
  ·simp only[sz,simprocAttr,sf,h8,h2,h11,hp.h8,hp.h0,rc,u3,u4,ci];refine br (b:=q+2) (rows:=(S.ae cs (vars.take j)).map ci) (new:=[[.int .i64 c]]) (hp.hu.fr (by simp;omega) λi hi=>?_) (by simp[sx,sy]) (by simp;omega) (by unfold aP;simp;omega) λu' ga hu' n1 f1 vid1 lg1=>?_
   ·have:=(hp.hu.lt hi).2;simp[H.get_put];omega
   simp only[sx,sy] at n1 f1 vid1 lg1;have hq8:ga.h.get q=.cells 3 [[w,u,.nils]] 0 false false:=by rw[f1 q (by omega) (λe=>by have:=(hp.hu.lt e).1;omega),if_neg (by omega),hp.h8]
   simp only[sz,simprocAttr,sf,h8,hq8,hu'.cell.1,hu'.cell.2];refine ⟨?_,?_,u',?_⟩
   ·simp only[List.reverse_cons,List.reverse_nil,List.nil_append,List.cons_append];refine aV [false,false,false,false,false,false,false,true,true,false,true] [(0,7),(1,7)] (by simp[All2,an,aD]) (by decide) ?_;rintro p hp' x y hx hy;simp only[List.mem_cons,List.not_mem_nil,or_false] at hp';rcases hp' with rfl | rfl<;>(simp at hx hy;subst hx;subst hy;refine eh rfl rfl rfl rfl ?_ ?_ ?_<;>simp[an,aD,ak]<;>omega)
   ·simp[St,ny,sx,h38,h6,h2,h4,h5,h8,h9,h40,h39,h10,h11]
   ·have keep:∀i,i<q+2->i≠q->(ga.h.put q (.cells 3 [[w,u',.nils]] 0 false false)).get i=g1.h.get i:=λi hi hne=>by simp only[H.get_put,if_neg hne];rw[f1 i (by omega) (λe=>by have:=(hp.hu.lt e).1;omega),if_neg (by omega)]
    refine ⟨(keep 0 (by omega) (by omega)).trans hp.h0,(keep 1 (by omega) (by omega)).trans hp.h1,(keep 2 (by omega) (by omega)).trans hp.h2,by simp[H.get_put],(keep (q+1) (by omega) (by omega)).trans hp.h9,hp.hw.fr (by simp;omega) λi hi=>keep i (by have:=hp.wq i hi;omega) (by have:=hp.wq i hi;omega),?_,hp.wq,q3,by simp;omega⟩;rw[epc,List.map_append];exact hu'.fr (by simp;omega) λi hi=>by have:=(hu'.lt hi).1;simp[H.get_put,show ¬i=q by omega]
  clear hp qn rw_ h40 h39 h10 h11 h38 h6 h2 h4 h5 h8 h9;rintro t df g ⟨rfl,⟨h40,h39,h10,h11,h38,h6,h2,h4,h5,h8,h9,-⟩,u,hp⟩
  by_cases hk:pl<j
  ·have hk':(pl:Int)<(j:Int):=by omega
   have ed:S.af (S.ae cs ((vars.take (j+1)).drop (pl+1)))=S.af (S.ae cs ((vars.take j).drop (pl+1)))*c:=by rw[yp htk hj hk,cy,mM];simp[S.ae,hcp,S.af]
   have hpb:=bB (l:=S.ae cs ((vars.take (j+1)).drop (pl+1))) (aM hcb λp hp=>hvp p (List.mem_of_mem_take (List.mem_of_mem_drop hp)));have hp4:=cZ (a:=(S.ae cs ((vars.take (j+1)).drop (pl+1))).length) (b:=16) (by simp[S.ae];omega);have h48:(4:Int) ^ 16=4294967296:=by decide
   have w1:IntKind.wrap .i64 (S.af (S.ae cs ((vars.take j).drop (pl+1)))*c)=S.af (S.ae cs ((vars.take (j+1)).drop (pl+1))):=by rw[<-ed,aq (by omega) (by omega)]
   simp only[sz,simprocAttr,sf,h10,h6,hk',h9,hp.h9,h2,hp.h0,h11,rc,u3,u4,ci,w1];refine ⟨?_,⟨?_,u,?_⟩,h40,h39⟩
   ·simp only[List.reverse_cons,List.reverse_nil,List.nil_append,List.cons_append];exact aV [false,false,false,false,false,false,false,true] [] (by simp[All2,an,aD]) (by decide) (by simp)
   ·simp[St,ny,sx,h38,h6,h2,h4,h5,h8,h9]
   ·have qn:=hp.qn;have keep:∀i,i≠q+1->(g.h.put (q+1) (.cells 1 [[.int .i64 (S.af (S.ae cs ((vars.take (j+1)).drop (pl+1))))]] 0 false false)).get i=g.h.get i:=λi hne=>by simp only[H.get_put,if_neg hne]
    exact ⟨(keep 0 (by omega)).trans hp.h0,(keep 1 (by omega)).trans hp.h1,(keep 2 (by omega)).trans hp.h2,(keep q (by omega)).trans hp.h8,by simp[H.get_put],hp.hw.fr (by simp;omega) λi hi=>keep i (by have:=hp.wq i hi;omega),hp.hu.fr (by simp;omega) λi hi=>keep i (by have:=(hp.hu.lt hi).1;omega),hp.wq,q3,by simp;omega⟩
  ·have hk':¬((pl:Int)<(j:Int)):=by omega
   have ed:(vars.take (j+1)).drop (pl+1)=(vars.take j).drop (pl+1):=ym (by omega);simp only[sz,simprocAttr,h10,h6,hk'];refine ⟨⟨by simp[St,ny,sx,h38,h6,h2,h4,h5,h8,h9],u,?_⟩,h40,h39⟩;rw[ed];exact hp
 ·rintro t df g ⟨rfl,h⟩;exact fin t g h
def GH (h:H)(n:Nat):G:=⟨h,n,[]⟩
@[simp] theorem GH_h (h:H) (n:Nat):(GH h n).h=h:=rfl
@[simp] theorem GH_nx (h:H) (n:Nat):(GH h n).nx=n:=rfl
theorem Own.gh {g:G}{b sz i:Nat}{v:AV}{rows:List (List AV)}(h:Own g b v sz rows)(hv:vid v=some i):Own (GH g.h (i+1)) b v sz rows:=by
 rcases h with h | ⟨id,ep,lo,h1,h2,rfl,h3⟩
 ·exact .inl h
 ·injection hv with hv;subst hv;exact .inr ⟨id,ep,lo,h1,by simp,rfl,h3⟩
structure FacG (g0:G) (iw:Nat) (W:AV) (rws:List (List Int)) (B C t:Nat) (h:H):Prop where
 fr:∀i,i<g0.nx->i≠iw->h.get i=g0.h.get i
 ow:Own (GH h (iw+1)) 3 W 1 ((S.aJ rws B C t).map ci)
theorem FacG.up {g0:G}{iw:Nat}{W:AV}{rws:List (List Int)}{B C t:Nat}{h h':H}(hf:FacG g0 iw W rws B C t h)(hv:vid W=some iw)(hi:iw<g0.nx)(hh:∀i,i<g0.nx->h'.get i=h.get i):FacG g0 iw W rws B C t h' :=
 ⟨λi h1 h2=>by rw[hh i h1,hf.fr i h1 h2],hf.ow.fr (by simp) λi h=>by rw[hv] at h;injection h with h;subst h;exact hh _ hi⟩
structure FacI (g0 g2:G) (iw:Nat) (W z:AV) (r:List Int) (rws:List (List Int)) (B C q j i:Nat) (t:T) (g:G):Prop where
 st:St t ((78,z)::(12,.int .i64 (j:Int))::ny q)
 hp:FacG g0 iw W rws B C (j*C+i) g.h
 nx:g2.nx<=g.nx
 fr:∀i,g0.nx<=i->i<g2.nx->g.h.get i=g2.h.get i
theorem NF {d A B C q j iw:Nat}{w u W z:AV}{r:List Int}{rws:List (List Int)}{pa ra:AV}{rd:Option Nat}{Q:QT}{t:T}{g g0 g2:G}(hz:SlR NoP 0 .nil r z)(hr:rws[j]?=some r)(hrl:r.length=C)(hB:0<B)(hA:rws.length=A*B)(hsz:rws.length*C<=1000000)
  (e8:g0.h.get q=.cells 3 [[w,u,W]] 0 false false) (e2:g0.h.get 2=.cells 3 [[.int .i64 (C:Int),pa,ra]] 0 false false) (e9:g0.h.get (q+1)=.cells 1 [[.int .i64 (B:Int)]] 0 false false) (hq:q+1<g0.nx) (hq3:3<=q) (hiw:iw<g0.nx) (hvw:vid W=some iw) (hiq:q+1<iw) (hg2:g0.nx<=g2.nx)
  (h0:FacI g0 g2 iw W z r rws B C q j 0 t g) (h80:tat t 80=.int .i64 0) (h79:tat t 79=.int .i64 (r.length:Int))
  (fin:∀t g,FacI g0 g2 iw W z r rws B C q j r.length t g->Q (.exit 4) t [] g):wpL (wp C0 d rd dK) Q t [] g:=by
 simp only[dK];refine aK (m:=r.length) hz.1 (λi t df g=>df=[]/\FacI g0 g2 iw W z r rws B C q j i t g) ⟨rfl,h0⟩ h80 h79 (by decide)
  (by rintro j t df g v s (rfl | rfl | rfl) ⟨a1,⟨b1,b2,b3,b4,b5,b6,b7,-⟩,c1,c2,c3⟩<;>exact ⟨a1,by simp[St,ny,sx,b1,b2,b3,b4,b5,b6,b7],c1,c2,c3⟩) ?_ ?_
 ·rintro i t df g hi ⟨rfl,⟨h78,h12,h2,h4,h5,h8,h9,-⟩,hp,hnx,hfr⟩ h80 h79;obtain ⟨x,hx,-,-⟩:=ae hi;have rz:=λh=>(hz.tree (h':=h) (Nat.le_refl 0)).ints;have u1:i<(r.map ci).length:=by simpa using hi
  have u2:(r.map ci)[i]?=some (ci x):=by rw[List.getElem?_map,hx];rfl
  have hj:=(List.getElem?_eq_some_iff.1 hr).1;have hiC:i<C:=by omega
  have hpl:=BJ (A:=A) (b:=B) (card:=C) (i:=j) (x:=i) hB (by omega) hiC;rw[<-hA] at hpl;have hst:=HH (b:=B) (card:=C) (A:=A) (i:=j) (x:=i) hB hA hr hiC hx;have k8:g.h.get q=.cells 3 [[w,u,W]] 0 false false:=by rw[hp.fr q (by omega) (by omega),e8]
  have k2:g.h.get 2=.cells 3 [[.int .i64 (C:Int),pa,ra]] 0 false false:=by rw[hp.fr 2 (by omega) (by omega),e2]
  have k9:g.h.get (q+1)=.cells 1 [[.int .i64 (B:Int)]] 0 false false:=by rw[hp.fr (q+1) (by omega) (by omega),e9]
  have hwr:=hp.ow.rows;rw[GH_h] at hwr;have hjl:j<1000001:=by have:rws.length*1<=rws.length*C:=Nat.mul_le_mul_left _ (by omega);omega
  have q1:=qm (x:=j) (y:=B) (by omega) hB;have q2:=u7 (x:=j) (y:=B) hB;have l1:j / B*C<=S.aB B C j i:=by unfold S.aB;have:(j / B*C+i)*1<=(j / B*C+i)*B:=Nat.mul_le_mul_left _ hB;omega
  have l2:(j / B*C+i)<=S.aB B C j i:=by unfold S.aB;have:(j / B*C+i)*1<=(j / B*C+i)*B:=Nat.mul_le_mul_left _ hB;omega
  have l3:(j / B*C+i)*B<=S.aB B C j i:=by unfold S.aB;omega
  have w1:IntKind.wrap .i64 (((j / B:Nat):Int)*(C:Int))=((j / B*C:Nat):Int):=by rw[<-Int.natCast_mul,aq (by omega) (by omega)]
  have w2:IntKind.wrap .i64 (((j / B*C:Nat):Int)+(i:Int))=((j / B*C+i:Nat):Int):=by rw[aq (by omega) (by omega)];simp
  have w3:IntKind.wrap .i64 (((j / B*C+i:Nat):Int)*(B:Int))=(((j / B*C+i)*B:Nat):Int):=by rw[<-Int.natCast_mul,aq (by omega) (by omega)]
  have w4:IntKind.wrap .i64 ((((j / B*C+i)*B:Nat):Int)+((j % B:Nat):Int))=((S.aB B C j i:Nat):Int):=by rw[<-Int.natCast_add];show IntKind.wrap .i64 ((S.aB B C j i:Nat):Int)=_;rw[aq (by omega) (by omega)]
  have hfl:=CX rws B C (j*C+i);have u3:S.aB B C j i<((S.aJ rws B C (j*C+i)).map ci).length:=by rw[List.length_map,hfl];exact hpl
  have u4:((S.aJ rws B C (j*C+i)).map ci)[S.aB B C j i]?=some (((S.aJ rws B C (j*C+i)).map ci)[S.aB B C j i]):=List.getElem?_eq_getElem u3;have hone:∃y:Int,((S.aJ rws B C (j*C+i)).map ci)[S.aB B C j i]=ci y:=⟨_,List.getElem_map ..⟩;obtain ⟨y,hy⟩:=hone;rw[hy] at u4;have hge:g0.nx<=g.nx:=by omega
  refine di (P:=λt' df g'=>df=[]/\g'=g/\St t' ((80,.int .i64 (i:Int))::(79,.int .i64 (r.length:Int))::(14,.int .i64 (i:Int))::(15,.int .i64 x)::(78,z)::(12,.int .i64 (j:Int))::ny q)) ?_ ?_
  ·simp only[sz,simprocAttr,h78,h80,rz,u1,u2,ci];simp[St,ny,sx,h78,h12,h2,h4,h5,h8,h9,h80,h79]
  clear h78 h12 h2 h4 h5 h8 h9 h80 h79;rintro t df g1 ⟨rfl,rfl,⟨h80,h79,h14,h15,h78,h12,h2,h4,h5,h8,h9,-⟩⟩;simp only[sz,simprocAttr,sf,h8,h12,h9,h5,h14,h15,k8,k2,k9,q1,q2,w1,w2,w3,w4,hwr,u3];refine bF (v:=W) (sz:=1) (n:=1) (i:=S.aB B C j i) (off:=0) (x:=.int .i64 x) (row':=ci x) ((hp.ow.fr (g':=g1) (by simp;omega) λi _=>rfl).fr (by simp;omega) λi _=>by simp) u4 rfl rfl rfl λg4 hu4 n4 f4=>?_;rw[<-List.map_set,hst] at hu4;have f4':∀i,i≠iw->g4.h.get i=g1.h.get i:=λi hi=>by rw[f4 i (by rw[hvw];intro e;injection e with e;exact hi e.symm)];simp
  have n4':g1.nx<=g4.nx:=by rw[n4];simp;omega
  simp only[sx,sy,↓reduceIte,Nat.reduceEqDiff];refine ⟨?_,⟨?_,⟨λi h1 h2=>?_,?_⟩,?_,λi h1 h2=>?_⟩,h80,h79⟩
  ·simp only[List.reverse_cons,List.reverse_nil,List.nil_append,List.cons_append];exact aV [false,false,false,false,false,false,false,false,false,false,false,false,false,false,false,false,false,false,true] [] (by simp[All2,an,aD]) (by decide) (by simp)
  ·simp[St,ny,sx,h78,h12,h2,h4,h5,h8,h9]
  ·simp only[bumpG_h];rw[f4' i h2,hp.fr i h1 h2]
  ·exact hu4.gh hvw
  ·simp;omega
  ·simp only[bumpG_h];rw[f4' i (by omega),hfr i h1 h2]
 ·rintro t df g ⟨rfl,h⟩;exact fin t g h
theorem Jf {d A B C q iw:Nat}{w u W pa ra pa' ra':AV}{rws:List (List Int)}{Q:QT}{t:T}{g0:G}(hra:SlR NoP 0 .nil rws ra')(hrl:∀r∈rws,r.length=C)(hB:0<B)(hA:rws.length=A*B)(hsz:rws.length*C<=1000000)
  (h75:tat t 75=.clo N.af [] [.tptr 0 3 [[.int .i64 (C:Int),pa',ra']] 0 0])
  (e8:g0.h.get q=.cells 3 [[w,u,W]] 0 false false) (e2:g0.h.get 2=.cells 3 [[.int .i64 (C:Int),pa,ra]] 0 false false) (e9:g0.h.get (q+1)=.cells 1 [[.int .i64 (B:Int)]] 0 false false) (hq:q+1<g0.nx) (hq3:3<=q) (hiw:iw<g0.nx) (hvw:vid W=some iw) (hiq:q+1<iw)
  (ht:St t (ny q)) (hW:Own g0 3 W 1 ((List.replicate (rws.length*C) (0:Int)).map ci))
  (fin:∀g',FacG g0 iw W rws B C (rws.length*C) g'.h->g0.nx+2<=g'.nx->g'.h.get g0.nx=.dfr true->Q .norm t [.mark g0.nx] g') :
  wp C0 d none (.rng 105 (.t 75) [76,77] dI dL) Q t [] g0:=by
 obtain ⟨h2,h4,h5,h8,h9,-⟩:=ht;refine DZ (c:=(C:Int)) (pa:=pa') hra h75 (by decide) (by decide) (λj h=>FacG g0 iw W rws B C (j*C) h) (λ_=>False) ?_ ?_ ?_ ?_ fin ?_
 ·intro j h h' hh hf;exact hf.up hvw hiw hh
 ·intro h h' _ hf;exact hf
 ·refine ⟨λi _ _=>rfl,?_⟩;rw[Nat.zero_mul,HI];exact hW.gh hvw
 ·intro j r z g1 hr hz hf hn;have hrm:=hrl r (List.mem_of_getElem? hr);simp only[sz,simprocAttr,dI];intro g2 hg2n hg2;have hf2:FacG g0 iw W rws B C (j*C) g2.h:=hf.up hvw hiw λi hi=>hg2 i (by omega);simp only[sz,simprocAttr,dL,hz.len];refine NF (g2:=g2) (A:=A) (q:=q) (iw:=iw) (w:=w) (u:=u) (W:=W) (z:=z) (r:=r) (rws:=rws) hz hr hrm hB hA hsz e8 e2 e9 hq hq3 hiw hvw hiq (by omega) ⟨by simp[St,ny,sx,h2,h4,h5,h8,h9],by simpa using hf2,Nat.le_refl _,λ_ _ _=>rfl⟩ (by simp[sx]) (by simp[sx]) ?_;rintro t g ⟨-,hp,hnx,hfr⟩;simp only[sx,sy,↓reduceIte];refine ⟨hnx,hfr,.inl ⟨rfl,?_⟩⟩;rw[hrm,show j*C+C=(j+1)*C by rw[Nat.add_mul,Nat.one_mul]] at hp;exact hp
 ·intro g' hf;exact hf.elim
def S.aN (n:Net)(i:Nat)(x:Node)(p:Nat):Factor:=⟨S.ax x.parents p (i:Int),S.ae (S.aa n) (S.ax x.parents p (i:Int)),S.bI x.rows (S.af (S.ae (S.aa n) (x.parents.drop p))).toNat x.card.toNat⟩
def OY (n:Net)(i:Nat)(x:Node):VS:=λP k h v=>∃p:Nat,p<=x.parents.length/\Agg (S.aN n i x p) P k h v
theorem EO {ps:List Int}{k:Nat}{v:Int}(hk:k<=ps.length):(S.ax ps k v).drop (k+1)=ps.drop k:=by
 have h1:S.ax ps k v=(ps.take k++[v])++ps.drop k:=by simp[S.ax]
 rw[h1,List.drop_left' (by simp;omega)]
theorem Own.low {g:G}{b b':Nat}{v:AV}{sz:Nat}{rows:List (List AV)}(h:Own g b v sz rows)(hb:b'<=b):Own g b' v sz rows:=by
 rcases h with h | ⟨id,ep,lo,h1,h2⟩
 ·exact .inl h
 ·exact .inr ⟨id,ep,lo,by omega,h2⟩
theorem Ji {w:AV}(h:w.cells=[w])(h2:w.isTup=false):dV [.nils,.nils,.nils] [((0,1),w)]=some [w,.nils,.nils]:=by
 simp[dV,h,h2,fM]
 rfl
theorem HK {d i:Nat}{g:G}{v:AV}{n:Net}{x:Node}{o:List Int}(hd:0<d)(hr:NR n)(hm:Agg ((n,S.aa n,S.aq n,o):NwM) NoP 0 g.h v)(hx:n.nodes[i]?=some x) :
  ∃r,ap C0 d N.bh [v,.int .i64 (i:Int)] g=.val r/\OY n i x NoP 0 .nil r:=by
 have e0:=j7 d hm;obtain ⟨cs,rfl,hc⟩:=hm;obtain ⟨b,cv,sv,oz,rfl,hN,hcv,-,-⟩:=wQ.1 hc;have hN:SlR NoP 0 .nil n.nodes b:=hN.tree (h':=.nil) (Nat.le_refl 0);have hcv:SlR NoP 0 .nil (S.aa n) cv:=hcv.tree (h':=.nil) (Nat.le_refl 0);obtain ⟨rows,r1,r2,r3,r4⟩:=hN.all;obtain ⟨row,q1,q2⟩:=r3 i x hx;obtain ⟨pa,ra,rfl,hpa,hra⟩:=cp.1 q2;have hxm:=List.mem_of_getElem? hx;have hil:=(List.getElem?_eq_some_iff.1 hx).1;have hl8:=hr.l2;have hlt:i<rows.length:=by omega
 have hry:=r4 (by omega);have hpl:=bV (hr.places x hxm) (by omega);have hpin:=hr.pin hxm;have r1:∀h',ah h' 3 b=some rows:=r1;have rc:=λh=>(hcv.tree (h':=h) (Nat.le_refl 0)).ints;rw[oD];refine aW qV (xs:=[.agg [.int .i64 n.grain,b,cv,sv,oz],.int .i64 (i:Int)]) (by simp only[aH,e0,dy 0]) (by simp[fu]) (lF λo=>dj _) (by decide) hd ?_;simp only[sz,simprocAttr,fu];obtain ⟨g0,hg0⟩:∃g0,g0=(G.empty.new (.cells 5 [[.int .i64 n.grain,b,cv,sv,oz]] 0 false false)).new (.cells 3 [[.nils,.nils,.nils]] 0 false false):=⟨_,rfl⟩;rw[<-hg0];have f0:g0.h.get 0=.cells 5 [[.int .i64 n.grain,b,cv,sv,oz]] 0 false false:=by rw[hg0];simp[sx,H.get_put]
 have f1:g0.h.get 1=.cells 3 [[.nils,.nils,.nils]] 0 false false:=by rw[hg0];simp[sx]
 have f2:g0.nx=2:=by rw[hg0];simp[sx]
 clear hg0;simp only[ja];refine gx (P:=λt' df g'=>df=[]/\g'.nx=3/\g'.h.get 0=.cells 5 [[.int .i64 n.grain,b,cv,sv,oz]] 0 false false/\g'.h.get 1=.cells 3 [[.nils,.nils,.nils]] 0 false false/\g'.h.get 2=.cells 3 [[.int .i64 x.card,pa,ra]] 0 false false/\St t' [(1,.int .i64 (i:Int)),(2,.hptr 0 0 0 0),(4,.hptr 1 0 0 0),(5,.hptr 2 0 0 0)]) ?_ ?_
 ·simp only[sz,simprocAttr,f0,r1,hlt,q1];simp[St,sx,f1,f2]
 rintro t df g1 ⟨rfl,n1,k0,k1,k2,h1,h2,h4,h5,-⟩;obtain ⟨p,sb,hp,es⟩:=Im (d:=d+1) (g:=g1) (x:=(i:Int)) (Nat.succ_pos d) (hpa.tree (Nat.le_refl 0)) (by omega);refine gx (P:=λt' df g'=>df=[]/\g'=g1/\St t' [(1,.int .i64 (i:Int)),(2,.hptr 0 0 0 0),(4,.hptr 1 0 0 0),(5,.hptr 2 0 0 0),(6,.int .i64 (p:Int))]) ?_ ?_
 ·simp only[sz,simprocAttr,h5,h1,k2,es];simp[St,sx,h1,h2,h4,h5]
 clear h1 h2 h4 h5;rintro t df g2 ⟨rfl,rfl,h1,h2,h4,h5,h6,-⟩;refine gx (P:=λt' df g'=>df=[]/\∃w q,w.cells=[w]/\FacH [.int .i64 n.grain,b,cv,sv,oz] [.int .i64 x.card,pa,ra] w .nils (S.ax x.parents p (i:Int)) [] 1 q (g'.new (.cells 1 [[.int .i64 1]] 0 false false))/\g'.nx=q+1/\St t' [(2,.hptr 0 0 0 0),(4,.hptr 1 0 0 0),(5,.hptr 2 0 0 0),(6,.int .i64 (p:Int)),(8,.hptr q 0 0 0)]) ?_ ?_
 ·simp only[sz,simprocAttr,h5,k2];refine Ht (l:=x.parents) hpa (by omega) λu ga hu fa=>?_;simp only[sz,simprocAttr,h6,h1];have hun:∀i,vid u=some i->g2.nx<=i/\i<ga.nx:=λi hi=>by
   rcases hu with ⟨-,rfl⟩ | ⟨id,lo,a1,a2,rfl,-⟩
   ·cases hi
   ·injection hi with hi;subst hi;exact ⟨a1,a2⟩
  have fa1:=fa.1;obtain ⟨w,g3,e3,hw,n3,f3⟩:=EQ (d:=d+1) (b:=g2.nx) (p:=p) (id2:=ga.nx) (ep2:=0) (x:=(i:Int)) (lim:=none) (hu.fr (Fr.new ga (.cells 1 [[.int .i64 (i:Int)]] 0 false false))) (by omega) hp (by simp[H.get_put];exact ⟨rfl,rfl,rfl⟩) (λj hj=>by have:=hun j hj;omega) (by simp;omega);rw[e3];simp only[sz,simprocAttr,Ji hw.cell.1 hw.cell.2];have n3':ga.nx+1<=g3.nx:=by simpa using n3
  have keep:∀j,j<3->g3.h.get j=g2.h.get j:=λj hj=>by rw[f3 j (by simp;omega) (λe=>by have:=hun j e;omega),<-fa.2 j (by omega)];simp[H.get_put,show ¬j=ga.nx by omega]
  have hwl:∀j,vid w=some j->3<=j/\j<g3.nx:=λj hj=>by have:=hw.lt hj;omega
  have ne1:∀j,j<g3.nx->¬j=g3.nx/\¬j=g3.nx+1:=λj hj=>by omega
  refine ⟨w,g3.nx,hw.cell.1,⟨?_,?_,?_,?_,?_,?_,?_,?_,?_,?_⟩,?_,?_⟩
  ·simp[H.get_put,ne1 0 (by omega),keep 0 (by omega),k0,show ¬g3.nx=0 by omega]
  ·simp[H.get_put,ne1 1 (by omega),keep 1 (by omega),k1,show ¬g3.nx=0 by omega]
  ·simp[H.get_put,ne1 2 (by omega),keep 2 (by omega),k2]
  ·simp[H.get_put]
  ·simp[H.get_put]
  ·refine (Own.low hw (b':=3) (by omega)).fr (by simp;omega) λj hj=>?_;have:=ne1 j (hwl j hj).2;simp[H.get_put,this]
  ·exact .inl ⟨rfl,rfl⟩
  ·exact λj hj=>(hwl j hj).2
  ·omega
  ·simp
  ·simp
  ·simp[St,sx,h2,h4,h5,h6]
 clear h1 h2 h4 h5 h6 es;rintro t df g3 ⟨rfl,w,q,hwc,hp3,hnq,h2,h4,h5,h6,h8,-⟩;have hfl:=sR x.parents p (i:Int) hp;have fa:=hp3.hw.rows;refine gx (P:=λt' df g'=>df=[]/\g'=(g3.new (.cells 1 [[.int .i64 0]] 0 false false)).put (q+1) (.cells 1 [[.int .i64 1]] 0 false false)/\St t' ((6,.int .i64 (p:Int))::ny q)) ?_ ?_
 ·simp only[sz,simprocAttr,hnq];simp[St,ny,sx,h2,h4,h5,h6,h8]
 clear h2 h4 h5 h6 h8;rintro t df g4 ⟨rfl,hg4,h6,h2,h4,h5,h8,h9,-⟩;have hp4:FacH [.int .i64 n.grain,b,cv,sv,oz] [.int .i64 x.card,pa,ra] w .nils (S.ax x.parents p (i:Int)) [] 1 q g4:=by
  have e:∀j,g4.h.get j=(g3.new (.cells 1 [[.int .i64 1]] 0 false false)).h.get j:=λj=>by
   rw[hg4]
   by_cases hj:j=q+1<;>simp[H.get_put,hnq,hj]
  have en:g4.nx=(g3.new (.cells 1 [[.int .i64 1]] 0 false false)).nx:=by rw[hg4];simp
  exact ⟨by rw[e,hp3.h0],by rw[e,hp3.h1],by rw[e,hp3.h2],by rw[e,hp3.h8],by rw[e,hp3.h9],hp3.hw.fr (by omega) λj _=>e j,hp3.hu.fr (by omega) λj _=>e j,hp3.wq,hp3.q3,by rw[en];exact hp3.qn⟩
 clear hg4 hp3;have hwl:∀g,dv .slice w g=.val (.int .i64 (((S.ax x.parents p (i:Int)).length:Nat):Int)):=λg=>by
  rcases hp4.hw with ⟨-,e⟩ | ⟨id,ep,lo,-,-,rfl,-⟩
  ·have:((S.ax x.parents p (i:Int)).map ci).length=0:=by rw[e];rfl
   rw[List.length_map] at this;omega
  ·rw[List.length_map];rfl
 simp only[sz,simprocAttr,h8,hp4.h8,hwl];refine NE (gr:=n.grain) (b:=b) (cv:=cv) (sv:=sv) (oz:=oz) (nd:=[.int .i64 x.card,pa,ra]) (w:=w) (cs:=S.aa n) (vars:=S.ax x.parents p (i:Int)) (pl:=p) (q:=q) rc (by omega) ?_ hr.cs (by omega) ⟨by simp[St,ny,sx,h2,h4,h5,h6,h8,h9],.nils,by simpa [S.ae,S.af] using hp4⟩ (by simp[sx]) (by simp[sx]) ?_
 ·intro y hy;simp only[S.ax,List.mem_append,List.mem_cons] at hy;rcases hy with hy | rfl | hy
  ·exact hpin y (List.mem_of_mem_take hy)
  ·rw[aA];omega
  ·exact hpin y (List.mem_of_mem_drop hy)
 clear h2 h4 h5 h6 h8 h9 hp4;rintro t g ⟨⟨h38,h6,h2,h4,h5,h8,h9,-⟩,u,hp5⟩;rw[List.take_length,EO hp] at hp5;have hcx:=hr.card x hxm;have hd1:∀c∈S.ae (S.aa n) (x.parents.drop p),1<=c/\c<=4:=aM hr.cs λp hp=>hpin p (List.mem_of_mem_drop hp);have ht1:∀c∈S.ae (S.aa n) (x.parents.take p),1<=c/\c<=4:=aM hr.cs λp hp=>hpin p (List.mem_of_mem_take hp);have er:(x.rows.length:Int)=S.af (S.ae (S.aa n) (x.parents.take p))*S.af (S.ae (S.aa n) (x.parents.drop p)):=by
  rw[hr.rows x hxm]
  conv=>lhs;rw[<-List.take_append_drop p x.parents,cy,mM]
 have hB1:=lJ λc hc=>(hd1 c hc).1;have hA1:=lJ λc hc=>(ht1 c hc).1;have hpb:=bB (l:=S.ae (S.aa n) x.parents) (aM hr.cs hpin);have hp4:=cZ (a:=(S.ae (S.aa n) x.parents).length) (b:=8) (by simp[S.ae];omega);have h48:(4:Int) ^ 8=65536:=by decide
 have hrows:=hr.rows x hxm;obtain ⟨B,hB⟩:=Int.eq_ofNat_of_zero_le (show 0<=S.af (S.ae (S.aa n) (x.parents.drop p)) by omega);obtain ⟨A,hA⟩:=Int.eq_ofNat_of_zero_le (show 0<=S.af (S.ae (S.aa n) (x.parents.take p)) by omega);obtain ⟨C,hC⟩:=Int.eq_ofNat_of_zero_le (show 0<=x.card by omega);have hAB:x.rows.length=A*B:=by
  have:((x.rows.length:Nat):Int)=((A*B:Nat):Int):=by rw[er,Int.natCast_mul,hA,hB]
  omega
 have hsz:x.rows.length*C<=1000000:=by
  have h1:x.rows.length<=65536:=by omega
  have h2:C<=4:=by omega
  have:=Nat.mul_le_mul h1 h2;omega
 have rl:=λg=>(hra.tree (h':=g) (Nat.le_refl 0)).len;have rl:=λg=>(hra).len g;have w1:IntKind.wrap .i64 ((x.rows.length:Int)*(C:Int))=((x.rows.length*C:Nat):Int):=by rw[<-Int.natCast_mul,aq (by omega) (by omega)]
 rw[hB] at hp5;simp only[iz,hC] at hp5 ⊢;obtain ⟨pa',ra',er',hpa',hra'⟩:=za (d:=d+1) (g:=.empty) (x:=x) (v:=.agg [.int .i64 (C:Int),pa,ra]) (Nat.succ_pos d) ⟨_,rfl,cp.2 ⟨pa,ra,by rw[hC],hpa.tree (Nat.le_refl 0),hra.tree (Nat.le_refl 0)⟩⟩;have q3:=hp5.q3;have qn:=hp5.qn;refine gx (P:=λt' df g'=>df=[]/\∃W,vid W=some g.nx/\g'.nx=g.nx+1/\(∀i,i<g.nx->i≠q->g'.h.get i=g.h.get i)/\g'.h.get q=.cells 3 [[w,u,W]] 0 false false/\Own g' 3 W 1 ((List.replicate (x.rows.length*C) (0:Int)).map ci)/\St t' (ny q)) ?_ ?_
 ·simp only[sz,simprocAttr,h5,hp5.h2,rl,w1];refine lD (b:=3) (n:=x.rows.length*C) (by unfold aP;omega) (by unfold aP;omega) (by omega) λW g1 hW n1 f1 vW=>?_;have k8:g1.h.get q=.cells 3 [[w,u,.nils]] 0 false false:=by rw[f1 q (by omega),hp5.h8]
  simp only[sz,simprocAttr,h8,k8,hW.cell.1,hW.cell.2];refine ⟨W,vW,by simpa using n1,λi h1 h2=>?_,by simp[H.get_put],?_,by simp[St,ny,sx,h2,h4,h5,h8,h9]⟩
  ·simp[h2];exact f1 i h1
  ·have hW':Own g1 3 W 1 ((List.replicate (x.rows.length*C) (0:Int)).map ci):=by simpa [ci] using hW
   exact hW'.fr (by simp) λi hi=>by have:=eg vW hi;simp[H.get_put,show ¬i=q by omega]
 clear h38 h6 h2 h4 h5 h8 h9;rintro t df g1 ⟨rfl,W,vW,n1,f1,k8,hW,h2,h4,h5,h8,h9,-⟩;have k2:g1.h.get 2=.cells 3 [[.int .i64 (C:Int),pa,ra]] 0 false false:=by rw[f1 2 (by omega) (by omega),hp5.h2]
 have k9:g1.h.get (q+1)=.cells 1 [[.int .i64 (B:Int)]] 0 false false:=by rw[f1 (q+1) (by omega) (by omega),hp5.h9]
 have k1:g1.h.get 1=.cells 3 [[.nils,.nils,.nils]] 0 false false:=by rw[f1 1 (by omega) (by omega),hp5.h1]
 obtain ⟨pa',ra',er',hpa',hra'⟩:=za (d:=d+1) (g:=g1) (x:=x) (v:=.agg [.int .i64 (C:Int),pa,ra]) (Nat.succ_pos d) ⟨_,rfl,cp.2 ⟨pa,ra,by rw[hC],hpa.tree (Nat.le_refl 0),hra.tree (Nat.le_refl 0)⟩⟩;rw[hC] at er';rw[cj,cj];simp only[sz,simprocAttr,h5,k2,er'];refine Jf (A:=A) (B:=B) (C:=C) (q:=q) (iw:=g.nx) (w:=w) (u:=u) (W:=W) (pa:=pa) (ra:=ra) (pa':=pa') hra' (λr hrm=>by have:=(hr.row x hxm r hrm).1;omega) (by omega) hAB hsz (by simp[sx]) k8 k2 k9 (by omega) q3 (by omega) vW (by omega) (by simp[St,ny,sx,h2,h4,h5,h8,h9]) hW ?_;intro g' hf hn hdf;have k8':g'.h.get q=.cells 3 [[w,u,W]] 0 false false:=by rw[hf.fr q (by omega) (by omega),k8]
 have k1':g'.h.get 1=.cells 3 [[.nils,.nils,.nils]] 0 false false:=by rw[hf.fr 1 (by omega) (by omega),k1]
 simp only[sz,simprocAttr,iy,h8,k8',h4,k1'];refine ij (by simp[H.get_put,show ¬g1.nx=1 by omega,hdf]) ?_;simp only[sx,sy,↓reduceIte,Nat.reduceEqDiff,h4];rw[if_neg (by omega)];simp only[sx,sy,↓reduceIte,Nat.reduceAdd,Nat.reduceLeDiff];have lw:=hp5.hw;have lu:=hp5.hu;have lW:=hf.ow;have hne:∀i,i<g1.nx->i≠1->((g'.h.put 1 (.cells 3 [[w,u,W]] 0 false false)).put g1.nx (.dfr false)).get i=g'.h.get i:=λi h1 h2=>by simp[H.get_put,h2,show ¬i=g1.nx by omega]
 have oW:Own (GH ((g'.h.put 1 (.cells 3 [[w,u,W]] 0 false false)).put g1.nx (.dfr false)) (g.nx+1)) 3 W 1 ((S.aJ x.rows B C (x.rows.length*C)).map ci):=lW.fr (by simp) λi hi=>by have:=eg vW hi;exact hne i (by omega) (by omega)
 have ow:Own (GH ((g'.h.put 1 (.cells 3 [[w,u,W]] 0 false false)).put g1.nx (.dfr false)) (g.nx+1)) 3 w 1 ((S.ax x.parents p (i:Int)).map ci):=lw.fr (by simp) λj hj=>by have:=hp5.wq j hj;have:=(lw.lt hj).1;show ((g'.h.put 1 (.cells 3 [[w,u,W]] 0 false false)).put g1.nx (.dfr false)).get j=_;rw[hne j (by omega) (by omega),hf.fr j (by omega) (by omega),f1 j (by omega) (by omega)]
 have ou:Own (GH ((g'.h.put 1 (.cells 3 [[w,u,W]] 0 false false)).put g1.nx (.dfr false)) (g.nx+1)) (q+2) u 1 ((S.ae (S.aa n) (S.ax x.parents p (i:Int))).map ci):=lu.fr (by simp) λj hj=>by have:=lu.lt hj;show ((g'.h.put 1 (.cells 3 [[w,u,W]] 0 false false)).put g1.nx (.dfr false)).get j=_;rw[hne j (by omega) (by omega),hf.fr j (by omega) (by omega),f1 j (by omega) (by omega)]
 have hfw:(S.aJ x.rows B C (x.rows.length*C))=S.bI x.rows (S.af (S.ae (S.aa n) (x.parents.drop p))).toNat x.card.toNat:=by rw[hB,hC,Int.toNat_natCast,Int.toNat_natCast];exact Je (A:=A) (by omega) hAB
 refine ⟨λ_=>True,p,hp,_,rfl,iI.2 ⟨w,u,W,rfl,?_,?_,?_⟩⟩
 ·obtain ⟨_,e1,h⟩:=ow.ints (k:=0) (by omega);injection e1 with e1;subst e1;exact h
 ·obtain ⟨_,e1,h⟩:=ou.ints (k:=0) (by simp[S.ae];omega);injection e1 with e1;subst e1;exact h
 ·rw[hfw] at oW;obtain ⟨_,e1,h⟩:=oW.ints (k:=0) (by rw[<-hfw,CX];omega);injection e1 with e1;subst e1;exact h
def S.bZ (n:Net)(l:List Factor):Prop:=∀(i:Nat) (x:Node),i<l.length->n.nodes[i]?=some x->∃p,p<=x.parents.length/\l[i]?=some (S.aN n i x p)
def Ot (n:Net):VS:=λP k h v=>∃l:List Factor,((S.aP n=true->l.length=n.nodes.length)/\S.bZ n l)/\tG (One l) (One (if S.aP n then (0:Int) else 50)) P k h v
structure FasJ (n:Net) (W b cv sv oz:AV) (j:Nat) (t:T) (g:G):Prop where
 st:St t [(4,.hptr 1 0 0 0),(6,W)]
 hg:g.h.get 1=.cells 5 [[.int .i64 n.grain,b,cv,sv,oz]] 0 false false
 hW:∃(rows:List (List AV)) (l:List Factor),Own g 2 W 3 rows/\rows.length=n.nodes.length/\l.length=j/\All2 (Rp.rp NoP 0 .nil) l (rows.take j)/\S.bZ n l/\∀i,j<=i->i<n.nodes.length->rows[i]?=some [.nils,.nils,.nils]
theorem LJ {d:Nat}{g:G}{v:AV}{n:Net}(hd:0<d)(hm:Agg n NoP 0 g.h v):∃r,ap C0 d N.bg [v] g=.val r/\Ot n NoP 0 .nil r:=by
 obtain ⟨b,rows,rfl,e1,hm',hN,r1,r2,r3,r4⟩:=kw d hm;rw[vJ];refine aW yy (xs:=[.agg [.int .i64 n.grain,b]]) (by simp only[aH,e1]) (by simp[nN]) (lF λo=>dk (m:=2) (aR _) (aR _) (by decide) (by decide)) (by decide) hd ?_;simp only[sz,simprocAttr,nN,qE];obtain ⟨z,ez,hz⟩:=GQ (d:=d+1) (g:=G.empty.new (.cells 2 [[.int .i64 n.grain,b]] 0 false false)) (Nat.succ_pos d) (n:=n) (v:=.agg [.int .i64 n.grain,b]) (hm' _);rcases wL hz with ⟨hn,cs,rfl,hcs⟩ | ⟨hn,b',cv,sv,oz,o,rfl,hb,hcv,hsv,hoz⟩
 ·obtain ⟨a1,a2,a3,a4,a5,rfl⟩:∃a1 a2 a3 a4 a5,cs=[a1,a2,a3,a4,a5]:=by
   match cs,hcs with
   | [a1,a2,a3,a4,a5],_=>exact ⟨a1,a2,a3,a4,a5,rfl⟩
  simp only[sz,simprocAttr,ez,show ¬((50:Int)=0) from by decide];refine ⟨NoP,[],⟨λh=>(by rw[hn] at h;cases h),λi x hi=>(by simp at hi)⟩,_,_,rfl,⟨_,rfl,⟨by show 0<9223372036854775808;decide,rfl⟩⟩,?_⟩;rw[hn];exact aF.2 rfl
 ·have hr:=dw.1 hn;have hl8:=hr.l2;simp only[sz,simprocAttr,ez,hb.len];refine lD (b:=2) (n:=n.nodes.length) (by unfold aP;omega) (by unfold aP;omega) (by simp) λW g1 hW n1 f1 vW=>?_;have k1:g1.h.get 1=.cells 5 [[.int .i64 n.grain,b',cv,sv,oz]] 0 false false:=by rw[f1 1 (by simp)];simp[H.get_put]
  have hWl:∀(g:G) (rows:List (List AV)),rows.length=n.nodes.length->Own g 2 W 3 rows->dv .slice W g=.val (.int .i64 (n.nodes.length:Int)):=λg rows h1 h=>by
   rcases h with ⟨rfl,e⟩ | ⟨id,ep,lo,-,-,rfl,-⟩
   ·cases vW
   ·rw[h1];rfl
  have hlW:=hWl g1 _ (by simp) hW;have hryW:ug W=true:=by
   rcases hW with ⟨rfl,e⟩ | ⟨id,ep,lo,-,-,rfl,-⟩
   ·cases vW
   ·rfl
  simp only[sz,simprocAttr,hlW];simp only[oY];refine aK (m:=n.nodes.length) (by omega) (λj t df g=>df=[]/\FasJ n W b' cv sv oz j t g) ⟨rfl,by simp[St,sx],k1,_,[],hW,by simp,rfl,trivial,λi x hi=>(by simp at hi),λi _ hi=>by simp[hi]⟩ (by simp[sx]) (by simp[sx]) (by decide)
   (by rintro j t df g v s (rfl | rfl | rfl) ⟨a1,⟨b1,b2,-⟩,c1,c2⟩<;>exact ⟨a1,by simp[St,sx,b1,b2],c1,c2⟩) ?_ ?_
  ·rintro j t df g hj ⟨rfl,⟨h4,h6,-⟩,hg,rows',l,hW,hrl,hll,hal,hfs,hnil⟩ h23 h22;obtain ⟨x,hx,-,-⟩:=ae hj;have hm5:Agg ((n,S.aa n,S.aq n,o):NwM) NoP 0 g.h (.agg [.int .i64 n.grain,b',cv,sv,oz]):=⟨_,rfl,wQ.2 ⟨b',cv,sv,oz,rfl,hb.tree (Nat.le_refl 0),hcv.tree (Nat.le_refl 0),hsv.tree (Nat.le_refl 0),hoz.tree (Nat.le_refl 0)⟩⟩;obtain ⟨f,ef,p,hp,cs,rfl,hcs⟩:=HK (d:=d+1) (g:=g) (i:=j) (Nat.succ_pos d) hr hm5 hx;obtain ⟨a1,a2,a3,rfl,ha1,ha2,ha3⟩:=iI.1 hcs;have hrj:=hnil j (Nat.le_refl _) hj;have hWr:=hW.rows;have hjr:j<rows'.length:=by omega
   simp only[sz,simprocAttr,h23,h6,h4,hg,ef,hWr,hjr];refine bF (v:=W) (sz:=3) (n:=3) (i:=j) (off:=0) (x:=.agg [a1,a2,a3]) (row':=[a1,a2,a3]) hW hrj (by rfl) rfl ?_ λg4 hW4 n4 f4=>?_
   ·rfl
   have htk:(rows'.set j [a1,a2,a3]).take (j+1)=rows'.take j++[[a1,a2,a3]]:=by
    rw[List.take_add_one,List.take_set_of_le (Nat.le_refl _),List.getElem?_set_self hjr]
    rfl
   simp only[sx,sy,↓reduceIte,Nat.reduceEqDiff];refine ⟨⟨by simp[St,sx,h4,h6],?_,_,l++[S.aN n j x p],hW4,by simpa using hrl,by simp[hll],?_,?_,λi h1 h2=>by rw[List.getElem?_set_ne (by omega),hnil i (by omega) h2]⟩,h23,h22⟩
   ·rw[f4 1 λe=>by have:=(hW.lt e).1;omega,hg]
   ·rw[htk];exact hal.append ⟨iI.2 ⟨a1,a2,a3,rfl,ha1,ha2,ha3⟩,trivial⟩
   ·intro i y hi hy
    by_cases hij:i<l.length
    ·rw[List.getElem?_append_left hij];exact hfs i y hij hy
    ·have hi:i=j:=by simp at hi;omega
     subst hi;rw[hx] at hy;injection hy with hy;subst hy;exact ⟨p,hp,by rw[List.getElem?_append_right (by omega),hll];simp⟩
  ·rintro t df g ⟨rfl,⟨h4,h6,-⟩,hg,rows',l,hW,hrl,hll,hal,hfs,hnil⟩;rw[List.take_of_length_le (by omega)] at hal;simp only[sz,simprocAttr,oZ,h6];refine ⟨λ_=>True,l,⟨λ_=>hll,hfs⟩,_,_,rfl,⟨W,rfl,Own.sl (α:=Factor) hW (by omega) (hal.mono λa b r=>Rp.tree r (Nat.le_refl 0)) λ_ _=>trivial⟩,?_⟩;rw[hn];exact aF.2 rfl
end
end Hx
end
section
namespace Hx
open Go
abbrev QnM:Type:=Net×List Factor×List (List Int)
theorem tE {P:Nat->Prop}{k:Nat}{h:H}{x:QnM}{cs:List AV}:Rp.rp P k h x cs↔∃a b c,cs=[.int .i64 x.1.grain,a,b,c]/\SlR P k h x.1.nodes a/\SlR P k h x.2.1 b/\SlR P k h x.2.2 c:=by
 constructor
 ·rintro ⟨c1,c2,rfl,h1,c3,c4,rfl,⟨b,rfl,hb⟩,⟨c,rfl,hc⟩⟩;obtain ⟨a,rfl,ha⟩:=ib.1 h1;exact ⟨a,b,c,rfl,ha,hb,hc⟩
 ·rintro ⟨a,b,c,rfl,ha,hb,hc⟩;exact ⟨[_,a],[b,c],rfl,ib.2 ⟨a,rfl,ha⟩,[b],[c],rfl,⟨b,rfl,hb⟩,⟨c,rfl,hc⟩⟩
theorem KI {n:Net}(h:NR n){k:Nat}{x:Node}(hx:n.nodes[k]?=some x):(k:Int) ∉ x.parents:=λhm=>by
 have hk:=(List.getElem?_eq_some_iff.1 hx).1;have hl:=h.l2;have h1:=ul.1 h.acyc k (by simp[S.aq];exact hk);have h2:Par (S.aq n) k=S.ap x.parents:=by simp[Par,S.aq,hx]
 have h3:(S.ap x.parents).testBit k=true:=(uO λy hy=>by have:=bm (h.places x (List.mem_of_getElem? hx)) y hy;omega).2 hm;have h4:=xI (p:=S.aq n) (s:=Par (S.aq n) k) (S.aq n).length k (by rw[h2];exact h3);rw[h1] at h4;cases h4
theorem Ib {l:List Int}{k:Int}(h:S.aw l k=true):l.Nodup:=by rw[List.Nodup,List.pairwise_iff_getElem];intro i j hi hj hij e;have:=A0 h (List.getElem?_eq_getElem hi) (List.getElem?_eq_getElem hj) hij;omega
theorem JC {n:Net}(h:NR n){k:Nat}{x:Node}(hx:n.nodes[k]?=some x)(p:Nat):(S.ax x.parents p (k:Int)).Nodup:=by unfold S.ax;rw[List.perm_middle.nodup_iff,List.take_append_drop,List.nodup_cons];exact ⟨KI h hx,Ib (h.places x (List.mem_of_getElem? hx))⟩
theorem yL {n:Net}(h:NR n){k:Nat}{x:Node}(hx:n.nodes[k]?=some x)(p:Nat):∀y∈S.ax x.parents p (k:Int),0<=y/\y<n.nodes.length:=λy hy=>by
 have hk:=(List.getElem?_eq_some_iff.1 hx).1;have hp:=bm (h.places x (List.mem_of_getElem? hx));simp only[S.ax,List.mem_append,List.mem_cons] at hy;rcases hy with hy | rfl | hy
 ·exact hp y (List.mem_of_mem_take hy)
 ·omega
 ·exact hp y (List.mem_of_mem_drop hy)
theorem d9 (cs ps:List Int):(S.ae cs ps).length=ps.length:=by simp[S.ae]
theorem HJ {n:Net}(h:NR n){k:Nat}{x:Node}(hx:n.nodes[k]?=some x)(p:Nat):∀c∈(S.aN n k x p).cards,1<=c/\c<=4 :=
 aM h.cs λy hy=>by rw[aA];exact yL h hx p y hy
def S.bU (m:Nat)(f:Factor)(i:Nat)(R:List Int):Prop:=R.length=m/\∀(j:Nat) (y:Int),i<=j->f.vars[j]?=some y->R[y.toNat]?=some (S.af (f.cards.drop (j+1)))
theorem Fx {m i:Nat}{f:Factor}{R:List Int}{y:Int}(h:S.bU m f (i+1) R)(hnd:f.vars.Nodup)(hin:∀y∈f.vars,0<=y/\y<m)(hy:f.vars[i]?=some y):S.bU m f i (R.set y.toNat (S.af (f.cards.drop (i+1)))):=by
 refine ⟨by simp[h.1],λj z hij hz=>?_⟩;have hyi:=hin y (List.mem_of_getElem? hy);have hzi:=hin z (List.mem_of_getElem? hz)
 by_cases e:j=i
 ·subst e;rw[hy] at hz;injection hz with hz;subst hz;rw[List.getElem?_set_self (by rw[h.1];omega)]
 ·rw[List.getElem?_set_ne]
  ·exact h.2 j z (by omega) hz
  ·intro e2;have e3:y=z:=by omega
   subst e3;exact e ((List.getElem?_inj (List.getElem?_eq_some_iff.1 hz).1 hnd).1 (by rw[hz,hy]))
structure QnOk (n:Net) (y:QnM):Prop where
 net:y.1=n
 fl:y.2.1.length=n.nodes.length
 fs:S.bZ n y.2.1
 sl:y.2.2.length=n.nodes.length
 st:∀(k:Nat) (f:Factor) (R:List Int),y.2.1[k]?=some f->y.2.2[k]?=some R->S.bU n.nodes.length f 0 R
def S.ba (n:Net)(ls:List (List Int)):Int:=if S.aP n then (if ls.all (S.aI n) then 0 else 2) else 50
def Lj (n:Net)(ls:List (List Int)):VS:=λP k h v=>∃y:QnM,(S.ba n ls=0->QnOk n y)/\tG (Agg y) (One (S.ba n ls)) P k h v
end Hx
end
section
namespace Hx
open Go
noncomputable section
def Co (fl:AV)(m q k:Nat):List (Nat×AV):=[(11,.hptr q 0 0 0),(2,.hptr 0 0 0 0),(4,.hptr 1 0 0 0),(45,fl),(46,.int .i64 (m:Int)),(47,.int .i64 (k:Int))]
structure AskI (fl:AV) (m q k:Nat) (g0:G) (iR:Nat) (R:AV) (f:Factor) (fb j:Nat) (t:T) (g:G):Prop where
 st:St t ((13,.hptr fb 0 0 0)::(12,.int .i64 (k:Int))::(14,.int .i64 (S.af (f.cards.drop j)))::Co fl m q k)
 nx:g0.nx<=g.nx
 fr:∀i,i<g0.nx->i≠iR->g.h.get i=g0.h.get i
 ow:∃X:List Int,Own g 2 R 1 (X.map ci)/\S.bU m f j X
theorem Nq {d m q k fb iR:Nat}{gr:Int}{va ca wa S_ R b fl fl':AV}{f:Factor}{rowsS:List (List AV)}{Q:QT}{t:T}{g g0:G}(hva:SlR NoP 0 .nil f.vars va)(hca:SlR NoP 0 .nil f.cards ca)(hcl:f.cards.length=f.vars.length)(hvl:f.vars.length<=16)(hcb:∀c∈f.cards,1<=c/\c<=4)(hnd:f.vars.Nodup)(hin:∀y∈f.vars,0<=y/\y<m)
  (e11:g0.h.get q=.cells 4 [[.int .i64 gr,b,fl',S_]] 0 false false) (e13:g0.h.get fb=.cells 3 [[va,ca,wa]] 0 false false) (hS:Own g0 2 S_ 1 rowsS) (hk:rowsS[k]?=some [R]) (vR:vid R=some iR) (vS:vid S_≠some iR) (n1:q≠iR/\fb≠iR) (n2:q<g0.nx/\fb<g0.nx/\iR<g0.nx)
  (h0:AskI fl m q k g0 iR R f fb f.vars.length t g) (h15:tat t 15=.int .i64 ((f.vars.length:Int) - 1))
  (fin:∀t g,AskI fl m q k g0 iR R f fb 0 t g->Q (.exit 4) t [] g):wpL (wp C0 d none mb) Q t [] g:=by
 have rva:=λh=>(hva.tree (h':=h) (Nat.le_refl 0)).ints;have rca:=λh=>(hca.tree (h':=h) (Nat.le_refl 0)).ints;simp only[mb];refine vd (m:=f.vars.length) (by omega) (λj t df g=>df=[]/\AskI fl m q k g0 iR R f fb j t g) ⟨rfl,h0⟩ h15 (by decide)
  (by rintro j t df g v s (rfl | rfl | rfl | rfl | rfl) ⟨a1,⟨b1,b2,b3,b4,b5,b6,b7,b8,b9,-⟩,c1,c2,c3⟩<;>exact ⟨a1,by simp[St,Co,sx,b1,b2,b3,b4,b5,b6,b7,b8,b9],c1,c2,c3⟩) ?_ ?_
 ·rintro j t df g hj ⟨rfl,⟨h13,h12,h14,h11,h2,h4,h45,h46,h47,-⟩,hnx,hfr,X,hX,hst⟩ h15;obtain ⟨y,hy,-,hym⟩:=ae hj;obtain ⟨hy0,hym⟩:=hin y hym;obtain ⟨yn,rfl⟩:=Int.eq_ofNat_of_zero_le hy0;have hcj:f.cards[j]?=some f.cards[j]:=List.getElem?_eq_getElem (by omega);have hcb1:=hcb _ (List.getElem_mem (show j<f.cards.length by omega));have hdr:f.cards.drop j=f.cards[j]::f.cards.drop (j+1):=List.drop_eq_getElem_cons (by omega);generalize f.cards[j]=c at hcj hcb1 hdr;have u1:j<(f.vars.map ci).length:=by simpa using hj
  have u2:(f.vars.map ci)[j]?=some (ci (yn:Int)):=by rw[List.getElem?_map,hy];rfl
  have u3:j<(f.cards.map ci).length:=by simp;omega
  have u4:(f.cards.map ci)[j]?=some (ci c):=by rw[List.getElem?_map,hcj];rfl
  have hXl:=hst.1;have hylt:yn<X.length:=by omega
  have u5:yn<(X.map ci).length:=by simpa using hylt
  have u6:(X.map ci)[yn]?=some (ci X[yn]):=by rw[List.getElem?_map,List.getElem?_eq_getElem hylt];rfl
  have k11:g.h.get q=.cells 4 [[.int .i64 gr,b,fl',S_]] 0 false false:=by rw[hfr q n2.1 n1.1,e11]
  have k13:g.h.get fb=.cells 3 [[va,ca,wa]] 0 false false:=by rw[hfr fb n2.2.1 n1.2,e13]
  have hS':Own g 2 S_ 1 rowsS:=hS.fr hnx λi hi=>hfr i (hS.lt hi).2 λe=>vS (by rw[hi,e]);have rS:=hS'.rows;have rX:=hX.rows;have kl:k<rowsS.length:=(List.getElem?_eq_some_iff.1 hk).1;have w0:S.af (f.cards.drop j)=S.af (f.cards.drop (j+1))*c:=by rw[hdr,c_,Int.mul_comm]
  have hpb:=bB (l:=f.cards.drop j) λc hc=>hcb c (List.mem_of_mem_drop hc);have hp4:=cZ (a:=(f.cards.drop j).length) (b:=16) (by simp;omega);have h48:(4:Int) ^ 16=4294967296:=by decide
  have w1:IntKind.wrap .i64 (S.af (f.cards.drop (j+1))*c)=S.af (f.cards.drop j):=by rw[<-w0,aq (by omega) (by omega)]
  have hst':=Fx hst hnd hin hy;rw[Int.toNat_natCast] at hst';simp only[sz,simprocAttr,sf,h11,h12,h13,h14,h15,k11,k13,rva,u1,u2,rS,kl,hk,rX,u5,ci];refine bF (v:=R) (sz:=1) (n:=1) (i:=yn) (off:=0) (x:=.int .i64 (S.af (f.cards.drop (j+1)))) (row':=ci (S.af (f.cards.drop (j+1)))) (hX.fr (by simp;omega) λi _=>by simp) u6 rfl rfl rfl λg4 hu4 n4 f4=>?_;rw[<-List.map_set] at hu4;have f4':∀i,i≠iR->g4.h.get i=g.h.get i:=λi hi=>by rw[f4 i (by rw[vR];intro e;injection e with e;exact hi e.symm)];simp
  have n4':g.nx<=g4.nx:=by rw[n4];simp;omega
  simp only[sz,simprocAttr];refine ⟨?_,?_⟩
  ·simp only[List.reverse_cons,List.reverse_nil,List.nil_append,List.cons_append];exact aV [false,false,false,false,false,false,false,false,false,false,false,false,true] [] (by simp[All2,an,aD]) (by decide) (by simp)
  have k13':g4.h.get fb=.cells 3 [[va,ca,wa]] 0 false false:=by rw[f4' fb n1.2,k13]
  simp only[sz,simprocAttr,h13,h14,h15,k13',rca,u3,u4,ci,w1];refine ⟨by simp[St,Co,sx,h13,h12,h11,h2,h4,h45,h46,h47],?_,λi h1 h2=>?_,_,hu4.fr (by simp) λi _=>by simp,hst'⟩
  ·simp;omega
  ·simp only[bumpG_h];rw[f4' i h2,hfr i h1 h2]
 ·rintro t df g ⟨rfl,h⟩;exact fin t g h
structure FOk (m:Nat) (f:Factor):Prop where
 cl:f.cards.length=f.vars.length
 vl:f.vars.length<=16
 cb:∀c∈f.cards,1<=c/\c<=4
 nd:f.vars.Nodup
 vr:∀y∈f.vars,0<=y/\y<m
theorem Jd {n:Net}(h:NR n){k:Nat}{x:Node}(hx:n.nodes[k]?=some x){p:Nat}(hp:p<=x.parents.length):FOk n.nodes.length (S.aN n k x p):=by have h1:=bV (h.places x (List.mem_of_getElem? hx)) (by omega);have h2:=h.l2;have h3:=sR x.parents p (k:Int) hp;exact ⟨d9 _ _,by show (S.ax x.parents p (k:Int)).length<=16;omega,HJ h hx p,JC h hx p,yL h hx p⟩
structure AskH (gr:Int) (b fl S_:AV) (m q:Nat) (fs:List Factor) (k:Nat) (g:G):Prop where
 h0:g.h.get 0=.cells 2 [[.int .i64 gr,b]] 0 false false
 h1:g.h.get 1=.cells 4 [[.int .i64 0,.nils,.nils,.nils]] 0 false false
 hq:g.h.get q=.cells 4 [[.int .i64 gr,b,fl,S_]] 0 false false
 q2:2<=q/\q<g.nx
 sq:∀i,vid S_=some i->i<q
 hS:∃(Vs:List AV) (l:List (List Int)),Own g 2 S_ 1 (Vs.map λv=>[v])/\Vs.length=m/\l.length=k/\All2 (λX v=>Own g (q+1) v 1 (X.map ci)) l (Vs.take k)/\∀(i:Nat) (f:Factor) (X:List Int),fs[i]?=some f->l[i]?=some X->S.bU m f 0 X
structure AskJ (gr:Int) (b fl S_:AV) (m q:Nat) (fs:List Factor) (k:Nat) (t:T) (g:G):Prop where
 st:St t [(11,.hptr q 0 0 0),(2,.hptr 0 0 0 0),(4,.hptr 1 0 0 0),(45,fl)]
 hp:AskH gr b fl S_ m q fs k g
theorem Nr {d m q:Nat}{gr:Int}{b fl S_:AV}{fs:List Factor}{Q:QT}{t:T}{g:G}(hb:∀g,dv .slice b g=.val (.int .i64 (m:Int)))(hm:m<=8)(hfl:SlR NoP 0 .nil fs fl)(hfm:fs.length=m)(hok:∀(i:Nat) (f:Factor),fs[i]?=some f->FOk m f)
  (h0:AskJ gr b fl S_ m q fs 0 t g) (h47:tat t 47=.int .i64 0) (h46:tat t 46=.int .i64 (m:Int))
  (fin:∀t g,AskJ gr b fl S_ m q fs m t g->Q (.exit 2) t [] g):wpL (wp C0 d none mc) Q t [] g:=by
 obtain ⟨rows,r1,r2,r3,r4⟩:=hfl.all;have r1:∀h',ah h' 3 fl=some rows:=r1;simp only[mc,rH];refine aK (m:=m) (by omega) (λk t df g=>df=[]/\AskJ gr b fl S_ m q fs k t g) ⟨rfl,h0⟩ h47 h46 (by decide)
  (by rintro j t df g v s (rfl | rfl | rfl) ⟨a1,⟨b1,b2,b3,b4,-⟩,c1⟩<;>exact ⟨a1,by simp[St,sx,b1,b2,b3,b4],c1⟩) ?_ ?_
 ·rintro k t df g hk ⟨rfl,⟨h11,h2,h4,h45,-⟩,hp⟩ h47 h46;obtain ⟨f,hf,-,-⟩:=ae (l:=fs) (j:=k) (by omega);obtain ⟨row,q1,q2⟩:=r3 k f hf;obtain ⟨va,ca,wa,rfl,hva,hca,hwa⟩:=iI.1 q2;have hF:=hok k f hf;have hlt:k<rows.length:=by omega
  have hry:=r4 (by omega);obtain ⟨Vs,l,hS,hVl,hll,hal,hst⟩:=hp.hS;obtain ⟨q2a,q2b⟩:=hp.q2;have ne0:∀i,i<g.nx->¬i=g.nx:=λi hi=>by omega
  refine di (P:=λt' df g'=>df=[]/\g'=(g.new (.cells 3 [[.nils,.nils,.nils]] 0 false false)).put g.nx (.cells 3 [[va,ca,wa]] 0 false false)/\St t' ((13,.hptr g.nx 0 0 0)::(12,.int .i64 (k:Int))::Co fl m q k)) ?_ ?_
  ·simp only[sz,simprocAttr,h45,h47,r1,hlt,q1];simp[St,Co,sx,h11,h2,h4,h45,h47,h46]
  clear h11 h2 h4 h45 h47 h46;rintro t df g1 ⟨rfl,hg1,⟨h13,h12,h11,h2,h4,h45,h46,h47,-⟩⟩;have f1:∀i,i<g.nx->g1.h.get i=g.h.get i:=λi hi=>by rw[hg1];simp[H.get_put,ne0 i hi]
  have n1:g1.nx=g.nx+1:=by rw[hg1];simp
  have k1:g1.h.get g.nx=.cells 3 [[va,ca,wa]] 0 false false:=by rw[hg1];simp[H.get_put]
  clear hg1;have e0:g1.h.get 0=.cells 2 [[.int .i64 gr,b]] 0 false false:=by rw[f1 0 (by omega),hp.h0]
  have eq:g1.h.get q=.cells 4 [[.int .i64 gr,b,fl,S_]] 0 false false:=by rw[f1 q (by omega),hp.hq]
  have hS1:Own g1 2 S_ 1 (Vs.map λv=>[v]):=hS.fr (by omega) λi hi=>f1 i (hS.lt hi).2;have rS:=hS1.rows;have hkV:k<(Vs.map λv=>[v]).length:=by simp;omega
  have hgV:(Vs.map λv=>[v])[k]?=some [Vs[k]'(by omega)]:=by rw[List.getElem?_map,List.getElem?_eq_getElem (by omega)];rfl
  refine gx (P:=λt' df g'=>df=[]/\St t' ((13,.hptr g.nx 0 0 0)::(12,.int .i64 (k:Int))::Co fl m q k)/\g1.nx<g'.nx/\∃R iR,vid R=some iR/\g1.nx<=iR/\iR<g'.nx/\Own g' 2 S_ 1 ((Vs.set k R).map λv=>[v])/\Own g' (q+1) R 1 ((List.replicate m (0:Int)).map ci)/\∀i,i<g1.nx->vid S_≠some i->g'.h.get i=g1.h.get i) ?_ ?_
  ·simp only[sz,simprocAttr,sf,h11,h2,h12,e0,eq,hb];refine mK (b:=q+1) (n:=m) (by unfold aP;omega) (by unfold aP;omega) (by simp;omega) λR g2 hR n2 f2 vR lg2=>?_;simp only[sy] at n2 f2 vR lg2;have hS2:Own g2 2 S_ 1 (Vs.map λv=>[v]):=hS1.fr (by omega) λi hi=>by have:=hS1.lt hi;rw[f2 i (by omega)]
   have rS2:=hS2.rows;simp only[sz,simprocAttr,sf,rS2,hkV];refine bF (v:=S_) (sz:=1) (n:=1) (i:=k) (off:=0) (x:=R) (row':=[R]) (hS2.fr (by simp;omega) λi _=>by simp) hgV (by rw[hR.cell.1];rfl) hR.cell.2 (by rw[hR.cell.1];rfl) λg4 hu4 n4 f4=>?_;rw[show (Vs.map λv=>[v]).set k [R]=(Vs.set k R).map λv=>[v] from by rw[List.map_set]] at hu4;have f4':∀i,vid S_≠some i->g4.h.get i=g2.h.get i:=λi hi=>by rw[f4 i hi];simp
   have n4':g2.nx<=g4.nx:=by rw[n4];simp;omega
   simp only[sy,lg2];refine ⟨?_,?_,?_,R,g1.nx+6,vR,by omega,?_,?_,?_,λi h1 h2=>?_⟩
   ·simp only[List.reverse_cons,List.reverse_nil,List.nil_append,List.cons_append];refine aV [false,false,false,false,false,false,true,false,true] [(0,6),(1,6),(2,6)] (by simp[All2,an,aD]) (by decide) ?_;rintro p hp' x y hx hy;simp only[List.mem_cons,List.not_mem_nil,or_false] at hp';rcases hp' with rfl | rfl | rfl<;>(simp at hx hy;subst hx;subst hy;refine eh rfl rfl rfl rfl ?_ ?_ ?_<;>simp[an,aD,ak]<;>omega)
   ·simp[St,Co,sx,h13,h12,h11,h2,h4,h45,h46,h47]
   ·omega
   ·omega
   ·exact hu4.fr (by simp) λi _=>by simp
   ·have hR':Own g2 (q+1) R 1 ((List.replicate m (0:Int)).map ci):=by simpa [ci] using hR
    refine hR'.fr (by simp;omega) λi hi=>?_;have:=eg vR hi;simp only[bumpG_h];exact f4' i λe=>by have:=hS1.lt e;omega
   ·rw[f4' i h2,f2 i (by omega)]
  clear h13 h12 h11 h2 h4 h45 h46 h47;rintro t df g2 ⟨rfl,⟨h13,h12,h11,h2,h4,h45,h46,h47,-⟩,n2,R,iR,vR,hiR,hiR2,hS2,hR,f2⟩;have e13:g2.h.get g.nx=.cells 3 [[va,ca,wa]] 0 false false:=by rw[f2 g.nx (by omega) (λe=>by have:=hp.sq _ e;omega),k1]
  have e11:g2.h.get q=.cells 4 [[.int .i64 gr,b,fl,S_]] 0 false false:=by rw[f2 q (by omega) (λe=>by have:=hp.sq _ e;omega),eq]
  have lva:=hva.len;have hvl:=hF.vl;have hR2:Own g2 2 R 1 ((List.replicate m (0:Int)).map ci):=Own.low hR (by omega);have w1:IntKind.wrap .i64 ((f.vars.length:Int) - 1)=(f.vars.length:Int) - 1:=aq (by omega) (by omega);have hgV2:((Vs.set k R).map λv=>[v])[k]?=some [R]:=by rw[List.getElem?_map,List.getElem?_set_self (by omega)];rfl
  simp only[sz,simprocAttr,h13,e13,lva,w1];refine Nq (g0:=g2) (fl:=fl) (fl':=fl) (m:=m) (q:=q) (k:=k) (fb:=g.nx) (iR:=iR) (R:=R) (S_:=S_) (b:=b) (gr:=gr) (va:=va) (ca:=ca) (wa:=wa) (f:=f) (rowsS:=(Vs.set k R).map λv=>[v]) hva hca hF.cl hF.vl hF.cb hF.nd hF.vr e11 e13 hS2 hgV2 vR (λe=>by have:=hp.sq _ e;omega) ⟨by omega,by omega⟩ ⟨by omega,by omega,by omega⟩
   ⟨by simp[St,Co,sx,h13,h12,h11,h2,h4,h45,h46,h47,S.af,List.drop_of_length_le (show f.cards.length<=f.vars.length by rw[hF.cl];exact Nat.le_refl _)],Nat.le_refl _,λ_ _ _=>rfl,List.replicate m 0,hR2,by simp,λj y hj hy=>?_⟩ (by simp[sx]) ?_
  ·have:=(List.getElem?_eq_some_iff.1 hy).1;omega
  clear h13 h12 h11 h2 h4 h45 h46 h47;rintro t g3 ⟨⟨h13,h12,h14,h11,h2,h4,h45,h46,h47,-⟩,n3,f3,X,hX,hXo⟩;simp only[sx,sy,↓reduceIte];have hfin:∀i,i<g.nx->vid S_≠some i->g3.h.get i=g.h.get i:=λi h1 h2=>by rw[f3 i (by omega) (by omega),f2 i (by omega) h2,f1 i h1]
  refine ⟨⟨by simp[St,h11,h2,h4,h45],?_⟩,h47,h46⟩;have hsl:∀i,i<2\/i=q->vid S_≠some i:=λi hi e=>by have:=hp.sq i e;have:=(hS.lt e).1;omega
  refine ⟨by rw[hfin 0 (by omega) (hsl 0 (by omega)),hp.h0],by rw[hfin 1 (by omega) (hsl 1 (by omega)),hp.h1],by rw[hfin q q2b (hsl q (by omega)),hp.hq],⟨q2a,by omega⟩,hp.sq,Vs.set k R,l++[X],hS2.fr n3 λi hi=>f3 i (hS2.lt hi).2 λe=>by have:=hp.sq i hi;omega,by simpa using hVl,by simp[hll],?_,?_⟩
  ·have htk:(Vs.set k R).take (k+1)=Vs.take k++[R]:=by
    rw[List.take_add_one,List.take_set_of_le (Nat.le_refl _),List.getElem?_set_self (by omega)]
    rfl
   rw[htk];refine (hal.mono λX' v r=>?_).append ⟨?_,trivial⟩
   ·exact r.fr (by omega) λi hi=>by have:=r.lt hi;exact hfin i this.2 λe=>by have:=hp.sq i e;omega
   ·rcases hX with h | ⟨id,ep,lo,p1,p2,rfl,p4⟩
    ·exact .inl h
    ·injection vR with vR;exact .inr ⟨id,ep,lo,by omega,p2,rfl,p4⟩
  ·intro i f' X' hf' hX'
   by_cases hi:i<l.length
   ·rw[List.getElem?_append_left hi] at hX';exact hst i f' X' hf' hX'
   ·have h1:=(List.getElem?_eq_some_iff.1 hX').1;have:i=k:=by simp at h1;omega
    subst this;rw[hf] at hf';injection hf' with hf';subst hf';rw[List.getElem?_append_right (by omega),hll,Nat.sub_self] at hX';simp at hX';subst hX';exact hXo
 ·rintro t df g ⟨rfl,h⟩;exact fin t g h
theorem My (n:Net)(ls:List (List Int)):Snb (Lj n ls) 2:=lF λy=>dk (m:=2) (dj _) (aR _) (by decide) (by decide)
def qn0:QnM:=(⟨0,[]⟩,[],[])
theorem KB (P:Nat->Prop)(h:H):Agg qn0 P 0 h (.agg [.int .i64 0,.nils,.nils,.nils]):=⟨_,rfl,tE.2 ⟨.nils,.nils,.nils,rfl,⟨by show 0<9223372036854775808;decide,rfl⟩,⟨by show 0<9223372036854775808;decide,rfl⟩,⟨by show 0<9223372036854775808;decide,rfl⟩⟩⟩
theorem EK {a b c w:AV}(h:w.cells=[w])(h2:w.isTup=false)(h3:b.cells=[b])(h4:b.isTup=false):dV [.int .i64 0,.nils,.nils,.nils] [((0,2),.agg [a,c]),((2,1),b),((3,1),w)]=some [a,c,b,w]:=by
 have k1:(AV.agg [a,c]).cells=[a,c]:=rfl;have k2:(AV.agg [a,c]).isTup=false:=rfl;simp[dV,h,h2,h3,h4,fM,k1,k2]
 rfl
theorem IJ {d kk:Nat}{P:Nat->Prop}{g:G}{v w:AV}{n:Net}{ls:List (List Int)}(hd:0<d)(hm:Agg n NoP 0 g.h v)(hw:SlR P kk g.h ls w):∃r,ap C0 d N.aL [v,w] g=.val r/\Lj n ls NoP 0 .nil r:=by
 obtain ⟨b,rows,rfl,e1,hm',hN,r1,r2,r3,r4⟩:=kw d hm;obtain ⟨w',e2,hw'⟩:=bG hw d;obtain ⟨wrows,p1,p2,p3,p4⟩:=(hw' .nil).all;have p1:∀h',ah h' 1 w'=some wrows:=p1;have hwl:=hw.1;have wl:=λg=>(hw' .nil).len g;rw[xW];refine aW BA (xs:=[.agg [.int .i64 n.grain,b],w']) (by simp only[aH,e1,e2]) (by simp[rF]) (My n ls) (by decide) hd ?_;simp only[sz,simprocAttr,rF];obtain ⟨g0,hg0⟩:∃g0,g0=(G.empty.new (.cells 2 [[.int .i64 n.grain,b]] 0 false false)).new (.cells 4 [[.int .i64 0,.nils,.nils,.nils]] 0 false false):=⟨_,rfl⟩;rw[<-hg0];have f0:g0.h.get 0=.cells 2 [[.int .i64 n.grain,b]] 0 false false:=by rw[hg0];simp[sx,H.get_put]
 have f1:g0.h.get 1=.cells 4 [[.int .i64 0,.nils,.nils,.nils]] 0 false false:=by rw[hg0];simp[sx]
 have f2:g0.nx=2:=by rw[hg0];simp[sx]
 clear hg0;simp only[tp];obtain ⟨z,ez,fs,⟨hfl,hfs⟩,fl,er,rfl,hfl2,her⟩:=LJ (d:=d+1) (g:=g0) (Nat.succ_pos d) (hm' g0.h);have her:=aF.1 her;injection her with her;subst her;obtain ⟨_,e3,hfl2⟩:=hfl2;injection e3 with e3;subst e3;cases hn:S.aP n with
 | false =>
  have hs:S.ba n ls=50:=by rw[S.ba,hn];rfl
  rw[hn] at ez;simp only[Bool.false_eq_true,↓reduceIte] at ez;simp only[sz,simprocAttr,f0,ez,show ¬((50:Int)=0) from by decide,f1];refine ⟨λ_=>True,qn0,?_,_,_,rfl,?_,?_⟩
  ·rw[hs];intro h;cases h
  ·exact KB _ _
  ·rw[hs];exact aF.2 rfl
 | true =>
  have hr:=dw.1 hn;have hfl:=hfl hn;rw[hn] at ez;simp only[↓reduceIte] at ez;refine gx (P:=λt' df g'=>df=[]/\g'=g0/\St t' [(1,w'),(2,.hptr 0 0 0 0),(4,.hptr 1 0 0 0),(6,fl),(7,.int .i64 0)]) ?_ ?_
  ·simp only[sz,simprocAttr,f0,ez];simp[St,sx]
  rintro t df g1 ⟨rfl,rfl,h1,h2,h4,h6,h7,-⟩;obtain ⟨Qf,hQf⟩:∃Qf,Qf=fnQ C0 (d+1) [SR.cell true 4 4,SR.tm 5] (λv g'=>∃P,Lj n ls P 0 g'.h v):=⟨_,rfl⟩;rw[<-hQf];simp only[sz,simprocAttr,h1,h7,wl,rG];refine aK (m:=ls.length) hwl (λj t df g=>df=[]/\St t [(25,w'),(2,.hptr 0 0 0 0),(4,.hptr 1 0 0 0),(6,fl)]/\g=g1/\∀e∈ls.take j,S.aI n e=true) ⟨rfl,by simp[St,sx,h2,h4,h6],rfl,by simp⟩ (by simp[sx]) (by simp[sx]) (by decide)
   (by rintro j t df g v s (rfl | rfl | rfl) ⟨a1,⟨b1,b2,b3,b4,-⟩,c1,c2⟩<;>exact ⟨a1,by simp[St,sx,b1,b2,b3,b4],c1,c2⟩) ?_ ?_
  ·rintro j t df g hj ⟨rfl,⟨h25,h2,h4,h6,-⟩,rfl,hall⟩ h27 h26;obtain ⟨e,he,htk,hem⟩:=ae hj;obtain ⟨row,q1,q2⟩:=p3 j e he;obtain ⟨z,rfl,hz⟩:=eR.1 q2;have hlt:j<wrows.length:=by omega
   have hch:=CG (d:=d+1) (g:=g) (e:=e) (w:=z) (Nat.succ_pos d) (hm' g.h) (hz.tree (h':=g.h) (Nat.le_refl _));cases hev:S.aI n e with
   | true =>
    have hs:S.ay n e=0:=by rw[S.ay,hn,hev];rfl
    rw[hs] at hch;simp only[sz,simprocAttr,h25,h27,h26,h2,p1,hlt,q1,f0,hch];refine ⟨by simp[St,sx,h2,h4,h6,h25],λy hy=>?_⟩;rw[htk] at hy;rcases List.mem_append.1 hy with h | h
    ·exact hall y h
    ·rw[List.mem_singleton.1 h];exact hev
   | false =>
    have hs:S.ay n e=2:=by rw[S.ay,hn,hev];rfl
    have hs2:S.ba n ls=2:=by
     have:ls.all (S.aI n)=false:=by rw[<-Bool.not_eq_true,List.all_eq_true];intro h;rw[h e hem] at hev;cases hev
     rw[S.ba,hn,this];rfl
    rw[hs] at hch;rw[hQf];simp only[sz,simprocAttr,h25,h27,h2,h4,p1,hlt,q1,f0,f1,hch,show ¬((2:Int)=0) from by decide];refine ⟨λ_=>True,qn0,?_,_,_,rfl,?_,?_⟩
    ·rw[hs2];intro h;cases h
    ·exact KB _ _
    ·rw[hs2];exact aF.2 rfl
  ·rintro t df g ⟨rfl,⟨h25,h2,h4,h6,-⟩,rfl,hall⟩;rw[List.take_length] at hall;have hs:S.ba n ls=0:=by rw[S.ba,hn,List.all_eq_true.2 hall];rfl
   have hl8:=hr.l2;have fll:=λg=>hfl2.len g;simp only[sx,↓reduceIte];unfold rJ;refine gx (P:=λt' df g'=>df=[]/\∃S_ q,St t' [(2,.hptr 0 0 0 0),(4,.hptr 1 0 0 0),(6,fl),(11,.hptr q 0 0 0)]/\AskH n.grain b fl S_ n.nodes.length q fs 0 g') ?_ ?_
   ·simp only[sz,simprocAttr,sf,h2,h6,f0,fll,hfl];refine mK (b:=2) (n:=n.nodes.length) (by unfold aP;omega) (by unfold aP;omega) (by first | (simp;done) | (simp;omega)) λS_ g2 hS n2 f2' vS lg2=>?_;simp only[sy] at n2 f2' vS lg2;have hflc:fl.cells=[fl]/\fl.isTup=false:=by
     have h:=hfl2.2;unfold SlV at h
     split at h<;>first | exact ⟨rfl,rfl⟩ | exact h.elim
    simp only[sz,simprocAttr,sf,EK hS.cell.1 hS.cell.2 hflc.1 hflc.2,lg2];have n2':g.nx+5=g2.nx:=by omega
    have k0:g2.h.get 0=.cells 2 [[.int .i64 n.grain,b]] 0 false false:=by rw[f2' 0 (by omega),f0]
    have k1:g2.h.get 1=.cells 4 [[.int .i64 0,.nils,.nils,.nils]] 0 false false:=by rw[f2' 1 (by omega),f1]
    refine ⟨?_,S_,g2.nx+1+1,by simp[St,sx,h2,h4,h6],⟨?_,?_,?_,⟨by omega,by simp⟩,λi hi=>by have:=eg vS hi;omega,List.replicate n.nodes.length .nils,[],?_,by simp,rfl,trivial,λi f X _ h=>by simp at h⟩⟩
    ·simp only[List.reverse_cons,List.reverse_nil,List.nil_append,List.cons_append,G.new_lg,G.put_lg,setLog_lg];refine aV [false,false,false,false,true,false,true,true] [(0,4),(1,4),(0,6),(1,6),(2,6),(3,6),(4,6),(5,6)] (by simp[All2,an,aD]) (by decide) ?_;rintro p hp' x y hx hy;simp only[List.mem_cons,List.not_mem_nil,or_false] at hp';rcases hp' with rfl | rfl | rfl | rfl | rfl | rfl | rfl | rfl<;>(simp at hx hy;subst hx;subst hy;refine eh rfl rfl rfl rfl ?_ ?_ ?_<;>simp[an,aD,ak]<;>omega)
    ·simp[H.get_put,k0]
    ·simp[H.get_put,k1]
    ·simp[H.get_put]
    ·have hS':Own g2 2 S_ 1 ((List.replicate n.nodes.length AV.nils).map λv=>[v]):=by simpa using hS
     refine hS'.fr (by simp;omega) λi hi=>?_;have:=eg vS hi;simp[H.get_put,show ¬i=g2.nx+1+1 by omega]
   clear h25 h2 h4 h6;rintro t df g2 ⟨rfl,S_,q,⟨h2,h4,h6,h11,-⟩,hp⟩;have hbl:=hN.len;simp only[sz,simprocAttr,h6,fll,hfl];refine Nr (m:=n.nodes.length) (q:=q) (gr:=n.grain) (b:=b) (fl:=fl) (S_:=S_) (fs:=fs) hbl hl8 hfl2 hfl (λi f hf=>?_) ⟨by simp[St,sx,h2,h4,h11],hp⟩ (by simp[sx]) (by simp[sx]) ?_
   ·have hi:=(List.getElem?_eq_some_iff.1 hf).1;obtain ⟨x,hx,-,-⟩:=ae (l:=n.nodes) (j:=i) (by omega);obtain ⟨p,hpp,hf2⟩:=hfs i x hi hx;rw[hf] at hf2;injection hf2 with hf2;subst hf2;exact Jd hr hx hpp
   clear h2 h4 h6 h11 hp;rintro t g3 ⟨⟨h11,h2,h4,h45,-⟩,hp⟩;obtain ⟨Vs,l,hS,hVl,hll,hal,hst⟩:=hp.hS;rw[List.take_of_length_le (by omega)] at hal;rw[hQf];have q2:=hp.q2.1;simp only[sz,simprocAttr,rI,h11,h4,hp.hq,hp.h1];have hne:∀i,i≠1->(g3.h.put 1 (.cells 4 [[.int .i64 n.grain,b,fl,S_]] 0 false false)).get i=g3.h.get i:=λi hi=>by simp[H.get_put,hi]
   refine ⟨λ_=>True,(n,fs,l),λ_=>⟨rfl,hfl,hfs,hll,hst⟩,_,_,rfl,⟨_,rfl,tE.2 ⟨b,fl,S_,rfl,hN.wide (Nat.le_refl 0),hfl2.wide (Nat.le_refl 0),?_⟩⟩,?_⟩
   ·have hS':Own (g3.put 1 (.cells 4 [[.int .i64 n.grain,b,fl,S_]] 0 false false)) 2 S_ 1 (Vs.map λv=>[v]):=hS.fr (by simp) λi hi=>by have:=(hS.lt hi).1;simp[H.get_put,show ¬i=1 by omega]
    refine Own.sl (α:=List Int) hS' (by show l.length<_;omega) ?_ λ_ _=>trivial;have hal2:∀(l:List (List Int)) (Vs:List AV),All2 (λX v=>Own g3 (q+1) v 1 (X.map ci)) l Vs->(∀X∈l,X.length<9223372036854775808)->All2 (Rp.rp (λ_=>True) 0 (g3.put 1 (.cells 4 [[.int .i64 n.grain,b,fl,S_]] 0 false false)).h) l (Vs.map λv=>[v]):=by
     intro l
     induction l with
     | nil=>intro Vs h _;cases Vs with
      | nil=>trivial
      | cons v Vs=>exact h.elim
     | cons X l ih=>intro Vs h hX;cases Vs with
      | nil=>exact h.elim
      | cons v Vs =>
       refine ⟨?_,ih Vs h.2 λY hY=>hX Y (by simp[hY])⟩;have ho:Own (g3.put 1 (.cells 4 [[.int .i64 n.grain,b,fl,S_]] 0 false false)) (q+1) v 1 (X.map ci):=h.1.fr (by simp) λi hi=>by have:=(h.1.lt hi).1;simp[H.get_put,show ¬i=1 by omega]
       obtain ⟨_,e1,hh⟩:=ho.ints (k:=0) (hX X (by simp));exact eR.2 ⟨_,e1,hh⟩
    refine hal2 l Vs hal λX hX=>?_;obtain ⟨i,hi,he⟩:=List.mem_iff_getElem.1 hX;have:=(hst i _ X (List.getElem?_eq_getElem (show i<fs.length by omega)) (by rw[List.getElem?_eq_getElem hi,he])).1;omega
   ·rw[hs];exact aF.2 rfl
theorem xy {α:Type}{l:List α}{i:Nat}{x y:α}(h1:l[i]?=some x)(h2:l[i]?=some y):x=y:=by rw[h1] at h2;injection h2
structure WtI (y:QnM) (b fl S_ wv va ca wa:AV) (gr wt:Int) (p:Int) (cards pv:List Int) (m k fb i:Nat) (t:T) (g:G):Prop where
 st:St t [(1,wv),(2,.hptr 0 0 0 0),(12,fl),(13,.int .i64 (m:Int)),(14,.int .i64 (k:Int)),(5,.int .i64 wt),(6,.int .i64 (k:Int)),(7,.hptr fb 0 0 0),(20,va),(8,.int .i64 (p - S.ah (cards.drop i) (pv.drop i)))]
 h0:g.h.get 0=.cells 4 [[.int .i64 gr,b,fl,S_]] 0 false false
 hf:g.h.get fb=.cells 3 [[va,ca,wa]] 0 false false
 nn:0<=p - S.ah (cards.drop i) (pv.drop i)
 nx:1<=g.nx
theorem Iy {d m k fb kv kz:Nat}{y:QnM}{b fl S_ wv va ca wa:AV}{gr wt p:Int}{f:Factor}{R vals:List Int}{mm:Nat}{Q:QT}{t:T}{g:G}(hva:SlR NoP kv .nil f.vars va)(hF:FOk mm f)(hR:S.bU mm f 0 R)(hvl:vals.length=mm)
  (hS:∃(srows:List (List AV)) (z:AV),(∀h,ah h 1 S_=some srows)/\srows[k]?=some [z]/\k<srows.length/\SlR NoP kz .nil R z) (rv:∀h,ah h 1 wv=some (vals.map ci)) (hp:p=S.ah f.cards (S.ae vals f.vars)) (hin:InC f.cards (S.ae vals f.vars)) (hpb:p<=10000000)
  (h0:WtI y b fl S_ wv va ca wa gr wt p f.cards (S.ae vals f.vars) m k fb 0 t g) (h22:tat t 22=.int .i64 0) (h21:tat t 21=.int .i64 (f.vars.length:Int))
  (fin:∀t g,WtI y b fl S_ wv va ca wa gr wt p f.cards (S.ae vals f.vars) m k fb f.vars.length t g->Q (.exit 2) t [] g):wpL (wp C0 d none cK) Q t [] g:=by
 obtain ⟨srows,z,s1,s2,s3,hz⟩:=hS;have rva:=λh=>(hva.tree (h':=h) (Nat.le_refl _)).ints;have rz:=λh=>(hz.tree (h':=h) (Nat.le_refl _)).ints;simp only[cK];refine aK (m:=f.vars.length) hva.1 (λi t df g=>df=[]/\WtI y b fl S_ wv va ca wa gr wt p f.cards (S.ae vals f.vars) m k fb i t g) ⟨rfl,h0⟩ h22 h21 (by decide)
  (by rintro j t df g v s (rfl | rfl | rfl) ⟨a1,⟨b1,b2,b3,b4,b5,b6,b7,b8,b9,b10,-⟩,c1,c2,c3,c4⟩<;>exact ⟨a1,by simp[St,sx,b1,b2,b3,b4,b5,b6,b7,b8,b9,b10],c1,c2,c3,c4⟩) ?_ ?_
 ·rintro i t df g hi ⟨rfl,⟨h1,h2,h12,h13,h14,h5,h6,h7,h20,h8,-⟩,e0,ef,hnn,hnx⟩ h22 h21;obtain ⟨u,hu,-,hum⟩:=ae hi;obtain ⟨hu0,hum⟩:=hF.vr u hum;obtain ⟨un,rfl⟩:=Int.eq_ofNat_of_zero_le hu0;have hcl:=hF.cl;have hdr:f.cards.drop i=f.cards[i]::f.cards.drop (i+1):=List.drop_eq_getElem_cons (by omega);have hval:vals[un]?=some vals[un]:=List.getElem?_eq_getElem (by omega);have hpvi:(S.ae vals f.vars)[i]?=some vals[un]:=by simp[S.ae,hu,hval]
  have hdp:(S.ae vals f.vars).drop i=vals[un]::(S.ae vals f.vars).drop (i+1):=by
   have hl:i<(S.ae vals f.vars).length:=by rw[d9];exact hi
   rw[List.drop_eq_getElem_cons hl];rw[List.getElem?_eq_getElem hl] at hpvi;injection hpvi with hpvi;rw[hpvi]
  have hv0:0<=vals[un]:=by obtain ⟨v',h1,h2,-⟩:=hin.get (i:=i) (c:=f.cards[i]) (List.getElem?_eq_getElem (by omega));rw[xy hpvi h1];exact h2
  generalize vals[un]=x at hval hpvi hdp hv0;have hRu:=hR.2 i (un:Int) (Nat.zero_le _) hu;rw[Int.toNat_natCast] at hRu;have hRl:=(List.getElem?_eq_some_iff.1 hRu).1;have u1:i<(f.vars.map ci).length:=by simpa using hi
  have u2:(f.vars.map ci)[i]?=some (ci (un:Int)):=by rw[List.getElem?_map,hu];rfl
  have u3:un<(vals.map ci).length:=by simp;omega
  have u4:(vals.map ci)[un]?=some (ci x):=by rw[List.getElem?_map,hval];rfl
  have u5:un<(R.map ci).length:=by simpa using hRl
  have u6:(R.map ci)[un]?=some (ci (S.af (f.cards.drop (i+1)))):=by rw[List.getElem?_map,hRu];rfl
  have hidx:S.ah (f.cards.drop i) ((S.ae vals f.vars).drop i)=x*S.af (f.cards.drop (i+1))+S.ah (f.cards.drop (i+1)) ((S.ae vals f.vars).drop (i+1)):=by rw[hdr,hdp,S.ah]
  have hb1:=bE (cards:=f.cards.drop (i+1)) (vals:=(S.ae vals f.vars).drop (i+1)) (λc hc=>hF.cb c (List.mem_of_mem_drop hc)) (hin.drop (i+1));have hb2:=bE (cards:=f.cards.drop i) (vals:=(S.ae vals f.vars).drop i) (λc hc=>hF.cb c (List.mem_of_mem_drop hc)) (hin.drop i);have hpp:=lJ (cs:=f.cards.drop (i+1)) λc hc=>(hF.cb c (List.mem_of_mem_drop hc)).1;have hxs:0<=x*S.af (f.cards.drop (i+1)):=Int.mul_nonneg hv0 (by omega);have w1:IntKind.wrap .i64 (x*S.af (f.cards.drop (i+1)))=x*S.af (f.cards.drop (i+1)):=aq (by omega) (by omega);have w2:IntKind.wrap .i64 (p - S.ah (f.cards.drop i) ((S.ae vals f.vars).drop i)+x*S.af (f.cards.drop (i+1)))=p - S.ah (f.cards.drop (i+1)) ((S.ae vals f.vars).drop (i+1)):=by rw[aq (by omega) (by omega)];omega
  simp only[sz,simprocAttr,h1,h2,h6,h8,h20,h22,h21,e0,rva,u1,u2,rv,u3,u4,s1,s2,s3,rz,u5,u6,ci,w1,w2];refine ⟨by simp[St,sx,h1,h2,h12,h13,h14,h5,h6,h7,h20],e0,ef,by omega,by first | exact hnx | (simp;done) | (simp;omega)⟩
 ·rintro t df g ⟨rfl,h⟩;exact fin t g h
structure WtJ (n:Net) (vals:List Int) (b fl S_ wv:AV) (k:Nat) (t:T) (g:G):Prop where
 st:St t [(1,wv),(2,.hptr 0 0 0 0),(12,fl),(5,.int .i64 (S.af ((List.range k).map (S.aD n vals))))]
 h0:g.h.get 0=.cells 4 [[.int .i64 n.grain,b,fl,S_]] 0 false false
 nx:1<=g.nx
theorem Iz {d kk ky:Nat}{P:Nat->Prop}{g:G}{v w:AV}{n:Net}{y:QnM}{vals:List Int}(hd:0<d)(hr:NR n)(hm:Agg y NoP ky g.h v)(hq:QnOk n y)(hv:SlR P kk g.h vals w)(hc:InC (S.aa n) vals) :
  ap C0 d N.be [v,w] g=.val (.int .i64 (S.aX n vals)):=by
 have e0:=j7 d hm;obtain ⟨cs,rfl,hcs⟩:=hm;obtain ⟨b,fl,S_,rfl,hN,hfl,hS⟩:=tE.1 hcs;have hfl:SlR NoP ky .nil y.2.1 fl:=hfl.tree (Nat.le_refl _);have hS:SlR NoP ky .nil y.2.2 S_:=hS.tree (Nat.le_refl _);obtain ⟨w',e2,hw'⟩:=bG hv d;have hgr:y.1.grain=n.grain:=by rw[hq.net]
 obtain ⟨frows,f1,f2,f3,f4⟩:=hfl.all;have f1:∀h',ah h' 3 fl=some frows:=f1;obtain ⟨srows,s1,s2,s3,s4⟩:=B8 hS;have rv:=λh=>(hw' h).ints;have hvl:=hc.len;rw[aA] at hvl;have hl8:=hr.l2;have hfll:=hq.fl;rw[lV];refine jZ nH (xs:=[.agg [.int .i64 y.1.grain,b,fl,S_],w']) (by simp only[aH,e0,e2]) (by simp[dG]) hd ?_;rw[hgr];have ll:=hfl.len;simp only[sz,simprocAttr,dG,gf,ll,hfll];simp only[ff,fj];refine aK (m:=n.nodes.length) (by omega) (λk t df g=>df=[]/\WtJ n vals b fl S_ w' k t g) ⟨rfl,by simp[St,sx,S.af],by simp[sx],by simp⟩ (by simp[sx]) (by simp[sx]) (by decide)
  (by rintro j t df g v s (rfl | rfl | rfl) ⟨a1,⟨b1,b2,b3,b4,-⟩,c1,c2⟩<;>exact ⟨a1,by simp[St,sx,b1,b2,b3,b4],c1,c2⟩) ?_ ?_
 ·rintro k t df g hk ⟨rfl,⟨h1,h2,h12,h5,-⟩,g0,hnx⟩ h14 h13;obtain ⟨x,hx,-,-⟩:=ae hk;obtain ⟨p,hp,hf⟩:=hq.fs k x (by omega) hx;obtain ⟨row,q1,q2⟩:=f3 k _ hf;obtain ⟨va,ca,wa,rfl,hva,hca,hwa⟩:=iI.1 q2;have hF:=Jd hr hx hp;obtain ⟨pn,i1,i2,i3⟩:=NC hr hc hx p;have hlt:k<frows.length:=by omega
  have hry:=f4 (by omega);obtain ⟨R,hR,-,-⟩:=ae (l:=y.2.2) (j:=k) (by rw[hq.sl];exact hk);obtain ⟨z,z1,z2,z3⟩:=s3 k R hR;have hinp:InC (S.aN n k x p).cards (S.ae vals (S.aN n k x p).vars):=dx hc λu hu=>by rw[aA];exact yL hr hx p u hu
  have hib:=bE hF.cb hinp;have hpb:=bB (l:=(S.aN n k x p).cards) hF.cb;have hfv:=hF.vl;have hp4:=cZ (a:=(S.aN n k x p).cards.length) (b:=9) (by
   have h1:=bV (hr.places x (List.mem_of_getElem? hx)) (by omega);have h3:=sR x.parents p (k:Int) hp;show (S.ae _ _).length<=9;rw[d9];omega)
  have h48:(4:Int) ^ 9=262144:=by decide
  have ei:S.ah (S.aN n k x p).cards (S.ae vals (S.aN n k x p).vars)=(pn:Int):=i1;have lva:=hva.len;have rwa:=λh=>(hwa.tree (h':=h) (Nat.le_refl _)).ints;refine di (P:=λt' df g'=>df=[]/\g'=(g.new (.cells 3 [[.nils,.nils,.nils]] 0 false false)).put g.nx (.cells 3 [[va,ca,wa]] 0 false false)/\St t' [(1,w'),(2,.hptr 0 0 0 0),(12,fl),(13,.int .i64 (n.nodes.length:Int)),(14,.int .i64 (k:Int)),(5,.int .i64 (S.af ((List.range k).map (S.aD n vals)))),(6,.int .i64 (k:Int)),(7,.hptr g.nx 0 0 0)]) ?_ ?_
  ·simp only[sz,simprocAttr,h14,h12,f1,hlt,q1];simp[St,sx,h1,h2,h12,h13,h14,h5]
  clear h1 h2 h12 h5 h14 h13;rintro t df g1 ⟨rfl,hg1,⟨h1,h2,h12,h13,h14,h5,h6,h7,-⟩⟩;have k0:g1.h.get 0=.cells 4 [[.int .i64 n.grain,b,fl,S_]] 0 false false:=by rw[hg1];simp[H.get_put,show ¬0=g.nx by omega,g0]
  have k1:g1.h.get g.nx=.cells 3 [[va,ca,wa]] 0 false false:=by rw[hg1];simp[H.get_put]
  have kn:g1.nx=g.nx+1:=by rw[hg1];simp
  simp only[sz,simprocAttr,h7,k1,lva];refine Iy (y:=y) (b:=b) (fl:=fl) (S_:=S_) (wv:=w') (va:=va) (ca:=ca) (wa:=wa) (gr:=n.grain) (wt:=S.af ((List.range k).map (S.aD n vals))) (p:=(pn:Int)) (f:=S.aN n k x p) (R:=R) (vals:=vals) (mm:=n.nodes.length) (m:=n.nodes.length) (k:=k) (fb:=g.nx) hva hF (hq.st k _ R hf hR) hvl ⟨srows,z,s1,z1,z2,z3⟩ rv ei.symm hinp (by omega)
   ⟨by simp[St,sx,h1,h2,h12,h13,h14,h5,h6,h7,ei],by simpa using k0,by simpa using k1,by simp[ei],by omega⟩ (by simp[sx]) (by simp[sx]) ?_
  clear h1 h2 h12 h13 h14 h5 h6 h7;rintro t g2 ⟨⟨h1,h2,h12,h13,h14,h5,h6,h7,h20,h8,-⟩,k0,k1,-,hnx2⟩;have hnil:S.ah ((S.aN n k x p).cards.drop (S.aN n k x p).vars.length) ((S.ae vals (S.aN n k x p).vars).drop (S.aN n k x p).vars.length)=0:=by rw[List.drop_of_length_le (by rw[hF.cl];exact Nat.le_refl _)];rfl
  rw[hnil,Int.sub_zero] at h8;have u1:pn<((S.aN n k x p).w.map ci).length:=by rw[List.length_map];exact (List.getElem?_eq_some_iff.1 i3).1
  have u2:((S.aN n k x p).w.map ci)[pn]?=some (ci (S.aD n vals k)):=by rw[List.getElem?_map];exact congrArg (Option.map ci) i3
  have wb:=ox hr hc (j:=k+1) (by omega);have ws:=zI n vals k;have w1:IntKind.wrap .i64 (S.af ((List.range k).map (S.aD n vals))*S.aD n vals k)=S.af ((List.range (k+1)).map (S.aD n vals)):=by rw[<-ws,aq (by omega) (by omega)]
  simp only[sz,simprocAttr,fg,h5,h7,k1,h8,rwa,u1,u2,ci,w1];exact ⟨⟨by simp[St,sx,h1,h2,h12],k0,hnx2⟩,h14,h13⟩
 ·rintro t df g ⟨rfl,⟨h1,h2,h12,h5,-⟩,g0,hnx⟩;simp only[sz,simprocAttr,fk,h5]
  rfl
def S.bK (vals e:List Int)(i:Nat):Bool:=decide (e[i]?.getD 0 = -1) || decide (e[i]?.getD 0=vals[i]?.getD 0)
def S.jm (vals e:List Int):Bool:=(List.range e.length).all (S.bK vals e)
theorem Gs {vals e:List Int}(h:∀x∈e,-1<=x):S.jm vals e=S.bL vals e:=by
 have key:S.bK vals e=S.bS vals e:=by
  funext i;have h1:-1<=e[i]?.getD 0:=by
   cases hx:e[i]? with
   | none=>decide
   | some x=>exact h x (List.mem_of_getElem? hx)
  unfold S.bK S.bS;generalize e[i]?.getD 0=x at h1;congr 1;rw[decide_eq_decide];omega
 rw[S.jm,S.bL,key]
theorem EZ {d k k2:Nat}{g:G}{P P2:Nat->Prop}{v w:AV}{vals e:List Int}(hd:0<d)(hv:SlR P k g.h vals v)(hw:SlR P2 k2 g.h e w)(hl:e.length<=vals.length) :
  ap C0 d N.ba [v,w] g=.val (.bool (S.jm vals e)):=by
 obtain ⟨v',e1,r1⟩:=bG hv d;obtain ⟨w',e2,r2⟩:=bG hw d;have ra:∀h',ah h' 1 v'=some (vals.map ci):=λh'=>(r1 h').ints;have rb:∀h',ah h' 1 w'=some (e.map ci):=λh'=>(r2 h').ints;have n2:=λg=>(r2 .nil).len g;rw[tK];refine pC v_ (xs:=[v',w']) (by simp only[aH,e1,e2]) (by simp[kT]) hd ?_;simp only[sz,simprocAttr,kT,md,n2];refine aK (m:=e.length) hw.1 (λj t df g=>df=[]/\St t [(0,v'),(8,w'),(5,.bool true)]/\(List.range j).all (S.bK vals e)=true) ⟨rfl,by simp[St,sx],rfl⟩ (by simp[sx]) (by simp[sx]) (by decide) (by rintro j t df g v s (rfl | rfl | rfl)<;>simp[St,sx]) ?_ ?_
 ·rintro j t df g hj ⟨rfl,⟨h0,h8,h5,-⟩,hA⟩ h10 h9;obtain ⟨x,hx,-,-⟩:=ae hj;obtain ⟨z,hz,-,-⟩:=ae (l:=vals) (j:=j) (by omega);have q1:j<(e.map ci).length:=by simpa using hj
  have q2:j<(vals.map ci).length:=by rw[List.length_map];omega
  have q3:(e.map ci)[j]?=some (ci x):=by rw[List.getElem?_map,hx];rfl
  have q4:(vals.map ci)[j]?=some (ci z):=by rw[List.getElem?_map,hz];rfl
  have hat:S.bK vals e j=(decide (x = -1) || decide (x=z)):=by simp[S.bK,hx,hz]
  by_cases c1:x = -1
  ·subst c1;simp only[sz,simprocAttr,h10,h9,h8,rb,q1,q3,ci];refine ⟨by simp[St,sx,h0,h8,h5],?_⟩;rw[eW,hA,hat];simp
  ·by_cases c2:x=z
   ·subst c2;simp only[sz,simprocAttr,h10,h9,h8,h0,ra,rb,q1,q2,q3,q4,ci,c1];refine ⟨by simp[St,sx,h0,h8,h5],?_⟩;rw[eW,hA,hat];simp
   ·have:S.bK vals e j=false:=by rw[hat];simp[c1,c2]
    have hf:S.jm vals e=false:=by rw[S.jm,wV hj this]
    simp only[sz,simprocAttr,h10,h8,h0,ra,rb,q1,q2,q3,q4,ci,c1,c2,gZ,hf]
 ·rintro t df g ⟨rfl,⟨h0,h8,h5,-⟩,hA⟩;simp only[sz,simprocAttr,gZ,h5];rw[S.jm,hA]
theorem Ej {d k:Nat}{g:G}{P:Nat->Prop}{v:AV}{l:List Int}(hd:0<d)(hv:SlR P k g.h l v):ap C0 d N.aG [v] g=.val (.int .i64 (S.aU l)):=by
 obtain ⟨v',e,r1⟩:=bG hv d;have vl:∀g,dv .slice v' g=.val (.int .i64 (l.length:Int)):=λg=>(r1 .nil).len g;have ri:=λh=>(r1 h).ints;rw[xa];refine jZ zZ (xs:=[v']) (by simp only[aH,e]) (by simp[p_]) hd ?_;simp only[sz,simprocAttr,p_,vl,qP];refine aK (m:=l.length) hv.1 (λj t df g=>df=[]/\St t [(6,v'),(3,.int .i64 (S.aU (l.take j)))]) ⟨rfl,by simp[St,sx,S.aU]⟩ (by simp[sx]) (by simp[sx]) (by decide)
  (by rintro j t df g v s (rfl | rfl | rfl)<;>simp[sx,St]) ?_ ?_
 ·rintro j t df g hj ⟨rfl,h6,h3,-⟩ h8 h7;obtain ⟨x,hx,htk,hm⟩:=ae hj;have z1:j<(l.map ci).length:=by simpa using hj
  have z2:(l.map ci)[j]?=some (ci x):=by rw[List.getElem?_map,hx];rfl
  simp only[sz,simprocAttr,h6,h8,h3,ri,z1,z2,ci];simp[St,sx,h6,h7,h8,htk,S.aU,List.foldl_append]
 ·rintro t df g ⟨rfl,h6,h3,-⟩;rw[List.take_length] at h3;simp only[sz,simprocAttr,qQ,h3]
theorem wA {d k:Nat}{g:G}{P:Nat->Prop}{v:AV}{n:Net}(hd:0<d)(hv:SlR P k g.h n.nodes v)(hn:n.nodes.length<1073741824):∃r,ap C0 d N.aF [v] g=.val r/\IT 0 (S.aa n) r:=by
 obtain ⟨v',e,r0⟩:=bG hv d;obtain ⟨rows,r1,r2,r3,r4⟩:=(r0 .nil).all;have r1:∀h',ah h' 3 v'=some rows:=r1;have vl:∀g,dv .slice v' g=.val (.int .i64 (n.nodes.length:Int)):=λg=>(r0 .nil).len g;rw[vP];refine aW yE (xs:=[v']) (by simp only[aH,e]) (by simp[nY]) (aR _) (by decide) hd ?_;simp only[sz,simprocAttr,nY,vl];refine lD (b:=0) (n:=n.nodes.length) (by unfold aP;omega) (by unfold aP;omega) (Nat.zero_le _) λu g1 hu n1 f1 v1=>?_;simp only[sz,simprocAttr,vl,pt];refine aK (m:=n.nodes.length) (by omega) (λj t df g=>df=[]/\St t [(9,v'),(3,u)]/\Own g 0 u 1 ((((S.aa n).take j)++List.replicate (n.nodes.length - j) 0).map ci)) ⟨rfl,by simp[St,sx],?_⟩ (by simp[sx]) (by simp[sx]) (by decide)
  (by rintro j t df g v s (rfl | rfl | rfl)<;>simp[sx,St]) ?_ ?_
 ·simpa [ci] using hu
 ·rintro j t df g hj ⟨rfl,⟨h9,h3,-⟩,hO⟩ h11 h10;obtain ⟨x,hx,-,hm⟩:=ae hj;obtain ⟨row,q1,q2⟩:=r3 j x hx;obtain ⟨a',b',rfl,ha',hb'⟩:=cp.1 q2;have hlt:j<rows.length:=by omega
  have hry:=r4 (by omega);have hcl:(S.aa n).length=n.nodes.length:=aA n;have hcj:(S.aa n)[j]?=some x.card:=by simp[S.aa,hx]
  have z1:j<((((S.aa n).take j)++List.replicate (n.nodes.length - j) 0).map ci).length:=by simp;omega
  have z2:((((S.aa n).take j)++List.replicate (n.nodes.length - j) 0).map ci)[j]?=some (ci 0):=by rw[List.getElem?_map,List.getElem?_append_right (by simp;omega),List.getElem?_replicate];simp;omega
  have e2:((((S.aa n).take j)++List.replicate (n.nodes.length - j) 0).map ci).set j (ci x.card)=(((S.aa n).take (j+1))++List.replicate (n.nodes.length - (j+1)) 0).map ci:=by
   rw[<-List.map_set,List.set_append_right _ _ (by simp;omega),List.length_take,Nat.min_eq_left (by omega),Nat.sub_self,List.take_succ_eq_append_getElem (by omega),show n.nodes.length - j=(n.nodes.length - (j+1))+1 by omega,List.replicate_succ,List.set_cons_zero,List.append_assoc];have:(S.aa n)[j]=x.card:=by rw[List.getElem?_eq_getElem (by omega)] at hcj;injection hcj
   rw[this];rfl
  have fw:dV [.int .i64 0,.nils,.nils] [((0,3),.agg [.int .i64 x.card,a',b'])]=some [.int .i64 x.card,a',b']:=rfl;simp only[sz,simprocAttr,h9,h11,r1,hlt,q1,hry];have hO2:Own ((g.new (.cells 3 [[.int .i64 0,.nils,.nils]] 0 false false)).put g.nx (.cells 3 [[.int .i64 x.card,a',b']] 0 false false)) 0 u 1 ((((S.aa n).take j)++List.replicate (n.nodes.length - j) 0).map ci) :=
   hO.fr (by simp) λi hi=>by have:=(hO.lt hi).2;simp[H.get_put,show ¬i=g.nx by omega]
  generalize (g.new (.cells 3 [[.int .i64 0,.nils,.nils]] 0 false false)).put g.nx (.cells 3 [[.int .i64 x.card,a',b']] 0 false false)=g2 at hO2 ⊢;simp only[sz,simprocAttr,h3,hO2.rows,z1];refine bF (v:=u) (sz:=1) (n:=1) (i:=j) (off:=0) (x:=.int .i64 x.card) (row:=ci 0) (row':=ci x.card) hO2 z2 rfl rfl rfl λg3 o3 n3 f3=>?_;rw[e2] at o3;simp only[sz,simprocAttr];simpa [St,sx,h9,h3,h10,h11] using o3
 ·rintro t df g ⟨rfl,⟨h9,h3,-⟩,hO⟩;rw[List.take_of_length_le (by rw[aA];omega),Nat.sub_self] at hO;simp only[sz,simprocAttr,pu,h3];exact ⟨_,(by simpa using hO:Own g 0 u 1 ((S.aa n).map ci)).ints (by rw[aA];omega)⟩
def S.bJ (l:List Int)(x:Int):Int:=if x∈l then (l.idxOf x:Int) else -1
theorem Jh {l:List Int}{x:Int}:(0:Int)<=S.bJ l x↔x∈l:=by
 unfold S.bJ
 split
 ·rename_i h;simp[h]
 ·rename_i h;simp[h]
theorem IA {d k:Nat}{g:G}{P:Nat->Prop}{v:AV}{l:List Int}{x:Int}(hd:0<d)(hv:SlR P k g.h l v):ap C0 d N.bE [v,.int .i64 x] g=.val (.int .i64 (S.bJ l x)):=by
 obtain ⟨v',e,r1⟩:=bG hv d;have vl:∀g,dv .slice v' g=.val (.int .i64 (l.length:Int)):=λg=>(r1 .nil).len g;have ri:=λh=>(r1 h).ints;rw[oG];refine jZ qX (xs:=[v',.int .i64 x]) (by simp only[aH,e,dy 0]) (by simp[fF]) hd ?_;simp only[sz,simprocAttr,fF,vl,iF];refine aK (m:=l.length) hv.1 (λj t df g=>df=[]/\St t [(0,v'),(1,.int .i64 x)]/\x ∉ l.take j) ⟨rfl,by simp[St,sx],by simp⟩ (by simp[sx]) (by simp[sx]) (by decide)
  (by rintro j t df g v s (rfl | rfl | rfl)<;>simp[sx,St]) ?_ ?_
 ·rintro j t df g hj ⟨rfl,⟨h0,h1,-⟩,hno⟩ h8 h7;obtain ⟨y,hy,htk,hm⟩:=ae hj;have z1:j<(l.map ci).length:=by simpa using hj
  have z2:(l.map ci)[j]?=some (ci y):=by rw[List.getElem?_map,hy];rfl
  by_cases c:x=y
  ·subst c;have hl:l=l.take j++x::l.drop (j+1):=by
    have:l.drop j=x::l.drop (j+1):=by rw[List.drop_eq_getElem_cons hj];congr 1;rw[List.getElem?_eq_getElem hj] at hy;injection hy
    rw[<-this,List.take_append_drop]
   have hf:S.bJ l x=(j:Int):=by
    unfold S.bJ;rw[if_pos hm];have:l.idxOf x=j:=by
     conv=>lhs;rw[hl]
     rw[List.idxOf_append,if_neg hno,List.idxOf_cons_self,List.length_take];omega
    rw[this]
   simp only[sz,simprocAttr,h0,h1,h8,ri,z1,z2,ci,hf]
  ·simp only[sz,simprocAttr,h0,h1,h8,ri,z1,z2,ci,c];simp[St,sx,h0,h1,h7,h8,htk,hno,c]
 ·rintro t df g ⟨rfl,-,hno⟩;rw[List.take_length] at hno;simp only[sz,simprocAttr,iG,S.bJ,hno]
theorem Ci {d k:Nat}{g:G}{P:Nat->Prop}{v:AV}{l:List Int}{x:Int}(hd:0<d)(hv:SlR P k g.h l v):ap C0 d N.bD [v,.int .i64 x] g=.val (.bool (decide (x∈l))):=by obtain ⟨v',e,r1⟩:=bG hv d;have ki:=λg=>IA (d:=d+1) (g:=g) (x:=x) (Nat.succ_pos d) (r1 g.h);have hd2:decide ((0:Int)<=S.bJ l x)=decide (x∈l):=decide_eq_decide.2 Jh;rw[lX];refine pC nJ (xs:=[v',.int .i64 x]) (by simp only[aH,e,dy 0]) (by simp[dQ]) hd ?_;simp only[sz,simprocAttr,dQ,ki,<-hd2]
theorem Bs {α:Type} [Rp α]{P:Nat->Prop}{k:Nat}{h:H}{l:List α}{w:AV}(hw:SlR P k h l w)(g:G):Cx w g=.upd (.hptr g.nx 0 0 0) (g.new (.cells 1 [[w]] 0 false false)):=by rw[Ev _ _ hw.cell.2,hw.cell.1];rfl
def Bj {α:Type} [Rp α](x:α)(sz:Nat):VS:=λP k h v=>(∃id cs,v=.hptr id 0 0 0/\P id/\h.get id=.cells sz [cs] 0 false false/\Rp.rp P k h x cs)\/∃t cs,v=.tptr t sz [cs] 0 0/\t<=k/\Rp.rp NoP k .nil x cs
theorem uW {α:Type} [Rp α]{x:α}{sz:Nat}{P:Nat->Prop}{k:Nat}{h:H}{v:AV}{n:Nat}(d:Nat)(r:Bj x sz P k h v)(hn:Rp.dp α<=n)(hd:Rp.dp α<=20:=by decide):∃v',Hx.snap h d (n+1) v=some v'/\Bj x sz NoP (max k d) .nil v':=by
 rcases r with ⟨id,cs,rfl,-,hg,r⟩ | ⟨t,cs,rfl,ht,r⟩
 ·obtain ⟨cs',e,r'⟩:=Rp.snap (n:=n) d r hn (by show _<=24;omega);obtain ⟨m,e2,l2⟩:=Rp.tag (n:=aI) r' (by show _<=24;omega);refine ⟨.tptr (Nat.max d (Nat.max m 0)) sz [cs'] 0 0,?_,.inr ⟨_,cs',rfl,?_,r'⟩⟩
  ·simp only[Hx.snap,hg,show Nat.beq 0 0=true from rfl,aH,e,eT,fL,e2]
  ·show max d (max m 0)<=max k d;omega
 ·exact ⟨.tptr t sz [cs] 0 0,rfl,.inr ⟨t,cs,rfl,by omega,Rp.mono r (λi hi=>hi.elim) (by omega)⟩⟩
theorem xC {α:Type} [Rp α]{x:α}{sz:Nat}{k:Nat}{h:H}{v:AV}{n:Nat}(r:Bj x sz NoP k h v):∃m,d_ (n+1) v=some m/\m<=k:=by
 rcases r with ⟨id,cs,rfl,hP,-⟩ | ⟨t,cs,rfl,ht,r⟩
 ·exact hP.elim
 ·exact ⟨t,rfl,ht⟩
def MtV (y:QnM)(e:List Int):VS:=λP k h v=>∃p q,v=.clo N.ae [] [p,q]/\Bj y 4 P k h p/\Bj e 1 P k h q
theorem Oa (y:QnM)(e:List Int):Snb (MtV y e) 2:=by
 refine ⟨λ{P k h v n} d r hn=>?_,λ{k h v n} r hn=>?_⟩
 ·obtain ⟨p,q,rfl,r1,r2⟩:=r;obtain ⟨n,rfl⟩:∃q,n=q+2:=⟨n - 2,by omega⟩;obtain ⟨p',e1,r1'⟩:=uW (n:=n) d r1 (Nat.le_trans (show Rp.dp QnM<=20 by decide) (by omega));obtain ⟨q',e2,r2'⟩:=uW (n:=n) d r2 (Nat.le_trans (show Rp.dp (List Int)<=20 by decide) (by omega));refine ⟨.clo N.ae [] [p',q'],?_,p',q',rfl,r1',r2'⟩;simp only[Hx.snap,aH] at e1 e2 ⊢;rw[e1,e2]
 ·obtain ⟨p,q,rfl,r1,r2⟩:=r;obtain ⟨n,rfl⟩:∃q,n=q+2:=⟨n - 2,by omega⟩;obtain ⟨m1,e1,l1⟩:=xC (n:=n) r1;obtain ⟨m2,e2,l2⟩:=xC (n:=n) r2;refine ⟨Nat.max m1 (Nat.max m2 0),?_,by show max m1 (max m2 0)<=k;omega⟩;show fL (d_ (n+1)) [p,q]=_;simp only[fL,e1,e2]
theorem wI {d kk:Nat}{g:G}{v w:AV}{y:QnM}{e:List Int}(hd:0<d)(hm:Agg y NoP 0 g.h v)(hw:SlR NoP kk g.h e w)(hk:kk<d:=by omega) :
  ∃cs z t1 t2,ap C0 d N.aw [v,w] g=.val (.clo N.ae [] [.tptr t1 4 [cs] 0 0,.tptr t2 1 [[z]] 0 0])/\Rp.rp NoP kk .nil y cs/\SlR NoP kk .nil e z:=by
 have e0:=j7 d hm;obtain ⟨cs,rfl,hc⟩:=hm;obtain ⟨a,b,c,rfl,h1,h2,h3⟩:=tE.1 hc;have key:∃r,ap C0 d N.aw [.agg [.int .i64 y.1.grain,a,b,c],w] g=.val r/\MtV y e NoP kk .nil r:=by rw[kI];refine aW l9 (xs:=[.agg [.int .i64 y.1.grain,a,b,c],w]) (by simp only[aH,e0,j5 d hw]) (by simp[cU]) (Oa y e) (by decide) hk ?_;simp only[sz,simprocAttr,cU,eN,Bs hw];refine ⟨λ_=>True,_,_,rfl,.inl ⟨0,_,rfl,trivial,by simp[sx,H.get_put],Rp.tree hc (Nat.zero_le _)⟩,.inl ⟨1,[w],rfl,trivial,by simp[sx],?_⟩⟩;exact ⟨w,rfl,hw.wide (Nat.le_refl _)⟩
 obtain ⟨r,hr,p,q,rfl,r1,r2⟩:=key;rcases r1 with ⟨id,cs,rfl,hP,-⟩ | ⟨t,cs,rfl,ht,r1⟩
 ·exact hP.elim
 rcases r2 with ⟨id,cs,rfl,hP,-⟩ | ⟨t2,cs2,rfl,ht2,r2⟩
 ·exact hP.elim
 obtain ⟨z,rfl,hz⟩:=eR.1 r2;exact ⟨cs,z,t,t2,hr,r1,hz⟩
theorem y8 {cs vs:List Int}(h:InC cs vs)(hc:∀c∈cs,1<=c){i:Nat}{x c:Int}(hi:vs[i]?=some x)(hci:cs[i]?=some c)(hx:x≠c - 1):InC cs (vs.take i++(x+1)::List.replicate (vs.length - (i+1)) 0):=by
 have hil:=(List.getElem?_eq_some_iff.1 hi).1;have hl:=h.len;refine BK (by simp;omega) λj c' v hj hv=>?_;obtain ⟨v',h1,h2,h3⟩:=h.get hj;have hcp:=hc c' (List.mem_of_getElem? hj)
 by_cases h4:j<i
 ·rw[List.getElem?_append_left (by simp;omega),List.getElem?_take_of_lt h4] at hv;rw[h1] at hv;injection hv with hv;omega
 ·rw[List.getElem?_append_right (by simp;omega)] at hv;rw[List.length_take,Nat.min_eq_left (by omega)] at hv
  by_cases h5:j=i
  ·subst h5;rw[Nat.sub_self] at hv;simp at hv;rw[hi] at h1;injection h1 with h1;rw[hci] at hj;injection hj with hj;omega
  ·obtain ⟨m,hm⟩:∃m,j - i=m+1:=⟨j - i - 1,by omega⟩;rw[hm,List.getElem?_cons_succ] at hv;have:=List.mem_of_getElem? hv;rw[List.mem_replicate] at this;omega
theorem zJ {cs:List Int}(hc:∀c∈cs,1<=c):InC cs (List.replicate cs.length 0) :=
 BK (by simp) λj c v hj hv=>by have:=List.mem_of_getElem? hv;rw[List.mem_replicate] at this;have:=hc c (List.mem_of_getElem? hj);omega
end
end Hx
end
