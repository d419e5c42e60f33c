/- A part of the proof: an interpreter over abstract values, shown right against the model, and what the functions of the chapter compute on it. -/
import Derived.Test.YtjddchnjpobmkaaHx11
set_option linter.unusedVariables false
set_option linter.unusedSimpArgs false
set_option linter.unnecessarySimpa false
section
namespace Hx
open Go
noncomputable section
structure FacH (bx nd:List AV) (w u:AV) (vars cards:List Int) (beh:Int) (q:Nat) (g:G):Prop where
 h0:g.h.get 0=.cells 5 [bx] 0 false false
 h1:g.h.get 1=.cells 3 [[.nils,.nils,.nils]] 0 false false
 h2:g.h.get 2=.cells 3 [nd] 0 false false
 h8:g.h.get q=.cells 3 [[w,u,.nils]] 0 false false
 h9:g.h.get (q+1)=.cells 1 [[.int .i64 beh]] 0 false false
 hw:Own g 3 w 1 (vars.map ci)
 hu:Own g (q+2) u 1 (cards.map ci)
 wq:∀i,vid w=some i->i<q
 q3:3<=q
 qn:q+2<=g.nx
def l9 (q:Nat):List (Nat×AV):=[(2,.hptr 0 0 0 0),(4,.hptr 1 0 0 0),(5,.hptr 2 0 0 0),(8,.hptr q 0 0 0),(9,.hptr (q+1) 0 0 0)]
structure FacJ (gr:Int) (b cv sv oz:AV) (nd:List AV) (w:AV) (cs vars:List Int) (pl q j:Nat) (t:T) (g:G):Prop where
 st:St t ((38,w)::(6,.int .i64 (pl:Int))::l9 q)
 hp:∃u,FacH [.int .i64 gr,b,cv,sv,oz] nd w u vars (S.ac cs (vars.take j)) (S.ae (S.ac cs ((vars.take j).drop (pl+1)))) q g
theorem tH {l:List Int}{j k:Nat}{p:Int}(hp:l.take (j+1)=l.take j++[p])(hj:j<l.length)(h:k<j):(l.take (j+1)).drop (k+1)=(l.take j).drop (k+1)++[p]:=by
 rw[hp,List.drop_append_of_le_length (by simp;omega)]
theorem tU {l:List Int}{j k:Nat}(h:j<=k):(l.take (j+1)).drop (k+1)=(l.take j).drop (k+1):=by
 rw[List.drop_of_length_le (by simp;omega),List.drop_of_length_le (by simp;omega)]
theorem Ii {d pl q:Nat}{gr:Int}{b cv sv oz w:AV}{nd:List AV}{cs vars:List Int}{Q:QT}{t:T}{g:G}(rc:∀h,ae h 1 cv=some (cs.map ci))(hvl:vars.length<=16)(hvp:∀p∈vars,0<=p/\p<cs.length)(hcb:∀c∈cs,1<=c/\c<=4)(hpl:pl<=1000)
  (h0:FacJ gr b cv sv oz nd w cs vars pl q 0 t g) (h40:tat t 40=.int .i64 0) (h39:tat t 39=.int .i64 (vars.length:Int))
  (fin:∀t g,FacJ gr b cv sv oz nd w cs vars pl q vars.length t g->Q (.exit 0) t [] g):wpL (wp C0 d none cZ) Q t [] g:=by
 simp only[cZ,fG]
 refine bk (m:=vars.length) (by omega) (fun j t df g=>df=[]/\FacJ gr b cv sv oz nd w cs vars pl q j t g) ⟨rfl,h0⟩ h40 h39 (by decide)
  (by rintro j t df g v s (rfl | rfl | rfl) ⟨a1,⟨b1,b2,b3,b4,b5,b6,b7,-⟩,c1⟩<;>exact ⟨a1,by simp[St,l9,sx,b1,b2,b3,b4,b5,b6,b7],c1⟩) ?_ ?_
 ·rintro j t df g hj ⟨rfl,⟨h38,h6,h2,h4,h5,h8,h9,-⟩,u,hp⟩ h40 h39
  obtain ⟨p,hpj,htk,hpm⟩:=am hj
  obtain ⟨hp0,hpc⟩:=hvp p hpm
  obtain ⟨pn,rfl⟩:=Int.eq_ofNat_of_zero_le hp0
  have hpn:pn<cs.length:=by omega
  have hcp:cs[pn]?=some cs[pn]:=List.getElem?_eq_getElem hpn
  have hcb1:=hcb _ (List.getElem_mem hpn)
  generalize cs[pn]=c at hcp hcb1
  have u1:j<(vars.map ci).length:=by simpa using hj
  have u2:(vars.map ci)[j]?=some (ci (pn:Int)):=by rw[List.getElem?_map,hpj];rfl
  have u3:pn<(cs.map ci).length:=by simpa using hpn
  have u4:(cs.map ci)[pn]?=some (ci c):=by rw[List.getElem?_map,hcp];rfl
  have rw_:=hp.hw.rows
  have q3:=hp.q3
  have qn:=hp.qn
  have epc:S.ac cs (vars.take (j+1))=S.ac cs (vars.take j)++[c]:=by rw[htk,ch];simp[S.ac,hcp]
  have hle:(S.ac cs (vars.take j)).length<=16:=by simp[S.ac];omega
  have nq1:¬q=q+1:=by omega
  have nq2:¬q+1=q:=by omega
  refine aO (P:=fun t' df g'=>df=[]/\g'=g/\St t' ((40,.int .i64 (j:Int))::(39,.int .i64 (vars.length:Int))::(10,.int .i64 (j:Int))::(11,.int .i64 (pn:Int))::(38,w)::(6,.int .i64 (pl:Int))::l9 q)) ?_ ?_
  ·simp only[sz,simprocAttr,h38,h40,rw_,u1,u2,ci]
   simp[St,l9,sx,h38,h6,h2,h4,h5,h8,h9,h40,h39]
  clear h38 h6 h2 h4 h5 h8 h9 h40 h39
  rintro t df g1 ⟨rfl,rfl,⟨h40,h39,h10,h11,h38,h6,h2,h4,h5,h8,h9,-⟩⟩
  refine dk (P:=fun t' df g'=>df=[]/\St t' ((40,.int .i64 (j:Int))::(39,.int .i64 (vars.length:Int))::(10,.int .i64 (j:Int))::(11,.int .i64 (pn:Int))::(38,w)::(6,.int .i64 (pl:Int))::l9 q) /\
   ∃u,FacH [.int .i64 gr,b,cv,sv,oz] nd w u vars (S.ac cs (vars.take (j+1))) (S.ae (S.ac cs ((vars.take j).drop (pl+1)))) q g') ?_ ?_
  ·simp only[sz,simprocAttr,sf,h8,h2,h11,hp.h8,hp.h0,rc,u3,u4,ci]
   refine dm (b:=q+2) (rows:=(S.ac cs (vars.take j)).map ci) (new:=[[.int .i64 c]]) (hp.hu.fr (by simp;omega) fun i hi=>?_) (by simp[sx,sy]) (by simp;omega) (by unfold aU;simp;omega) fun u' ga hu' n1 f1 vid1 lg1=>?_
   ·have:=(hp.hu.lt hi).2
    simp[H.get_put];omega
   simp only[sx,sy] at n1 f1 vid1 lg1
   have hq8:ga.h.get q=.cells 3 [[w,u,.nils]] 0 false false:=by
    rw[f1 q (by omega) (fun e=>by have:=(hp.hu.lt e).1;omega),if_neg (by omega),hp.h8]
   simp only[sz,simprocAttr,sf,h8,hq8,hu'.cell.1,hu'.cell.2]
   refine ⟨?_,?_,u',?_⟩
   ·simp only[List.reverse_cons,List.reverse_nil,List.nil_append,List.cons_append]
    refine aN [false,false,false,false,false,false,false,true,true,false,true] [(0,7),(1,7)] (by simp[All2,ak,ay]) (by decide) ?_
    rintro p hp' x y hx hy
    simp only[List.mem_cons,List.not_mem_nil,or_false] at hp'
    rcases hp' with rfl | rfl<;>(simp at hx hy;subst hx;subst hy;refine c_ rfl rfl rfl rfl ?_ ?_ ?_<;>simp[ak,ay,af]<;>omega)
   ·simp[St,l9,sx,h38,h6,h2,h4,h5,h8,h9,h40,h39,h10,h11]
   ·have keep:∀i,i<q+2->i≠q->(ga.h.put q (.cells 3 [[w,u',.nils]] 0 false false)).get i=g1.h.get i:=fun i hi hne=>by
     simp only[H.get_put,if_neg hne]
     rw[f1 i (by omega) (fun e=>by have:=(hp.hu.lt e).1;omega),if_neg (by omega)]
    refine ⟨(keep 0 (by omega) (by omega)).trans hp.h0,(keep 1 (by omega) (by omega)).trans hp.h1,(keep 2 (by omega) (by omega)).trans hp.h2,by simp[H.get_put],(keep (q+1) (by omega) (by omega)).trans hp.h9,hp.hw.fr (by simp;omega) fun i hi=>keep i (by have:=hp.wq i hi;omega) (by have:=hp.wq i hi;omega),?_,hp.wq,q3,by simp;omega⟩
    rw[epc,List.map_append]
    exact hu'.fr (by simp;omega) fun i hi=>by have:=(hu'.lt hi).1;simp[H.get_put,show ¬i=q by omega]
  clear hp qn rw_ h40 h39 h10 h11 h38 h6 h2 h4 h5 h8 h9
  rintro t df g ⟨rfl,⟨h40,h39,h10,h11,h38,h6,h2,h4,h5,h8,h9,-⟩,u,hp⟩
  by_cases hk:pl<j
  ·have hk':(pl:Int)<(j:Int):=by omega
   have ed:S.ae (S.ac cs ((vars.take (j+1)).drop (pl+1)))=S.ae (S.ac cs ((vars.take j).drop (pl+1)))*c:=by
    rw[tH htk hj hk,ch,mE]
    simp[S.ac,hcp,S.ae]
   have hpb:=bu (l:=S.ac cs ((vars.take (j+1)).drop (pl+1))) (a8 hcb fun p hp=>hvp p (List.mem_of_mem_take (List.mem_of_mem_drop hp)))
   have hp4:=cV (a:=(S.ac cs ((vars.take (j+1)).drop (pl+1))).length) (b:=16) (by simp[S.ac];omega)
   have h48:(4:Int) ^ 16=4294967296:=by decide
   have w1:IntKind.wrap .i64 (S.ae (S.ac cs ((vars.take j).drop (pl+1)))*c)=S.ae (S.ac cs ((vars.take (j+1)).drop (pl+1))):=by rw[<-ed,aA (by omega) (by omega)]
   simp only[sz,simprocAttr,sf,h10,h6,hk',h9,hp.h9,h2,hp.h0,h11,rc,u3,u4,ci,w1]
   refine ⟨?_,⟨?_,u,?_⟩,h40,h39⟩
   ·simp only[List.reverse_cons,List.reverse_nil,List.nil_append,List.cons_append]
    exact aN [false,false,false,false,false,false,false,true] [] (by simp[All2,ak,ay]) (by decide) (by simp)
   ·simp[St,l9,sx,h38,h6,h2,h4,h5,h8,h9]
   ·have qn:=hp.qn
    have keep:∀i,i≠q+1->(g.h.put (q+1) (.cells 1 [[.int .i64 (S.ae (S.ac cs ((vars.take (j+1)).drop (pl+1))))]] 0 false false)).get i=g.h.get i:=fun i hne=>by
     simp only[H.get_put,if_neg hne]
    exact ⟨(keep 0 (by omega)).trans hp.h0,(keep 1 (by omega)).trans hp.h1,(keep 2 (by omega)).trans hp.h2,(keep q (by omega)).trans hp.h8,by simp[H.get_put],hp.hw.fr (by simp;omega) fun i hi=>keep i (by have:=hp.wq i hi;omega),hp.hu.fr (by simp;omega) fun i hi=>keep i (by have:=(hp.hu.lt hi).1;omega),hp.wq,q3,by simp;omega⟩
  ·have hk':¬((pl:Int)<(j:Int)):=by omega
   have ed:(vars.take (j+1)).drop (pl+1)=(vars.take j).drop (pl+1):=tU (by omega)
   simp only[sz,simprocAttr,h10,h6,hk']
   refine ⟨⟨by simp[St,l9,sx,h38,h6,h2,h4,h5,h8,h9],u,?_⟩,h40,h39⟩
   rw[ed]
   exact hp
 ·rintro t df g ⟨rfl,h⟩
  exact fin t g h
def GH (h:H)(n:Nat):G:=⟨h,n,[]⟩
@[simp] theorem GH_h (h:H) (n:Nat):(GH h n).h=h:=rfl
@[simp] theorem GH_nx (h:H) (n:Nat):(GH h n).nx=n:=rfl
theorem Own.gh {g:G}{b sz i:Nat}{v:AV}{rows:List (List AV)}(h:Own g b v sz rows)(hv:vid v=some i):Own (GH g.h (i+1)) b v sz rows:=by
 rcases h with h | ⟨id,ep,lo,h1,h2,rfl,h3⟩
 ·exact .inl h
 ·injection hv with hv
  subst hv
  exact .inr ⟨id,ep,lo,h1,by simp,rfl,h3⟩
structure FacG (g0:G) (iw:Nat) (W:AV) (rws:List (List Int)) (B C t:Nat) (h:H):Prop where
 fr:∀i,i<g0.nx->i≠iw->h.get i=g0.h.get i
 ow:Own (GH h (iw+1)) 3 W 1 ((S.aJ rws B C t).map ci)
theorem FacG.up {g0:G}{iw:Nat}{W:AV}{rws:List (List Int)}{B C t:Nat}{h h':H}(hf:FacG g0 iw W rws B C t h)(hv:vid W=some iw)(hi:iw<g0.nx)(hh:∀i,i<g0.nx->h'.get i=h.get i):FacG g0 iw W rws B C t h' :=
 ⟨fun i h1 h2=>by rw[hh i h1,hf.fr i h1 h2],hf.ow.fr (by simp) fun i h=>by rw[hv] at h;injection h with h;subst h;exact hh _ hi⟩
structure FacI (g0 g2:G) (iw:Nat) (W z:AV) (r:List Int) (rws:List (List Int)) (B C q j i:Nat) (t:T) (g:G):Prop where
 st:St t ((78,z)::(12,.int .i64 (j:Int))::l9 q)
 hp:FacG g0 iw W rws B C (j*C+i) g.h
 nx:g2.nx<=g.nx
 fr:∀i,g0.nx<=i->i<g2.nx->g.h.get i=g2.h.get i
theorem Io {d A B C q j iw:Nat}{w u W z:AV}{r:List Int}{rws:List (List Int)}{pa ra:AV}{rd:Option Nat}{Q:QT}{t:T}{g g0 g2:G}(hz:SlR NoP 0 .nil r z)(hr:rws[j]?=some r)(hrl:r.length=C)(hB:0<B)(hA:rws.length=A*B)(hsz:rws.length*C<=1000000)
  (e8:g0.h.get q=.cells 3 [[w,u,W]] 0 false false) (e2:g0.h.get 2=.cells 3 [[.int .i64 (C:Int),pa,ra]] 0 false false) (e9:g0.h.get (q+1)=.cells 1 [[.int .i64 (B:Int)]] 0 false false) (hq:q+1<g0.nx) (hq3:3<=q) (hiw:iw<g0.nx) (hvw:vid W=some iw) (hiq:q+1<iw) (hg2:g0.nx<=g2.nx)
  (h0:FacI g0 g2 iw W z r rws B C q j 0 t g) (h80:tat t 80=.int .i64 0) (h79:tat t 79=.int .i64 (r.length:Int))
  (fin:∀t g,FacI g0 g2 iw W z r rws B C q j r.length t g->Q (.exit 4) t [] g):wpL (wp C0 d rd da) Q t [] g:=by
 simp only[da]
 refine bk (m:=r.length) hz.1 (fun i t df g=>df=[]/\FacI g0 g2 iw W z r rws B C q j i t g) ⟨rfl,h0⟩ h80 h79 (by decide)
  (by rintro j t df g v s (rfl | rfl | rfl) ⟨a1,⟨b1,b2,b3,b4,b5,b6,b7,-⟩,c1,c2,c3⟩<;>exact ⟨a1,by simp[St,l9,sx,b1,b2,b3,b4,b5,b6,b7],c1,c2,c3⟩) ?_ ?_
 ·rintro i t df g hi ⟨rfl,⟨h78,h12,h2,h4,h5,h8,h9,-⟩,hp,hnx,hfr⟩ h80 h79
  obtain ⟨x,hx,-,-⟩:=am hi
  have rz:=fun h=>(hz.tree (h':=h) (Nat.le_refl 0)).ints
  have u1:i<(r.map ci).length:=by simpa using hi
  have u2:(r.map ci)[i]?=some (ci x):=by rw[List.getElem?_map,hx];rfl
  have hj:=(List.getElem?_eq_some_iff.1 hr).1
  have hiC:i<C:=by omega
  have hpl:=yh (A:=A) (b:=B) (card:=C) (i:=j) (x:=i) hB (by omega) hiC
  rw[<-hA] at hpl
  have hst:=Dl (b:=B) (card:=C) (A:=A) (i:=j) (x:=i) hB hA hr hiC hx
  have k8:g.h.get q=.cells 3 [[w,u,W]] 0 false false:=by rw[hp.fr q (by omega) (by omega),e8]
  have k2:g.h.get 2=.cells 3 [[.int .i64 (C:Int),pa,ra]] 0 false false:=by rw[hp.fr 2 (by omega) (by omega),e2]
  have k9:g.h.get (q+1)=.cells 1 [[.int .i64 (B:Int)]] 0 false false:=by rw[hp.fr (q+1) (by omega) (by omega),e9]
  have hwr:=hp.ow.rows
  rw[GH_h] at hwr
  have hjl:j<1000001:=by
   have:rws.length*1<=rws.length*C:=Nat.mul_le_mul_left _ (by omega)
   omega
  have q1:=Ck (x:=j) (y:=B) (by omega) hB
  have q2:=BY (x:=j) (y:=B) hB
  have l1:j / B*C<=S.ay B C j i:=by
   unfold S.ay
   have:(j / B*C+i)*1<=(j / B*C+i)*B:=Nat.mul_le_mul_left _ hB
   omega
  have l2:(j / B*C+i)<=S.ay B C j i:=by
   unfold S.ay
   have:(j / B*C+i)*1<=(j / B*C+i)*B:=Nat.mul_le_mul_left _ hB
   omega
  have l3:(j / B*C+i)*B<=S.ay B C j i:=by unfold S.ay;omega
  have w1:IntKind.wrap .i64 (((j / B:Nat):Int)*(C:Int))=((j / B*C:Nat):Int):=by
   rw[<-Int.natCast_mul,aA (by omega) (by omega)]
  have w2:IntKind.wrap .i64 (((j / B*C:Nat):Int)+(i:Int))=((j / B*C+i:Nat):Int):=by
   rw[aA (by omega) (by omega)];simp
  have w3:IntKind.wrap .i64 (((j / B*C+i:Nat):Int)*(B:Int))=(((j / B*C+i)*B:Nat):Int):=by
   rw[<-Int.natCast_mul,aA (by omega) (by omega)]
  have w4:IntKind.wrap .i64 ((((j / B*C+i)*B:Nat):Int)+((j % B:Nat):Int))=((S.ay B C j i:Nat):Int):=by
   rw[<-Int.natCast_add]
   show IntKind.wrap .i64 ((S.ay B C j i:Nat):Int)=_
   rw[aA (by omega) (by omega)]
  have hfl:=yU rws B C (j*C+i)
  have u3:S.ay B C j i<((S.aJ rws B C (j*C+i)).map ci).length:=by rw[List.length_map,hfl];exact hpl
  have u4:((S.aJ rws B C (j*C+i)).map ci)[S.ay B C j i]?=some (((S.aJ rws B C (j*C+i)).map ci)[S.ay B C j i]):=List.getElem?_eq_getElem u3
  have hone:∃y:Int,((S.aJ rws B C (j*C+i)).map ci)[S.ay B C j i]=ci y:=⟨_,List.getElem_map ..⟩
  obtain ⟨y,hy⟩:=hone
  rw[hy] at u4
  have hge:g0.nx<=g.nx:=by omega
  refine aO (P:=fun t' df g'=>df=[]/\g'=g/\St t' ((80,.int .i64 (i:Int))::(79,.int .i64 (r.length:Int))::(14,.int .i64 (i:Int))::(15,.int .i64 x)::(78,z)::(12,.int .i64 (j:Int))::l9 q)) ?_ ?_
  ·simp only[sz,simprocAttr,h78,h80,rz,u1,u2,ci]
   simp[St,l9,sx,h78,h12,h2,h4,h5,h8,h9,h80,h79]
  clear h78 h12 h2 h4 h5 h8 h9 h80 h79
  rintro t df g1 ⟨rfl,rfl,⟨h80,h79,h14,h15,h78,h12,h2,h4,h5,h8,h9,-⟩⟩
  simp only[sz,simprocAttr,sf,h8,h12,h9,h5,h14,h15,k8,k2,k9,q1,q2,w1,w2,w3,w4,hwr,u3]
  refine bX (v:=W) (sz:=1) (n:=1) (i:=S.ay B C j i) (off:=0) (x:=.int .i64 x) (row':=ci x) ((hp.ow.fr (g':=g1) (by simp;omega) fun i _=>rfl).fr (by simp;omega) fun i _=>by simp) u4 rfl rfl rfl fun g4 hu4 n4 f4=>?_
  rw[<-List.map_set,hst] at hu4
  have f4':∀i,i≠iw->g4.h.get i=g1.h.get i:=fun i hi=>by rw[f4 i (by rw[hvw];intro e;injection e with e;exact hi e.symm)];simp
  have n4':g1.nx<=g4.nx:=by rw[n4];simp;omega
  simp only[sx,sy,↓reduceIte,Nat.reduceEqDiff]
  refine ⟨?_,⟨?_,⟨fun i h1 h2=>?_,?_⟩,?_,fun i h1 h2=>?_⟩,h80,h79⟩
  ·simp only[List.reverse_cons,List.reverse_nil,List.nil_append,List.cons_append]
   exact aN [false,false,false,false,false,false,false,false,false,false,false,false,false,false,false,false,false,false,true] [] (by simp[All2,ak,ay]) (by decide) (by simp)
  ·simp[St,l9,sx,h78,h12,h2,h4,h5,h8,h9]
  ·simp only[bumpG_h]
   rw[f4' i h2,hp.fr i h1 h2]
  ·exact hu4.gh hvw
  ·simp;omega
  ·simp only[bumpG_h]
   rw[f4' i (by omega),hfr i h1 h2]
 ·rintro t df g ⟨rfl,h⟩
  exact fin t g h
theorem Fb {d A B C q iw:Nat}{w u W pa ra pa' ra':AV}{rws:List (List Int)}{Q:QT}{t:T}{g0:G}(hra:SlR NoP 0 .nil rws ra')(hrl:∀r∈rws,r.length=C)(hB:0<B)(hA:rws.length=A*B)(hsz:rws.length*C<=1000000)
  (h75:tat t 75=.clo N.ac [] [.tptr 0 3 [[.int .i64 (C:Int),pa',ra']] 0 0])
  (e8:g0.h.get q=.cells 3 [[w,u,W]] 0 false false) (e2:g0.h.get 2=.cells 3 [[.int .i64 (C:Int),pa,ra]] 0 false false) (e9:g0.h.get (q+1)=.cells 1 [[.int .i64 (B:Int)]] 0 false false) (hq:q+1<g0.nx) (hq3:3<=q) (hiw:iw<g0.nx) (hvw:vid W=some iw) (hiq:q+1<iw)
  (ht:St t (l9 q)) (hW:Own g0 3 W 1 ((List.replicate (rws.length*C) (0:Int)).map ci))
  (fin:∀g',FacG g0 iw W rws B C (rws.length*C) g'.h->g0.nx+2<=g'.nx->g'.h.get g0.nx=.dfr true->Q .norm t [.mark g0.nx] g') :
  wp C0 d none (.rng 105 (.t 75) [76,77] cU cM) Q t [] g0:=by
 obtain ⟨h2,h4,h5,h8,h9,-⟩:=ht
 refine zB (c:=(C:Int)) (pa:=pa') hra h75 (by decide) (by decide) (fun j h=>FacG g0 iw W rws B C (j*C) h) (fun _=>False) ?_ ?_ ?_ ?_ fin ?_
 ·intro j h h' hh hf
  exact hf.up hvw hiw hh
 ·intro h h' _ hf
  exact hf
 ·refine ⟨fun i _ _=>rfl,?_⟩
  rw[Nat.zero_mul,Db]
  exact hW.gh hvw
 ·intro j r z g1 hr hz hf hn
  have hrm:=hrl r (List.mem_of_getElem? hr)
  simp only[sz,simprocAttr,cU]
  intro g2 hg2n hg2
  have hf2:FacG g0 iw W rws B C (j*C) g2.h:=hf.up hvw hiw fun i hi=>hg2 i (by omega)
  simp only[sz,simprocAttr,cM,hz.len]
  refine Io (g2:=g2) (A:=A) (q:=q) (iw:=iw) (w:=w) (u:=u) (W:=W) (z:=z) (r:=r) (rws:=rws) hz hr hrm hB hA hsz e8 e2 e9 hq hq3 hiw hvw hiq (by omega) ⟨by simp[St,l9,sx,h2,h4,h5,h8,h9],by simpa using hf2,Nat.le_refl _,fun _ _ _=>rfl⟩ (by simp[sx]) (by simp[sx]) ?_
  rintro t g ⟨-,hp,hnx,hfr⟩
  simp only[sx,sy,↓reduceIte]
  refine ⟨hnx,hfr,.inl ⟨rfl,?_⟩⟩
  rw[hrm,show j*C+C=(j+1)*C by rw[Nat.add_mul,Nat.one_mul]] at hp
  exact hp
 ·intro g' hf
  exact hf.elim
def S.aO (n:Net)(i:Nat)(x:Node)(p:Nat):Factor:=⟨S.au x.parents p (i:Int),S.ac (S.aa n) (S.au x.parents p (i:Int)),S.bo x.rows (S.ae (S.ac (S.aa n) (x.parents.drop p))).toNat x.card.toNat⟩
def IX (n:Net)(i:Nat)(x:Node):VS:=fun P k h v=>∃p:Nat,p<=x.parents.length/\Agg (S.aO n i x p) P k h v
theorem zZ {ps:List Int}{k:Nat}{v:Int}(hk:k<=ps.length):(S.au ps k v).drop (k+1)=ps.drop k:=by
 have h1:S.au ps k v=(ps.take k++[v])++ps.drop k:=by simp[S.au]
 rw[h1,List.drop_left' (by simp;omega)]
theorem Own.low {g:G}{b b':Nat}{v:AV}{sz:Nat}{rows:List (List AV)}(h:Own g b v sz rows)(hb:b'<=b):Own g b' v sz rows:=by
 rcases h with h | ⟨id,ep,lo,h1,h2⟩
 ·exact .inl h
 ·exact .inr ⟨id,ep,lo,by omega,h2⟩
theorem DU {w:AV}(h:w.cells=[w])(h2:w.isTup=false):dH [.nils,.nils,.nils] [((0,1),w)]=some [w,.nils,.nils]:=by
 simp[dH,h,h2,dP]
 rfl
theorem Cy {d i:Nat}{g:G}{v:AV}{n:Net}{x:Node}{o:List Int}(hd:0<d)(hr:NR n)(hm:Agg ((n,S.aa n,S.an n,o):NwM) NoP 0 g.h v)(hx:n.nodes[i]?=some x) :
  ∃r,au C0 d N.aR [v,.int .i64 (i:Int)] g=.val r/\IX n i x NoP 0 .nil r:=by
 have e0:=gK d hm
 obtain ⟨cs,rfl,hc⟩:=hm
 obtain ⟨b,cv,sv,oz,rfl,hN,hcv,-,-⟩:=sF.1 hc
 have hN:SlR NoP 0 .nil n.nodes b:=hN.tree (h':=.nil) (Nat.le_refl 0)
 have hcv:SlR NoP 0 .nil (S.aa n) cv:=hcv.tree (h':=.nil) (Nat.le_refl 0)
 obtain ⟨rows,r1,r2,r3,r4⟩:=hN.all
 obtain ⟨row,q1,q2⟩:=r3 i x hx
 obtain ⟨pa,ra,rfl,hpa,hra⟩:=bI.1 q2
 have hxm:=List.mem_of_getElem? hx
 have hil:=(List.getElem?_eq_some_iff.1 hx).1
 have hl8:=hr.l2
 have hlt:i<rows.length:=by omega
 have hry:=r4 (by omega)
 have hpl:=ic (hr.places x hxm) (by omega)
 have hpin:=hr.pin hxm
 have r1:∀h',ae h' 3 b=some rows:=r1
 have rc:=fun h=>(hcv.tree (h':=h) (Nat.le_refl 0)).ints
 rw[mF]
 refine bz nM (xs:=[.agg [.int .i64 n.grain,b,cv,sv,oz],.int .i64 (i:Int)]) (by simp only[aE,e0,co 0]) (by simp[eg]) (jk fun o=>dI _) (by decide) hd ?_
 simp only[sz,simprocAttr,eg]
 obtain ⟨g0,hg0⟩:∃g0,g0=(G.empty.new (.cells 5 [[.int .i64 n.grain,b,cv,sv,oz]] 0 false false)).new (.cells 3 [[.nils,.nils,.nils]] 0 false false):=⟨_,rfl⟩
 rw[<-hg0]
 have f0:g0.h.get 0=.cells 5 [[.int .i64 n.grain,b,cv,sv,oz]] 0 false false:=by rw[hg0];simp[sx,H.get_put]
 have f1:g0.h.get 1=.cells 3 [[.nils,.nils,.nils]] 0 false false:=by rw[hg0];simp[sx]
 have f2:g0.nx=2:=by rw[hg0];simp[sx]
 clear hg0
 simp only[gD]
 refine dk (P:=fun t' df g'=>df=[]/\g'.nx=3/\g'.h.get 0=.cells 5 [[.int .i64 n.grain,b,cv,sv,oz]] 0 false false/\g'.h.get 1=.cells 3 [[.nils,.nils,.nils]] 0 false false/\g'.h.get 2=.cells 3 [[.int .i64 x.card,pa,ra]] 0 false false/\St t' [(1,.int .i64 (i:Int)),(2,.hptr 0 0 0 0),(4,.hptr 1 0 0 0),(5,.hptr 2 0 0 0)]) ?_ ?_
 ·simp only[sz,simprocAttr,f0,r1,hlt,q1]
  simp[St,sx,f1,f2]
 rintro t df g1 ⟨rfl,n1,k0,k1,k2,h1,h2,h4,h5,-⟩
 obtain ⟨p,sb,hp,es⟩:=CB (d:=d+1) (g:=g1) (x:=(i:Int)) (Nat.succ_pos d) (hpa.tree (Nat.le_refl 0)) (by omega)
 refine dk (P:=fun t' df g'=>df=[]/\g'=g1/\St t' [(1,.int .i64 (i:Int)),(2,.hptr 0 0 0 0),(4,.hptr 1 0 0 0),(5,.hptr 2 0 0 0),(6,.int .i64 (p:Int))]) ?_ ?_
 ·simp only[sz,simprocAttr,h5,h1,k2,es]
  simp[St,sx,h1,h2,h4,h5]
 clear h1 h2 h4 h5
 rintro t df g2 ⟨rfl,rfl,h1,h2,h4,h5,h6,-⟩
 refine dk (P:=fun t' df g'=>df=[]/\∃w q,w.cells=[w]/\FacH [.int .i64 n.grain,b,cv,sv,oz] [.int .i64 x.card,pa,ra] w .nils (S.au x.parents p (i:Int)) [] 1 q (g'.new (.cells 1 [[.int .i64 1]] 0 false false))/\g'.nx=q+1/\St t' [(2,.hptr 0 0 0 0),(4,.hptr 1 0 0 0),(5,.hptr 2 0 0 0),(6,.int .i64 (p:Int)),(8,.hptr q 0 0 0)]) ?_ ?_
 ·simp only[sz,simprocAttr,h5,k2]
  refine Dx (l:=x.parents) hpa (by omega) fun u ga hu fa=>?_
  simp only[sz,simprocAttr,h6,h1]
  have hun:∀i,vid u=some i->g2.nx<=i/\i<ga.nx:=fun i hi=>by
   rcases hu with ⟨-,rfl⟩ | ⟨id,lo,a1,a2,rfl,-⟩
   ·cases hi
   ·injection hi with hi;subst hi;exact ⟨a1,a2⟩
  have fa1:=fa.1
  obtain ⟨w,g3,e3,hw,n3,f3⟩:=A1 (d:=d+1) (b:=g2.nx) (p:=p) (id2:=ga.nx) (ep2:=0) (x:=(i:Int)) (lim:=none) (hu.fr (Fr.new ga (.cells 1 [[.int .i64 (i:Int)]] 0 false false))) (by omega) hp (by simp[H.get_put];exact ⟨rfl,rfl,rfl⟩) (fun j hj=>by have:=hun j hj;omega) (by simp;omega)
  rw[e3]
  simp only[sz,simprocAttr,DU hw.cell.1 hw.cell.2]
  have n3':ga.nx+1<=g3.nx:=by simpa using n3
  have keep:∀j,j<3->g3.h.get j=g2.h.get j:=fun j hj=>by
   rw[f3 j (by simp;omega) (fun e=>by have:=hun j e;omega),<-fa.2 j (by omega)]
   simp[H.get_put,show ¬j=ga.nx by omega]
  have hwl:∀j,vid w=some j->3<=j/\j<g3.nx:=fun j hj=>by have:=hw.lt hj;omega
  have ne1:∀j,j<g3.nx->¬j=g3.nx/\¬j=g3.nx+1:=fun j hj=>by omega
  refine ⟨w,g3.nx,hw.cell.1,⟨?_,?_,?_,?_,?_,?_,?_,?_,?_,?_⟩,?_,?_⟩
  ·simp[H.get_put,ne1 0 (by omega),keep 0 (by omega),k0,show ¬g3.nx=0 by omega]
  ·simp[H.get_put,ne1 1 (by omega),keep 1 (by omega),k1,show ¬g3.nx=0 by omega]
  ·simp[H.get_put,ne1 2 (by omega),keep 2 (by omega),k2]
  ·simp[H.get_put]
  ·simp[H.get_put]
  ·refine (Own.low hw (b':=3) (by omega)).fr (by simp;omega) fun j hj=>?_
   have:=ne1 j (hwl j hj).2
   simp[H.get_put,this]
  ·exact .inl ⟨rfl,rfl⟩
  ·exact fun j hj=>(hwl j hj).2
  ·omega
  ·simp
  ·simp
  ·simp[St,sx,h2,h4,h5,h6]
 clear h1 h2 h4 h5 h6 es
 rintro t df g3 ⟨rfl,w,q,hwc,hp3,hnq,h2,h4,h5,h6,h8,-⟩
 have hfl:=ph x.parents p (i:Int) hp
 have fa:=hp3.hw.rows
 refine dk (P:=fun t' df g'=>df=[]/\g'=(g3.new (.cells 1 [[.int .i64 0]] 0 false false)).put (q+1) (.cells 1 [[.int .i64 1]] 0 false false)/\St t' ((6,.int .i64 (p:Int))::l9 q)) ?_ ?_
 ·simp only[sz,simprocAttr,hnq]
  simp[St,l9,sx,h2,h4,h5,h6,h8]
 clear h2 h4 h5 h6 h8
 rintro t df g4 ⟨rfl,hg4,h6,h2,h4,h5,h8,h9,-⟩
 have hp4:FacH [.int .i64 n.grain,b,cv,sv,oz] [.int .i64 x.card,pa,ra] w .nils (S.au x.parents p (i:Int)) [] 1 q g4:=by
  have e:∀j,g4.h.get j=(g3.new (.cells 1 [[.int .i64 1]] 0 false false)).h.get j:=fun j=>by
   rw[hg4]
   by_cases hj:j=q+1<;>simp[H.get_put,hnq,hj]
  have en:g4.nx=(g3.new (.cells 1 [[.int .i64 1]] 0 false false)).nx:=by rw[hg4];simp
  exact ⟨by rw[e,hp3.h0],by rw[e,hp3.h1],by rw[e,hp3.h2],by rw[e,hp3.h8],by rw[e,hp3.h9],hp3.hw.fr (by omega) fun j _=>e j,hp3.hu.fr (by omega) fun j _=>e j,hp3.wq,hp3.q3,by rw[en];exact hp3.qn⟩
 clear hg4 hp3
 have hwl:∀g,eO .slice w g=.val (.int .i64 (((S.au x.parents p (i:Int)).length:Nat):Int)):=fun g=>by
  rcases hp4.hw with ⟨-,e⟩ | ⟨id,ep,lo,-,-,rfl,-⟩
  ·have:((S.au x.parents p (i:Int)).map ci).length=0:=by rw[e];rfl
   rw[List.length_map] at this;omega
  ·rw[List.length_map];rfl
 simp only[sz,simprocAttr,h8,hp4.h8,hwl]
 refine Ii (gr:=n.grain) (b:=b) (cv:=cv) (sv:=sv) (oz:=oz) (nd:=[.int .i64 x.card,pa,ra]) (w:=w) (cs:=S.aa n) (vars:=S.au x.parents p (i:Int)) (pl:=p) (q:=q) rc (by omega) ?_ hr.cs (by omega) ⟨by simp[St,l9,sx,h2,h4,h5,h6,h8,h9],.nils,by simpa [S.ac,S.ae] using hp4⟩ (by simp[sx]) (by simp[sx]) ?_
 ·intro y hy
  simp only[S.au,List.mem_append,List.mem_cons] at hy
  rcases hy with hy | rfl | hy
  ·exact hpin y (List.mem_of_mem_take hy)
  ·rw[aI];omega
  ·exact hpin y (List.mem_of_mem_drop hy)
 clear h2 h4 h5 h6 h8 h9 hp4
 rintro t g ⟨⟨h38,h6,h2,h4,h5,h8,h9,-⟩,u,hp5⟩
 rw[List.take_length,zZ hp] at hp5
 have hcx:=hr.card x hxm
 have hd1:∀c∈S.ac (S.aa n) (x.parents.drop p),1<=c/\c<=4:=a8 hr.cs fun p hp=>hpin p (List.mem_of_mem_drop hp)
 have ht1:∀c∈S.ac (S.aa n) (x.parents.take p),1<=c/\c<=4:=a8 hr.cs fun p hp=>hpin p (List.mem_of_mem_take hp)
 have er:(x.rows.length:Int)=S.ae (S.ac (S.aa n) (x.parents.take p))*S.ae (S.ac (S.aa n) (x.parents.drop p)):=by
  rw[hr.rows x hxm]
  conv=>lhs;rw[<-List.take_append_drop p x.parents,ch,mE]
 have hB1:=jq fun c hc=>(hd1 c hc).1
 have hA1:=jq fun c hc=>(ht1 c hc).1
 have hpb:=bu (l:=S.ac (S.aa n) x.parents) (a8 hr.cs hpin)
 have hp4:=cV (a:=(S.ac (S.aa n) x.parents).length) (b:=8) (by simp[S.ac];omega)
 have h48:(4:Int) ^ 8=65536:=by decide
 have hrows:=hr.rows x hxm
 obtain ⟨B,hB⟩:=Int.eq_ofNat_of_zero_le (show 0<=S.ae (S.ac (S.aa n) (x.parents.drop p)) by omega)
 obtain ⟨A,hA⟩:=Int.eq_ofNat_of_zero_le (show 0<=S.ae (S.ac (S.aa n) (x.parents.take p)) by omega)
 obtain ⟨C,hC⟩:=Int.eq_ofNat_of_zero_le (show 0<=x.card by omega)
 have hAB:x.rows.length=A*B:=by
  have:((x.rows.length:Nat):Int)=((A*B:Nat):Int):=by rw[er,Int.natCast_mul,hA,hB]
  omega
 have hsz:x.rows.length*C<=1000000:=by
  have h1:x.rows.length<=65536:=by omega
  have h2:C<=4:=by omega
  have:=Nat.mul_le_mul h1 h2
  omega
 have rl:=fun g=>(hra.tree (h':=g) (Nat.le_refl 0)).len
 have rl:=fun g=>(hra).len g
 have w1:IntKind.wrap .i64 ((x.rows.length:Int)*(C:Int))=((x.rows.length*C:Nat):Int):=by
  rw[<-Int.natCast_mul,aA (by omega) (by omega)]
 rw[hB] at hp5
 simp only[fL,hC] at hp5 ⊢
 obtain ⟨pa',ra',er',hpa',hra'⟩:=tR (d:=d+1) (g:=.empty) (x:=x) (v:=.agg [.int .i64 (C:Int),pa,ra]) (Nat.succ_pos d) ⟨_,rfl,bI.2 ⟨pa,ra,by rw[hC],hpa.tree (Nat.le_refl 0),hra.tree (Nat.le_refl 0)⟩⟩
 have q3:=hp5.q3
 have qn:=hp5.qn
 refine dk (P:=fun t' df g'=>df=[]/\∃W,vid W=some g.nx/\g'.nx=g.nx+1/\(∀i,i<g.nx->i≠q->g'.h.get i=g.h.get i)/\g'.h.get q=.cells 3 [[w,u,W]] 0 false false/\Own g' 3 W 1 ((List.replicate (x.rows.length*C) (0:Int)).map ci)/\St t' (l9 q)) ?_ ?_
 ·simp only[sz,simprocAttr,h5,hp5.h2,rl,w1]
  refine re (b:=3) (n:=x.rows.length*C) (by unfold aU;omega) (by unfold aU;omega) (by omega) fun W g1 hW n1 f1 vW=>?_
  have k8:g1.h.get q=.cells 3 [[w,u,.nils]] 0 false false:=by rw[f1 q (by omega),hp5.h8]
  simp only[sz,simprocAttr,h8,k8,hW.cell.1,hW.cell.2]
  refine ⟨W,vW,by simpa using n1,fun i h1 h2=>?_,by simp[H.get_put],?_,by simp[St,l9,sx,h2,h4,h5,h8,h9]⟩
  ·simp[h2]
   exact f1 i h1
  ·have hW':Own g1 3 W 1 ((List.replicate (x.rows.length*C) (0:Int)).map ci):=by simpa [ci] using hW
   exact hW'.fr (by simp) fun i hi=>by
    have:=eC vW hi
    simp[H.get_put,show ¬i=q by omega]
 clear h38 h6 h2 h4 h5 h8 h9
 rintro t df g1 ⟨rfl,W,vW,n1,f1,k8,hW,h2,h4,h5,h8,h9,-⟩
 have k2:g1.h.get 2=.cells 3 [[.int .i64 (C:Int),pa,ra]] 0 false false:=by rw[f1 2 (by omega) (by omega),hp5.h2]
 have k9:g1.h.get (q+1)=.cells 1 [[.int .i64 (B:Int)]] 0 false false:=by rw[f1 (q+1) (by omega) (by omega),hp5.h9]
 have k1:g1.h.get 1=.cells 3 [[.nils,.nils,.nils]] 0 false false:=by rw[f1 1 (by omega) (by omega),hp5.h1]
 obtain ⟨pa',ra',er',hpa',hra'⟩:=tR (d:=d+1) (g:=g1) (x:=x) (v:=.agg [.int .i64 (C:Int),pa,ra]) (Nat.succ_pos d) ⟨_,rfl,bI.2 ⟨pa,ra,by rw[hC],hpa.tree (Nat.le_refl 0),hra.tree (Nat.le_refl 0)⟩⟩
 rw[hC] at er'
 rw[cN,cN]
 simp only[sz,simprocAttr,h5,k2,er']
 refine Fb (A:=A) (B:=B) (C:=C) (q:=q) (iw:=g.nx) (w:=w) (u:=u) (W:=W) (pa:=pa) (ra:=ra) (pa':=pa') hra' (fun r hrm=>by have:=(hr.row x hxm r hrm).1;omega) (by omega) hAB hsz (by simp[sx]) k8 k2 k9 (by omega) q3 (by omega) vW (by omega) (by simp[St,l9,sx,h2,h4,h5,h8,h9]) hW ?_
 intro g' hf hn hdf
 have k8':g'.h.get q=.cells 3 [[w,u,W]] 0 false false:=by rw[hf.fr q (by omega) (by omega),k8]
 have k1':g'.h.get 1=.cells 3 [[.nils,.nils,.nils]] 0 false false:=by rw[hf.fr 1 (by omega) (by omega),k1]
 simp only[sz,simprocAttr,fE,h8,k8',h4,k1']
 refine rH (by simp[H.get_put,show ¬g1.nx=1 by omega,hdf]) ?_
 simp only[sx,sy,↓reduceIte,Nat.reduceEqDiff,h4]
 rw[if_neg (by omega)]
 simp only[sx,sy,↓reduceIte,Nat.reduceAdd,Nat.reduceLeDiff]
 have lw:=hp5.hw
 have lu:=hp5.hu
 have lW:=hf.ow
 have hne:∀i,i<g1.nx->i≠1->((g'.h.put 1 (.cells 3 [[w,u,W]] 0 false false)).put g1.nx (.dfr false)).get i=g'.h.get i:=fun i h1 h2=>by
  simp[H.get_put,h2,show ¬i=g1.nx by omega]
 have oW:Own (GH ((g'.h.put 1 (.cells 3 [[w,u,W]] 0 false false)).put g1.nx (.dfr false)) (g.nx+1)) 3 W 1 ((S.aJ x.rows B C (x.rows.length*C)).map ci):=lW.fr (by simp) fun i hi=>by
  have:=eC vW hi
  exact hne i (by omega) (by omega)
 have ow:Own (GH ((g'.h.put 1 (.cells 3 [[w,u,W]] 0 false false)).put g1.nx (.dfr false)) (g.nx+1)) 3 w 1 ((S.au x.parents p (i:Int)).map ci):=lw.fr (by simp) fun j hj=>by
  have:=hp5.wq j hj
  have:=(lw.lt hj).1
  show ((g'.h.put 1 (.cells 3 [[w,u,W]] 0 false false)).put g1.nx (.dfr false)).get j=_
  rw[hne j (by omega) (by omega),hf.fr j (by omega) (by omega),f1 j (by omega) (by omega)]
 have ou:Own (GH ((g'.h.put 1 (.cells 3 [[w,u,W]] 0 false false)).put g1.nx (.dfr false)) (g.nx+1)) (q+2) u 1 ((S.ac (S.aa n) (S.au x.parents p (i:Int))).map ci):=lu.fr (by simp) fun j hj=>by
  have:=lu.lt hj
  show ((g'.h.put 1 (.cells 3 [[w,u,W]] 0 false false)).put g1.nx (.dfr false)).get j=_
  rw[hne j (by omega) (by omega),hf.fr j (by omega) (by omega),f1 j (by omega) (by omega)]
 have hfw:(S.aJ x.rows B C (x.rows.length*C))=S.bo x.rows (S.ae (S.ac (S.aa n) (x.parents.drop p))).toNat x.card.toNat:=by
  rw[hB,hC,Int.toNat_natCast,Int.toNat_natCast]
  exact FB (A:=A) (by omega) hAB
 refine ⟨fun _=>True,p,hp,_,rfl,mr.2 ⟨w,u,W,rfl,?_,?_,?_⟩⟩
 ·obtain ⟨_,e1,h⟩:=ow.ints (k:=0) (by omega);injection e1 with e1;subst e1;exact h
 ·obtain ⟨_,e1,h⟩:=ou.ints (k:=0) (by simp[S.ac];omega);injection e1 with e1;subst e1;exact h
 ·rw[hfw] at oW
  obtain ⟨_,e1,h⟩:=oW.ints (k:=0) (by rw[<-hfw,yU];omega);injection e1 with e1;subst e1;exact h
def S.bG (n:Net)(l:List Factor):Prop:=∀(i:Nat) (x:Node),i<l.length->n.nodes[i]?=some x->∃p,p<=x.parents.length/\l[i]?=some (S.aO n i x p)
def IF (n:Net):VS:=fun P k h v=>∃l:List Factor,((S.aw n=true->l.length=n.nodes.length)/\S.bG n l)/\xi (One l) (One (if S.aw n then (0:Int) else 50)) P k h v
structure FasJ (n:Net) (W b cv sv oz:AV) (j:Nat) (t:T) (g:G):Prop where
 st:St t [(4,.hptr 1 0 0 0),(6,W)]
 hg:g.h.get 1=.cells 5 [[.int .i64 n.grain,b,cv,sv,oz]] 0 false false
 hW:∃(rows:List (List AV)) (l:List Factor),Own g 2 W 3 rows/\rows.length=n.nodes.length/\l.length=j/\All2 (Rp.rp NoP 0 .nil) l (rows.take j)/\S.bG n l/\∀i,j<=i->i<n.nodes.length->rows[i]?=some [.nils,.nils,.nils]
theorem GR {d:Nat}{g:G}{v:AV}{n:Net}(hd:0<d)(hm:Agg n NoP 0 g.h v):∃r,au C0 d N.aM [v] g=.val r/\IF n NoP 0 .nil r:=by
 obtain ⟨b,rows,rfl,e1,hm',hN,r1,r2,r3,r4⟩:=eS d hm
 rw[sB]
 refine bz uC (xs:=[.agg [.int .i64 n.grain,b]]) (by simp only[aE,e1]) (by simp[lZ]) (jk fun o=>jH (m:=2) (bo _) (bo _) (by decide) (by decide)) (by decide) hd ?_
 simp only[sz,simprocAttr,lZ,nE]
 obtain ⟨z,ez,hz⟩:=B2 (d:=d+1) (g:=G.empty.new (.cells 2 [[.int .i64 n.grain,b]] 0 false false)) (Nat.succ_pos d) (n:=n) (v:=.agg [.int .i64 n.grain,b]) (hm' _)
 rcases sE hz with ⟨hn,cs,rfl,hcs⟩ | ⟨hn,b',cv,sv,oz,o,rfl,hb,hcv,hsv,hoz⟩
 ·obtain ⟨a1,a2,a3,a4,a5,rfl⟩:∃a1 a2 a3 a4 a5,cs=[a1,a2,a3,a4,a5]:=by
   match cs,hcs with
   | [a1,a2,a3,a4,a5],_=>exact ⟨a1,a2,a3,a4,a5,rfl⟩
  simp only[sz,simprocAttr,ez,show ¬((50:Int)=0) from by decide]
  refine ⟨NoP,[],⟨fun h=>(by rw[hn] at h;cases h),fun i x hi=>(by simp at hi)⟩,_,_,rfl,⟨_,rfl,⟨by show 0<9223372036854775808;decide,rfl⟩⟩,?_⟩
  rw[hn];exact a_.2 rfl
 ·have hr:=fw.1 hn
  have hl8:=hr.l2
  simp only[sz,simprocAttr,ez,hb.len]
  refine re (b:=2) (n:=n.nodes.length) (by unfold aU;omega) (by unfold aU;omega) (by simp) fun W g1 hW n1 f1 vW=>?_
  have k1:g1.h.get 1=.cells 5 [[.int .i64 n.grain,b',cv,sv,oz]] 0 false false:=by rw[f1 1 (by simp)];simp[H.get_put]
  have hWl:∀(g:G) (rows:List (List AV)),rows.length=n.nodes.length->Own g 2 W 3 rows->eO .slice W g=.val (.int .i64 (n.nodes.length:Int)):=fun g rows h1 h=>by
   rcases h with ⟨rfl,e⟩ | ⟨id,ep,lo,-,-,rfl,-⟩
   ·cases vW
   ·rw[h1];rfl
  have hlW:=hWl g1 _ (by simp) hW
  have hryW:iB W=true:=by
   rcases hW with ⟨rfl,e⟩ | ⟨id,ep,lo,-,-,rfl,-⟩
   ·cases vW
   ·rfl
  simp only[sz,simprocAttr,hlW]
  simp only[mP]
  refine bk (m:=n.nodes.length) (by omega) (fun j t df g=>df=[]/\FasJ n W b' cv sv oz j t g) ⟨rfl,by simp[St,sx],k1,_,[],hW,by simp,rfl,trivial,fun i x hi=>(by simp at hi),fun i _ hi=>by simp[hi]⟩ (by simp[sx]) (by simp[sx]) (by decide)
   (by rintro j t df g v s (rfl | rfl | rfl) ⟨a1,⟨b1,b2,-⟩,c1,c2⟩<;>exact ⟨a1,by simp[St,sx,b1,b2],c1,c2⟩) ?_ ?_
  ·rintro j t df g hj ⟨rfl,⟨h4,h6,-⟩,hg,rows',l,hW,hrl,hll,hal,hfs,hnil⟩ h23 h22
   obtain ⟨x,hx,-,-⟩:=am hj
   have hm5:Agg ((n,S.aa n,S.an n,o):NwM) NoP 0 g.h (.agg [.int .i64 n.grain,b',cv,sv,oz]):=⟨_,rfl,sF.2 ⟨b',cv,sv,oz,rfl,hb.tree (Nat.le_refl 0),hcv.tree (Nat.le_refl 0),hsv.tree (Nat.le_refl 0),hoz.tree (Nat.le_refl 0)⟩⟩
   obtain ⟨f,ef,p,hp,cs,rfl,hcs⟩:=Cy (d:=d+1) (g:=g) (i:=j) (Nat.succ_pos d) hr hm5 hx
   obtain ⟨a1,a2,a3,rfl,ha1,ha2,ha3⟩:=mr.1 hcs
   have hrj:=hnil j (Nat.le_refl _) hj
   have hWr:=hW.rows
   have hjr:j<rows'.length:=by omega
   simp only[sz,simprocAttr,h23,h6,h4,hg,ef,hWr,hjr]
   refine bX (v:=W) (sz:=3) (n:=3) (i:=j) (off:=0) (x:=.agg [a1,a2,a3]) (row':=[a1,a2,a3]) hW hrj (by rfl) rfl ?_ fun g4 hW4 n4 f4=>?_
   ·rfl
   have htk:(rows'.set j [a1,a2,a3]).take (j+1)=rows'.take j++[[a1,a2,a3]]:=by
    rw[List.take_add_one,List.take_set_of_le (Nat.le_refl _),List.getElem?_set_self hjr]
    rfl
   simp only[sx,sy,↓reduceIte,Nat.reduceEqDiff]
   refine ⟨⟨by simp[St,sx,h4,h6],?_,_,l++[S.aO n j x p],hW4,by simpa using hrl,by simp[hll],?_,?_,fun i h1 h2=>by rw[List.getElem?_set_ne (by omega),hnil i (by omega) h2]⟩,h23,h22⟩
   ·rw[f4 1 fun e=>by have:=(hW.lt e).1;omega,hg]
   ·rw[htk]
    exact hal.append ⟨mr.2 ⟨a1,a2,a3,rfl,ha1,ha2,ha3⟩,trivial⟩
   ·intro i y hi hy
    by_cases hij:i<l.length
    ·rw[List.getElem?_append_left hij]
     exact hfs i y hij hy
    ·have hi:i=j:=by simp at hi;omega
     subst hi
     rw[hx] at hy
     injection hy with hy
     subst hy
     exact ⟨p,hp,by rw[List.getElem?_append_right (by omega),hll];simp⟩
  ·rintro t df g ⟨rfl,⟨h4,h6,-⟩,hg,rows',l,hW,hrl,hll,hal,hfs,hnil⟩
   rw[List.take_of_length_le (by omega)] at hal
   simp only[sz,simprocAttr,mM,h6]
   refine ⟨fun _=>True,l,⟨fun _=>hll,hfs⟩,_,_,rfl,⟨W,rfl,Own.sl (α:=Factor) hW (by omega) (hal.mono fun a b r=>Rp.tree r (Nat.le_refl 0)) fun _ _=>trivial⟩,?_⟩
   rw[hn];exact a_.2 rfl
end
end Hx
end
section
namespace Hx
open Go
abbrev QnM:Type:=Net×List Factor×List (List Int)
theorem rh {P:Nat->Prop}{k:Nat}{h:H}{x:QnM}{cs:List AV}:Rp.rp P k h x cs↔∃a b c,cs=[.int .i64 x.1.grain,a,b,c]/\SlR P k h x.1.nodes a/\SlR P k h x.2.1 b/\SlR P k h x.2.2 c:=by
 constructor
 ·rintro ⟨c1,c2,rfl,h1,c3,c4,rfl,⟨b,rfl,hb⟩,⟨c,rfl,hc⟩⟩
  obtain ⟨a,rfl,ha⟩:=d5.1 h1
  exact ⟨a,b,c,rfl,ha,hb,hc⟩
 ·rintro ⟨a,b,c,rfl,ha,hb,hc⟩
  exact ⟨[_,a],[b,c],rfl,d5.2 ⟨a,rfl,ha⟩,[b],[c],rfl,⟨b,rfl,hb⟩,⟨c,rfl,hc⟩⟩
theorem Eu {n:Net}(h:NR n){k:Nat}{x:Node}(hx:n.nodes[k]?=some x):(k:Int) ∉ x.parents:=fun hm=>by
 have hk:=(List.getElem?_eq_some_iff.1 hx).1
 have hl:=h.l2
 have h1:=qT.1 h.acyc k (by simp[S.an];exact hk)
 have h2:Par (S.an n) k=S.ap x.parents:=by simp[Par,S.an,hx]
 have h3:(S.ap x.parents).testBit k=true:=(xQ fun y hy=>by have:=cW (h.places x (List.mem_of_getElem? hx)) y hy;omega).2 hm
 have h4:=tE (p:=S.an n) (s:=Par (S.an n) k) (S.an n).length k (by rw[h2];exact h3)
 rw[h1] at h4;cases h4
theorem De {l:List Int}{k:Int}(h:S.aT l k=true):l.Nodup:=by
 rw[List.Nodup,List.pairwise_iff_getElem]
 intro i j hi hj hij e
 have:=CF h (List.getElem?_eq_getElem hi) (List.getElem?_eq_getElem hj) hij
 omega
theorem F0 {n:Net}(h:NR n){k:Nat}{x:Node}(hx:n.nodes[k]?=some x)(p:Nat):(S.au x.parents p (k:Int)).Nodup:=by
 unfold S.au
 rw[List.perm_middle.nodup_iff,List.take_append_drop,List.nodup_cons]
 exact ⟨Eu h hx,De (h.places x (List.mem_of_getElem? hx))⟩
theorem tN {n:Net}(h:NR n){k:Nat}{x:Node}(hx:n.nodes[k]?=some x)(p:Nat):∀y∈S.au x.parents p (k:Int),0<=y/\y<n.nodes.length:=fun y hy=>by
 have hk:=(List.getElem?_eq_some_iff.1 hx).1
 have hp:=cW (h.places x (List.mem_of_getElem? hx))
 simp only[S.au,List.mem_append,List.mem_cons] at hy
 rcases hy with hy | rfl | hy
 ·exact hp y (List.mem_of_mem_take hy)
 ·omega
 ·exact hp y (List.mem_of_mem_drop hy)
theorem jS (cs ps:List Int):(S.ac cs ps).length=ps.length:=by simp[S.ac]
theorem CL {n:Net}(h:NR n){k:Nat}{x:Node}(hx:n.nodes[k]?=some x)(p:Nat):∀c∈(S.aO n k x p).cards,1<=c/\c<=4 :=
 a8 h.cs fun y hy=>by rw[aI];exact tN h hx p y hy
def S.bu (m:Nat)(f:Factor)(i:Nat)(R:List Int):Prop:=R.length=m/\∀(j:Nat) (y:Int),i<=j->f.vars[j]?=some y->R[y.toNat]?=some (S.ae (f.cards.drop (j+1)))
theorem AB {m i:Nat}{f:Factor}{R:List Int}{y:Int}(h:S.bu m f (i+1) R)(hnd:f.vars.Nodup)(hin:∀y∈f.vars,0<=y/\y<m)(hy:f.vars[i]?=some y):S.bu m f i (R.set y.toNat (S.ae (f.cards.drop (i+1)))):=by
 refine ⟨by simp[h.1],fun j z hij hz=>?_⟩
 have hyi:=hin y (List.mem_of_getElem? hy)
 have hzi:=hin z (List.mem_of_getElem? hz)
 by_cases e:j=i
 ·subst e
  rw[hy] at hz;injection hz with hz;subst hz
  rw[List.getElem?_set_self (by rw[h.1];omega)]
 ·rw[List.getElem?_set_ne]
  ·exact h.2 j z (by omega) hz
  ·intro e2
   have e3:y=z:=by omega
   subst e3
   exact e ((List.getElem?_inj (List.getElem?_eq_some_iff.1 hz).1 hnd).1 (by rw[hz,hy]))
structure QnOk (n:Net) (y:QnM):Prop where
 net:y.1=n
 fl:y.2.1.length=n.nodes.length
 fs:S.bG n y.2.1
 sl:y.2.2.length=n.nodes.length
 st:∀(k:Nat) (f:Factor) (R:List Int),y.2.1[k]?=some f->y.2.2[k]?=some R->S.bu n.nodes.length f 0 R
def S.aW (n:Net)(ls:List (List Int)):Int:=if S.aw n then (if ls.all (S.bf n) then 0 else 2) else 50
def GP (n:Net)(ls:List (List Int)):VS:=fun P k h v=>∃y:QnM,(S.aW n ls=0->QnOk n y)/\xi (Agg y) (One (S.aW n ls)) P k h v
end Hx
end
section
namespace Hx
open Go
noncomputable section
def za (fl:AV)(m q k:Nat):List (Nat×AV):=[(11,.hptr q 0 0 0),(2,.hptr 0 0 0 0),(4,.hptr 1 0 0 0),(45,fl),(46,.int .i64 (m:Int)),(47,.int .i64 (k:Int))]
structure AskI (fl:AV) (m q k:Nat) (g0:G) (iR:Nat) (R:AV) (f:Factor) (fb j:Nat) (t:T) (g:G):Prop where
 st:St t ((13,.hptr fb 0 0 0)::(12,.int .i64 (k:Int))::(14,.int .i64 (S.ae (f.cards.drop j)))::za fl m q k)
 nx:g0.nx<=g.nx
 fr:∀i,i<g0.nx->i≠iR->g.h.get i=g0.h.get i
 ow:∃X:List Int,Own g 2 R 1 (X.map ci)/\S.bu m f j X
theorem HY {d m q k fb iR:Nat}{gr:Int}{va ca wa S_ R b fl fl':AV}{f:Factor}{rowsS:List (List AV)}{Q:QT}{t:T}{g g0:G}(hva:SlR NoP 0 .nil f.vars va)(hca:SlR NoP 0 .nil f.cards ca)(hcl:f.cards.length=f.vars.length)(hvl:f.vars.length<=16)(hcb:∀c∈f.cards,1<=c/\c<=4)(hnd:f.vars.Nodup)(hin:∀y∈f.vars,0<=y/\y<m)
  (e11:g0.h.get q=.cells 4 [[.int .i64 gr,b,fl',S_]] 0 false false) (e13:g0.h.get fb=.cells 3 [[va,ca,wa]] 0 false false) (hS:Own g0 2 S_ 1 rowsS) (hk:rowsS[k]?=some [R]) (vR:vid R=some iR) (vS:vid S_≠some iR) (n1:q≠iR/\fb≠iR) (n2:q<g0.nx/\fb<g0.nx/\iR<g0.nx)
  (h0:AskI fl m q k g0 iR R f fb f.vars.length t g) (h15:tat t 15=.int .i64 ((f.vars.length:Int) - 1))
  (fin:∀t g,AskI fl m q k g0 iR R f fb 0 t g->Q (.exit 4) t [] g):wpL (wp C0 d none jX) Q t [] g:=by
 have rva:=fun h=>(hva.tree (h':=h) (Nat.le_refl 0)).ints
 have rca:=fun h=>(hca.tree (h':=h) (Nat.le_refl 0)).ints
 simp only[jX]
 refine tS (m:=f.vars.length) (by omega) (fun j t df g=>df=[]/\AskI fl m q k g0 iR R f fb j t g) ⟨rfl,h0⟩ h15 (by decide)
  (by rintro j t df g v s (rfl | rfl | rfl | rfl | rfl) ⟨a1,⟨b1,b2,b3,b4,b5,b6,b7,b8,b9,-⟩,c1,c2,c3⟩<;>exact ⟨a1,by simp[St,za,sx,b1,b2,b3,b4,b5,b6,b7,b8,b9],c1,c2,c3⟩) ?_ ?_
 ·rintro j t df g hj ⟨rfl,⟨h13,h12,h14,h11,h2,h4,h45,h46,h47,-⟩,hnx,hfr,X,hX,hst⟩ h15
  obtain ⟨y,hy,-,hym⟩:=am hj
  obtain ⟨hy0,hym⟩:=hin y hym
  obtain ⟨yn,rfl⟩:=Int.eq_ofNat_of_zero_le hy0
  have hcj:f.cards[j]?=some f.cards[j]:=List.getElem?_eq_getElem (by omega)
  have hcb1:=hcb _ (List.getElem_mem (show j<f.cards.length by omega))
  have hdr:f.cards.drop j=f.cards[j]::f.cards.drop (j+1):=List.drop_eq_getElem_cons (by omega)
  generalize f.cards[j]=c at hcj hcb1 hdr
  have u1:j<(f.vars.map ci).length:=by simpa using hj
  have u2:(f.vars.map ci)[j]?=some (ci (yn:Int)):=by rw[List.getElem?_map,hy];rfl
  have u3:j<(f.cards.map ci).length:=by simp;omega
  have u4:(f.cards.map ci)[j]?=some (ci c):=by rw[List.getElem?_map,hcj];rfl
  have hXl:=hst.1
  have hylt:yn<X.length:=by omega
  have u5:yn<(X.map ci).length:=by simpa using hylt
  have u6:(X.map ci)[yn]?=some (ci X[yn]):=by rw[List.getElem?_map,List.getElem?_eq_getElem hylt];rfl
  have k11:g.h.get q=.cells 4 [[.int .i64 gr,b,fl',S_]] 0 false false:=by rw[hfr q n2.1 n1.1,e11]
  have k13:g.h.get fb=.cells 3 [[va,ca,wa]] 0 false false:=by rw[hfr fb n2.2.1 n1.2,e13]
  have hS':Own g 2 S_ 1 rowsS:=hS.fr hnx fun i hi=>hfr i (hS.lt hi).2 fun e=>vS (by rw[hi,e])
  have rS:=hS'.rows
  have rX:=hX.rows
  have kl:k<rowsS.length:=(List.getElem?_eq_some_iff.1 hk).1
  have w0:S.ae (f.cards.drop j)=S.ae (f.cards.drop (j+1))*c:=by rw[hdr,bZ,Int.mul_comm]
  have hpb:=bu (l:=f.cards.drop j) fun c hc=>hcb c (List.mem_of_mem_drop hc)
  have hp4:=cV (a:=(f.cards.drop j).length) (b:=16) (by simp;omega)
  have h48:(4:Int) ^ 16=4294967296:=by decide
  have w1:IntKind.wrap .i64 (S.ae (f.cards.drop (j+1))*c)=S.ae (f.cards.drop j):=by rw[<-w0,aA (by omega) (by omega)]
  have hst':=AB hst hnd hin hy
  rw[Int.toNat_natCast] at hst'
  simp only[sz,simprocAttr,sf,h11,h12,h13,h14,h15,k11,k13,rva,u1,u2,rS,kl,hk,rX,u5,ci]
  refine bX (v:=R) (sz:=1) (n:=1) (i:=yn) (off:=0) (x:=.int .i64 (S.ae (f.cards.drop (j+1)))) (row':=ci (S.ae (f.cards.drop (j+1)))) (hX.fr (by simp;omega) fun i _=>by simp) u6 rfl rfl rfl fun g4 hu4 n4 f4=>?_
  rw[<-List.map_set] at hu4
  have f4':∀i,i≠iR->g4.h.get i=g.h.get i:=fun i hi=>by rw[f4 i (by rw[vR];intro e;injection e with e;exact hi e.symm)];simp
  have n4':g.nx<=g4.nx:=by rw[n4];simp;omega
  simp only[sz,simprocAttr]
  refine ⟨?_,?_⟩
  ·simp only[List.reverse_cons,List.reverse_nil,List.nil_append,List.cons_append]
   exact aN [false,false,false,false,false,false,false,false,false,false,false,false,true] [] (by simp[All2,ak,ay]) (by decide) (by simp)
  have k13':g4.h.get fb=.cells 3 [[va,ca,wa]] 0 false false:=by rw[f4' fb n1.2,k13]
  simp only[sz,simprocAttr,h13,h14,h15,k13',rca,u3,u4,ci,w1]
  refine ⟨by simp[St,za,sx,h13,h12,h11,h2,h4,h45,h46,h47],?_,fun i h1 h2=>?_,_,hu4.fr (by simp) fun i _=>by simp,hst'⟩
  ·simp;omega
  ·simp only[bumpG_h]
   rw[f4' i h2,hfr i h1 h2]
 ·rintro t df g ⟨rfl,h⟩
  exact fin t g h
structure FOk (m:Nat) (f:Factor):Prop where
 cl:f.cards.length=f.vars.length
 vl:f.vars.length<=16
 cb:∀c∈f.cards,1<=c/\c<=4
 nd:f.vars.Nodup
 vr:∀y∈f.vars,0<=y/\y<m
theorem EV {n:Net}(h:NR n){k:Nat}{x:Node}(hx:n.nodes[k]?=some x){p:Nat}(hp:p<=x.parents.length):FOk n.nodes.length (S.aO n k x p):=by
 have h1:=ic (h.places x (List.mem_of_getElem? hx)) (by omega)
 have h2:=h.l2
 have h3:=ph x.parents p (k:Int) hp
 exact ⟨jS _ _,by show (S.au x.parents p (k:Int)).length<=16;omega,CL h hx p,F0 h hx p,tN h hx p⟩
structure AskH (gr:Int) (b fl S_:AV) (m q:Nat) (fs:List Factor) (k:Nat) (g:G):Prop where
 h0:g.h.get 0=.cells 2 [[.int .i64 gr,b]] 0 false false
 h1:g.h.get 1=.cells 4 [[.int .i64 0,.nils,.nils,.nils]] 0 false false
 hq:g.h.get q=.cells 4 [[.int .i64 gr,b,fl,S_]] 0 false false
 q2:2<=q/\q<g.nx
 sq:∀i,vid S_=some i->i<q
 hS:∃(Vs:List AV) (l:List (List Int)),Own g 2 S_ 1 (Vs.map fun v=>[v])/\Vs.length=m/\l.length=k/\All2 (fun X v=>Own g (q+1) v 1 (X.map ci)) l (Vs.take k)/\∀(i:Nat) (f:Factor) (X:List Int),fs[i]?=some f->l[i]?=some X->S.bu m f 0 X
structure AskJ (gr:Int) (b fl S_:AV) (m q:Nat) (fs:List Factor) (k:Nat) (t:T) (g:G):Prop where
 st:St t [(11,.hptr q 0 0 0),(2,.hptr 0 0 0 0),(4,.hptr 1 0 0 0),(45,fl)]
 hp:AskH gr b fl S_ m q fs k g
theorem It {d m q:Nat}{gr:Int}{b fl S_:AV}{fs:List Factor}{Q:QT}{t:T}{g:G}(hb:∀g,eO .slice b g=.val (.int .i64 (m:Int)))(hm:m<=8)(hfl:SlR NoP 0 .nil fs fl)(hfm:fs.length=m)(hok:∀(i:Nat) (f:Factor),fs[i]?=some f->FOk m f)
  (h0:AskJ gr b fl S_ m q fs 0 t g) (h47:tat t 47=.int .i64 0) (h46:tat t 46=.int .i64 (m:Int))
  (fin:∀t g,AskJ gr b fl S_ m q fs m t g->Q (.exit 2) t [] g):wpL (wp C0 d none jL) Q t [] g:=by
 obtain ⟨rows,r1,r2,r3,r4⟩:=hfl.all
 have r1:∀h',ae h' 3 fl=some rows:=r1
 simp only[jL,o7]
 refine bk (m:=m) (by omega) (fun k t df g=>df=[]/\AskJ gr b fl S_ m q fs k t g) ⟨rfl,h0⟩ h47 h46 (by decide)
  (by rintro j t df g v s (rfl | rfl | rfl) ⟨a1,⟨b1,b2,b3,b4,-⟩,c1⟩<;>exact ⟨a1,by simp[St,sx,b1,b2,b3,b4],c1⟩) ?_ ?_
 ·rintro k t df g hk ⟨rfl,⟨h11,h2,h4,h45,-⟩,hp⟩ h47 h46
  obtain ⟨f,hf,-,-⟩:=am (l:=fs) (j:=k) (by omega)
  obtain ⟨row,q1,q2⟩:=r3 k f hf
  obtain ⟨va,ca,wa,rfl,hva,hca,hwa⟩:=mr.1 q2
  have hF:=hok k f hf
  have hlt:k<rows.length:=by omega
  have hry:=r4 (by omega)
  obtain ⟨Vs,l,hS,hVl,hll,hal,hst⟩:=hp.hS
  obtain ⟨q2a,q2b⟩:=hp.q2
  have ne0:∀i,i<g.nx->¬i=g.nx:=fun i hi=>by omega
  refine aO (P:=fun t' df g'=>df=[]/\g'=(g.new (.cells 3 [[.nils,.nils,.nils]] 0 false false)).put g.nx (.cells 3 [[va,ca,wa]] 0 false false)/\St t' ((13,.hptr g.nx 0 0 0)::(12,.int .i64 (k:Int))::za fl m q k)) ?_ ?_
  ·simp only[sz,simprocAttr,h45,h47,r1,hlt,q1]
   simp[St,za,sx,h11,h2,h4,h45,h47,h46]
  clear h11 h2 h4 h45 h47 h46
  rintro t df g1 ⟨rfl,hg1,⟨h13,h12,h11,h2,h4,h45,h46,h47,-⟩⟩
  have f1:∀i,i<g.nx->g1.h.get i=g.h.get i:=fun i hi=>by rw[hg1];simp[H.get_put,ne0 i hi]
  have n1:g1.nx=g.nx+1:=by rw[hg1];simp
  have k1:g1.h.get g.nx=.cells 3 [[va,ca,wa]] 0 false false:=by rw[hg1];simp[H.get_put]
  clear hg1
  have e0:g1.h.get 0=.cells 2 [[.int .i64 gr,b]] 0 false false:=by rw[f1 0 (by omega),hp.h0]
  have eq:g1.h.get q=.cells 4 [[.int .i64 gr,b,fl,S_]] 0 false false:=by rw[f1 q (by omega),hp.hq]
  have hS1:Own g1 2 S_ 1 (Vs.map fun v=>[v]):=hS.fr (by omega) fun i hi=>f1 i (hS.lt hi).2
  have rS:=hS1.rows
  have hkV:k<(Vs.map fun v=>[v]).length:=by simp;omega
  have hgV:(Vs.map fun v=>[v])[k]?=some [Vs[k]'(by omega)]:=by rw[List.getElem?_map,List.getElem?_eq_getElem (by omega)];rfl
  refine dk (P:=fun t' df g'=>df=[]/\St t' ((13,.hptr g.nx 0 0 0)::(12,.int .i64 (k:Int))::za fl m q k)/\g1.nx<g'.nx/\∃R iR,vid R=some iR/\g1.nx<=iR/\iR<g'.nx/\Own g' 2 S_ 1 ((Vs.set k R).map fun v=>[v])/\Own g' (q+1) R 1 ((List.replicate m (0:Int)).map ci)/\∀i,i<g1.nx->vid S_≠some i->g'.h.get i=g1.h.get i) ?_ ?_
  ·simp only[sz,simprocAttr,sf,h11,h2,h12,e0,eq,hb]
   refine ks (b:=q+1) (n:=m) (by unfold aU;omega) (by unfold aU;omega) (by simp;omega) fun R g2 hR n2 f2 vR lg2=>?_
   simp only[sy] at n2 f2 vR lg2
   have hS2:Own g2 2 S_ 1 (Vs.map fun v=>[v]):=hS1.fr (by omega) fun i hi=>by
    have:=hS1.lt hi
    rw[f2 i (by omega)]
   have rS2:=hS2.rows
   simp only[sz,simprocAttr,sf,rS2,hkV]
   refine bX (v:=S_) (sz:=1) (n:=1) (i:=k) (off:=0) (x:=R) (row':=[R]) (hS2.fr (by simp;omega) fun i _=>by simp) hgV (by rw[hR.cell.1];rfl) hR.cell.2 (by rw[hR.cell.1];rfl) fun g4 hu4 n4 f4=>?_
   rw[show (Vs.map fun v=>[v]).set k [R]=(Vs.set k R).map fun v=>[v] from by rw[List.map_set]] at hu4
   have f4':∀i,vid S_≠some i->g4.h.get i=g2.h.get i:=fun i hi=>by rw[f4 i hi];simp
   have n4':g2.nx<=g4.nx:=by rw[n4];simp;omega
   simp only[sy,lg2]
   refine ⟨?_,?_,?_,R,g1.nx+6,vR,by omega,?_,?_,?_,fun i h1 h2=>?_⟩
   ·simp only[List.reverse_cons,List.reverse_nil,List.nil_append,List.cons_append]
    refine aN [false,false,false,false,false,false,true,false,true] [(0,6),(1,6),(2,6)] (by simp[All2,ak,ay]) (by decide) ?_
    rintro p hp' x y hx hy
    simp only[List.mem_cons,List.not_mem_nil,or_false] at hp'
    rcases hp' with rfl | rfl | rfl<;>(simp at hx hy;subst hx;subst hy;refine c_ rfl rfl rfl rfl ?_ ?_ ?_<;>simp[ak,ay,af]<;>omega)
   ·simp[St,za,sx,h13,h12,h11,h2,h4,h45,h46,h47]
   ·omega
   ·omega
   ·exact hu4.fr (by simp) fun i _=>by simp
   ·have hR':Own g2 (q+1) R 1 ((List.replicate m (0:Int)).map ci):=by simpa [ci] using hR
    refine hR'.fr (by simp;omega) fun i hi=>?_
    have:=eC vR hi
    simp only[bumpG_h]
    exact f4' i fun e=>by have:=hS1.lt e;omega
   ·rw[f4' i h2,f2 i (by omega)]
  clear h13 h12 h11 h2 h4 h45 h46 h47
  rintro t df g2 ⟨rfl,⟨h13,h12,h11,h2,h4,h45,h46,h47,-⟩,n2,R,iR,vR,hiR,hiR2,hS2,hR,f2⟩
  have e13:g2.h.get g.nx=.cells 3 [[va,ca,wa]] 0 false false:=by rw[f2 g.nx (by omega) (fun e=>by have:=hp.sq _ e;omega),k1]
  have e11:g2.h.get q=.cells 4 [[.int .i64 gr,b,fl,S_]] 0 false false:=by rw[f2 q (by omega) (fun e=>by have:=hp.sq _ e;omega),eq]
  have lva:=hva.len
  have hvl:=hF.vl
  have hR2:Own g2 2 R 1 ((List.replicate m (0:Int)).map ci):=Own.low hR (by omega)
  have w1:IntKind.wrap .i64 ((f.vars.length:Int) - 1)=(f.vars.length:Int) - 1:=aA (by omega) (by omega)
  have hgV2:((Vs.set k R).map fun v=>[v])[k]?=some [R]:=by rw[List.getElem?_map,List.getElem?_set_self (by omega)];rfl
  simp only[sz,simprocAttr,h13,e13,lva,w1]
  refine HY (g0:=g2) (fl:=fl) (fl':=fl) (m:=m) (q:=q) (k:=k) (fb:=g.nx) (iR:=iR) (R:=R) (S_:=S_) (b:=b) (gr:=gr) (va:=va) (ca:=ca) (wa:=wa) (f:=f) (rowsS:=(Vs.set k R).map fun v=>[v]) hva hca hF.cl hF.vl hF.cb hF.nd hF.vr e11 e13 hS2 hgV2 vR (fun e=>by have:=hp.sq _ e;omega) ⟨by omega,by omega⟩ ⟨by omega,by omega,by omega⟩
   ⟨by simp[St,za,sx,h13,h12,h11,h2,h4,h45,h46,h47,S.ae,List.drop_of_length_le (show f.cards.length<=f.vars.length by rw[hF.cl];exact Nat.le_refl _)],Nat.le_refl _,fun _ _ _=>rfl,List.replicate m 0,hR2,by simp,fun j y hj hy=>?_⟩ (by simp[sx]) ?_
  ·have:=(List.getElem?_eq_some_iff.1 hy).1
   omega
  clear h13 h12 h11 h2 h4 h45 h46 h47
  rintro t g3 ⟨⟨h13,h12,h14,h11,h2,h4,h45,h46,h47,-⟩,n3,f3,X,hX,hXo⟩
  simp only[sx,sy,↓reduceIte]
  have hfin:∀i,i<g.nx->vid S_≠some i->g3.h.get i=g.h.get i:=fun i h1 h2=>by
   rw[f3 i (by omega) (by omega),f2 i (by omega) h2,f1 i h1]
  refine ⟨⟨by simp[St,h11,h2,h4,h45],?_⟩,h47,h46⟩
  have hsl:∀i,i<2\/i=q->vid S_≠some i:=fun i hi e=>by
   have:=hp.sq i e
   have:=(hS.lt e).1
   omega
  refine ⟨by rw[hfin 0 (by omega) (hsl 0 (by omega)),hp.h0],by rw[hfin 1 (by omega) (hsl 1 (by omega)),hp.h1],by rw[hfin q q2b (hsl q (by omega)),hp.hq],⟨q2a,by omega⟩,hp.sq,Vs.set k R,l++[X],hS2.fr n3 fun i hi=>f3 i (hS2.lt hi).2 fun e=>by have:=hp.sq i hi;omega,by simpa using hVl,by simp[hll],?_,?_⟩
  ·have htk:(Vs.set k R).take (k+1)=Vs.take k++[R]:=by
    rw[List.take_add_one,List.take_set_of_le (Nat.le_refl _),List.getElem?_set_self (by omega)]
    rfl
   rw[htk]
   refine (hal.mono fun X' v r=>?_).append ⟨?_,trivial⟩
   ·exact r.fr (by omega) fun i hi=>by
     have:=r.lt hi
     exact hfin i this.2 fun e=>by have:=hp.sq i e;omega
   ·rcases hX with h | ⟨id,ep,lo,p1,p2,rfl,p4⟩
    ·exact .inl h
    ·injection vR with vR
     exact .inr ⟨id,ep,lo,by omega,p2,rfl,p4⟩
  ·intro i f' X' hf' hX'
   by_cases hi:i<l.length
   ·rw[List.getElem?_append_left hi] at hX'
    exact hst i f' X' hf' hX'
   ·have h1:=(List.getElem?_eq_some_iff.1 hX').1
    have:i=k:=by simp at h1;omega
    subst this
    rw[hf] at hf';injection hf' with hf';subst hf'
    rw[List.getElem?_append_right (by omega),hll,Nat.sub_self] at hX'
    simp at hX'
    subst hX'
    exact hXo
 ·rintro t df g ⟨rfl,h⟩
  exact fin t g h
theorem F_ (n:Net)(ls:List (List Int)):Snb (GP n ls) 2:=jk fun y=>jH (m:=2) (dI _) (bo _) (by decide) (by decide)
def qn0:QnM:=(⟨0,[]⟩,[],[])
theorem FL (P:Nat->Prop)(h:H):Agg qn0 P 0 h (.agg [.int .i64 0,.nils,.nils,.nils]):=⟨_,rfl,rh.2 ⟨.nils,.nils,.nils,rfl,⟨by show 0<9223372036854775808;decide,rfl⟩,⟨by show 0<9223372036854775808;decide,rfl⟩,⟨by show 0<9223372036854775808;decide,rfl⟩⟩⟩
theorem AU {a b c w:AV}(h:w.cells=[w])(h2:w.isTup=false)(h3:b.cells=[b])(h4:b.isTup=false):dH [.int .i64 0,.nils,.nils,.nils] [((0,2),.agg [a,c]),((2,1),b),((3,1),w)]=some [a,c,b,w]:=by
 have k1:(AV.agg [a,c]).cells=[a,c]:=rfl
 have k2:(AV.agg [a,c]).isTup=false:=rfl
 simp[dH,h,h2,h3,h4,dP,k1,k2]
 rfl
theorem H3 {d kk:Nat}{P:Nat->Prop}{g:G}{v w:AV}{n:Net}{ls:List (List Int)}(hd:0<d)(hm:Agg n NoP 0 g.h v)(hw:SlR P kk g.h ls w):∃r,au C0 d N.aU [v,w] g=.val r/\GP n ls NoP 0 .nil r:=by
 obtain ⟨b,rows,rfl,e1,hm',hN,r1,r2,r3,r4⟩:=eS d hm
 obtain ⟨w',e2,hw'⟩:=dN hw d
 obtain ⟨wrows,p1,p2,p3,p4⟩:=(hw' .nil).all
 have p1:∀h',ae h' 1 w'=some wrows:=p1
 have hwl:=hw.1
 have wl:=fun g=>(hw' .nil).len g
 rw[tG]
 refine bz xn (xs:=[.agg [.int .i64 n.grain,b],w']) (by simp only[aE,e1,e2]) (by simp[oY]) (F_ n ls) (by decide) hd ?_
 simp only[sz,simprocAttr,oY]
 obtain ⟨g0,hg0⟩:∃g0,g0=(G.empty.new (.cells 2 [[.int .i64 n.grain,b]] 0 false false)).new (.cells 4 [[.int .i64 0,.nils,.nils,.nils]] 0 false false):=⟨_,rfl⟩
 rw[<-hg0]
 have f0:g0.h.get 0=.cells 2 [[.int .i64 n.grain,b]] 0 false false:=by rw[hg0];simp[sx,H.get_put]
 have f1:g0.h.get 1=.cells 4 [[.int .i64 0,.nils,.nils,.nils]] 0 false false:=by rw[hg0];simp[sx]
 have f2:g0.nx=2:=by rw[hg0];simp[sx]
 clear hg0
 simp only[pI]
 obtain ⟨z,ez,fs,⟨hfl,hfs⟩,fl,er,rfl,hfl2,her⟩:=GR (d:=d+1) (g:=g0) (Nat.succ_pos d) (hm' g0.h)
 have her:=a_.1 her
 injection her with her
 subst her
 obtain ⟨_,e3,hfl2⟩:=hfl2
 injection e3 with e3;subst e3
 cases hn:S.aw n with
 | false =>
  have hs:S.aW n ls=50:=by rw[S.aW,hn];rfl
  rw[hn] at ez
  simp only[Bool.false_eq_true,↓reduceIte] at ez
  simp only[sz,simprocAttr,f0,ez,show ¬((50:Int)=0) from by decide,f1]
  refine ⟨fun _=>True,qn0,?_,_,_,rfl,?_,?_⟩
  ·rw[hs];intro h;cases h
  ·exact FL _ _
  ·rw[hs];exact a_.2 rfl
 | true =>
  have hr:=fw.1 hn
  have hfl:=hfl hn
  rw[hn] at ez
  simp only[↓reduceIte] at ez
  refine dk (P:=fun t' df g'=>df=[]/\g'=g0/\St t' [(1,w'),(2,.hptr 0 0 0 0),(4,.hptr 1 0 0 0),(6,fl),(7,.int .i64 0)]) ?_ ?_
  ·simp only[sz,simprocAttr,f0,ez]
   simp[St,sx]
  rintro t df g1 ⟨rfl,rfl,h1,h2,h4,h6,h7,-⟩
  obtain ⟨Qf,hQf⟩:∃Qf,Qf=fnQ C0 (d+1) [SR.cell true 4 4,SR.tm 5] (fun v g'=>∃P,GP n ls P 0 g'.h v):=⟨_,rfl⟩
  rw[<-hQf]
  simp only[sz,simprocAttr,h1,h7,wl,oQ]
  refine bk (m:=ls.length) hwl (fun j t df g=>df=[]/\St t [(25,w'),(2,.hptr 0 0 0 0),(4,.hptr 1 0 0 0),(6,fl)]/\g=g1/\∀e∈ls.take j,S.bf n e=true) ⟨rfl,by simp[St,sx,h2,h4,h6],rfl,by simp⟩ (by simp[sx]) (by simp[sx]) (by decide)
   (by rintro j t df g v s (rfl | rfl | rfl) ⟨a1,⟨b1,b2,b3,b4,-⟩,c1,c2⟩<;>exact ⟨a1,by simp[St,sx,b1,b2,b3,b4],c1,c2⟩) ?_ ?_
  ·rintro j t df g hj ⟨rfl,⟨h25,h2,h4,h6,-⟩,rfl,hall⟩ h27 h26
   obtain ⟨e,he,htk,hem⟩:=am hj
   obtain ⟨row,q1,q2⟩:=p3 j e he
   obtain ⟨z,rfl,hz⟩:=gM.1 q2
   have hlt:j<wrows.length:=by omega
   have hch:=EA (d:=d+1) (g:=g) (e:=e) (w:=z) (Nat.succ_pos d) (hm' g.h) (hz.tree (h':=g.h) (Nat.le_refl _))
   cases hev:S.bf n e with
   | true =>
    have hs:S.a8 n e=0:=by rw[S.a8,hn,hev];rfl
    rw[hs] at hch
    simp only[sz,simprocAttr,h25,h27,h26,h2,p1,hlt,q1,f0,hch]
    refine ⟨by simp[St,sx,h2,h4,h6,h25],fun y hy=>?_⟩
    rw[htk] at hy
    rcases List.mem_append.1 hy with h | h
    ·exact hall y h
    ·rw[List.mem_singleton.1 h];exact hev
   | false =>
    have hs:S.a8 n e=2:=by rw[S.a8,hn,hev];rfl
    have hs2:S.aW n ls=2:=by
     have:ls.all (S.bf n)=false:=by
      rw[<-Bool.not_eq_true,List.all_eq_true]
      intro h
      rw[h e hem] at hev;cases hev
     rw[S.aW,hn,this];rfl
    rw[hs] at hch
    rw[hQf]
    simp only[sz,simprocAttr,h25,h27,h2,h4,p1,hlt,q1,f0,f1,hch,show ¬((2:Int)=0) from by decide]
    refine ⟨fun _=>True,qn0,?_,_,_,rfl,?_,?_⟩
    ·rw[hs2];intro h;cases h
    ·exact FL _ _
    ·rw[hs2];exact a_.2 rfl
  ·rintro t df g ⟨rfl,⟨h25,h2,h4,h6,-⟩,rfl,hall⟩
   rw[List.take_length] at hall
   have hs:S.aW n ls=0:=by rw[S.aW,hn,List.all_eq_true.2 hall];rfl
   have hl8:=hr.l2
   have fll:=fun g=>hfl2.len g
   simp only[sx,↓reduceIte]
   unfold oe
   refine dk (P:=fun t' df g'=>df=[]/\∃S_ q,St t' [(2,.hptr 0 0 0 0),(4,.hptr 1 0 0 0),(6,fl),(11,.hptr q 0 0 0)]/\AskH n.grain b fl S_ n.nodes.length q fs 0 g') ?_ ?_
   ·simp only[sz,simprocAttr,sf,h2,h6,f0,fll,hfl]
    refine ks (b:=2) (n:=n.nodes.length) (by unfold aU;omega) (by unfold aU;omega) (by first | (simp;done) | (simp;omega)) fun S_ g2 hS n2 f2' vS lg2=>?_
    simp only[sy] at n2 f2' vS lg2
    have hflc:fl.cells=[fl]/\fl.isTup=false:=by
     have h:=hfl2.2
     unfold SlV at h
     split at h<;>first | exact ⟨rfl,rfl⟩ | exact h.elim
    simp only[sz,simprocAttr,sf,AU hS.cell.1 hS.cell.2 hflc.1 hflc.2,lg2]
    have n2':g.nx+5=g2.nx:=by omega
    have k0:g2.h.get 0=.cells 2 [[.int .i64 n.grain,b]] 0 false false:=by rw[f2' 0 (by omega),f0]
    have k1:g2.h.get 1=.cells 4 [[.int .i64 0,.nils,.nils,.nils]] 0 false false:=by rw[f2' 1 (by omega),f1]
    refine ⟨?_,S_,g2.nx+1+1,by simp[St,sx,h2,h4,h6],⟨?_,?_,?_,⟨by omega,by simp⟩,fun i hi=>by have:=eC vS hi;omega,List.replicate n.nodes.length .nils,[],?_,by simp,rfl,trivial,fun i f X _ h=>by simp at h⟩⟩
    ·simp only[List.reverse_cons,List.reverse_nil,List.nil_append,List.cons_append,G.new_lg,G.put_lg,setLog_lg]
     refine aN [false,false,false,false,true,false,true,true] [(0,4),(1,4),(0,6),(1,6),(2,6),(3,6),(4,6),(5,6)] (by simp[All2,ak,ay]) (by decide) ?_
     rintro p hp' x y hx hy
     simp only[List.mem_cons,List.not_mem_nil,or_false] at hp'
     rcases hp' with rfl | rfl | rfl | rfl | rfl | rfl | rfl | rfl<;>(simp at hx hy;subst hx;subst hy;refine c_ rfl rfl rfl rfl ?_ ?_ ?_<;>simp[ak,ay,af]<;>omega)
    ·simp[H.get_put,k0]
    ·simp[H.get_put,k1]
    ·simp[H.get_put]
    ·have hS':Own g2 2 S_ 1 ((List.replicate n.nodes.length AV.nils).map fun v=>[v]):=by simpa using hS
     refine hS'.fr (by simp;omega) fun i hi=>?_
     have:=eC vS hi
     simp[H.get_put,show ¬i=g2.nx+1+1 by omega]
   clear h25 h2 h4 h6
   rintro t df g2 ⟨rfl,S_,q,⟨h2,h4,h6,h11,-⟩,hp⟩
   have hbl:=hN.len
   simp only[sz,simprocAttr,h6,fll,hfl]
   refine It (m:=n.nodes.length) (q:=q) (gr:=n.grain) (b:=b) (fl:=fl) (S_:=S_) (fs:=fs) hbl hl8 hfl2 hfl (fun i f hf=>?_) ⟨by simp[St,sx,h2,h4,h11],hp⟩ (by simp[sx]) (by simp[sx]) ?_
   ·have hi:=(List.getElem?_eq_some_iff.1 hf).1
    obtain ⟨x,hx,-,-⟩:=am (l:=n.nodes) (j:=i) (by omega)
    obtain ⟨p,hpp,hf2⟩:=hfs i x hi hx
    rw[hf] at hf2;injection hf2 with hf2;subst hf2
    exact EV hr hx hpp
   clear h2 h4 h6 h11 hp
   rintro t g3 ⟨⟨h11,h2,h4,h45,-⟩,hp⟩
   obtain ⟨Vs,l,hS,hVl,hll,hal,hst⟩:=hp.hS
   rw[List.take_of_length_le (by omega)] at hal
   rw[hQf]
   have q2:=hp.q2.1
   simp only[sz,simprocAttr,oG,h11,h4,hp.hq,hp.h1]
   have hne:∀i,i≠1->(g3.h.put 1 (.cells 4 [[.int .i64 n.grain,b,fl,S_]] 0 false false)).get i=g3.h.get i:=fun i hi=>by simp[H.get_put,hi]
   refine ⟨fun _=>True,(n,fs,l),fun _=>⟨rfl,hfl,hfs,hll,hst⟩,_,_,rfl,⟨_,rfl,rh.2 ⟨b,fl,S_,rfl,hN.wide (Nat.le_refl 0),hfl2.wide (Nat.le_refl 0),?_⟩⟩,?_⟩
   ·have hS':Own (g3.put 1 (.cells 4 [[.int .i64 n.grain,b,fl,S_]] 0 false false)) 2 S_ 1 (Vs.map fun v=>[v]):=hS.fr (by simp) fun i hi=>by
     have:=(hS.lt hi).1
     simp[H.get_put,show ¬i=1 by omega]
    refine Own.sl (α:=List Int) hS' (by show l.length<_;omega) ?_ fun _ _=>trivial
    have hal2:∀(l:List (List Int)) (Vs:List AV),All2 (fun X v=>Own g3 (q+1) v 1 (X.map ci)) l Vs->(∀X∈l,X.length<9223372036854775808)->All2 (Rp.rp (fun _=>True) 0 (g3.put 1 (.cells 4 [[.int .i64 n.grain,b,fl,S_]] 0 false false)).h) l (Vs.map fun v=>[v]):=by
     intro l
     induction l with
     | nil=>intro Vs h _;cases Vs with
      | nil=>trivial
      | cons v Vs=>exact h.elim
     | cons X l ih=>intro Vs h hX;cases Vs with
      | nil=>exact h.elim
      | cons v Vs =>
       refine ⟨?_,ih Vs h.2 fun Y hY=>hX Y (by simp[hY])⟩
       have ho:Own (g3.put 1 (.cells 4 [[.int .i64 n.grain,b,fl,S_]] 0 false false)) (q+1) v 1 (X.map ci):=h.1.fr (by simp) fun i hi=>by
        have:=(h.1.lt hi).1
        simp[H.get_put,show ¬i=1 by omega]
       obtain ⟨_,e1,hh⟩:=ho.ints (k:=0) (hX X (by simp))
       exact gM.2 ⟨_,e1,hh⟩
    refine hal2 l Vs hal fun X hX=>?_
    obtain ⟨i,hi,he⟩:=List.mem_iff_getElem.1 hX
    have:=(hst i _ X (List.getElem?_eq_getElem (show i<fs.length by omega)) (by rw[List.getElem?_eq_getElem hi,he])).1
    omega
   ·rw[hs];exact a_.2 rfl
theorem Cn {α:Type}{l:List α}{i:Nat}{x y:α}(h1:l[i]?=some x)(h2:l[i]?=some y):x=y:=by rw[h1] at h2;injection h2
structure WtI (y:QnM) (b fl S_ wv va ca wa:AV) (gr wt:Int) (p:Int) (cards pv:List Int) (m k fb i:Nat) (t:T) (g:G):Prop where
 st:St t [(1,wv),(2,.hptr 0 0 0 0),(12,fl),(13,.int .i64 (m:Int)),(14,.int .i64 (k:Int)),(5,.int .i64 wt),(6,.int .i64 (k:Int)),(7,.hptr fb 0 0 0),(20,va),(8,.int .i64 (p - S.af (cards.drop i) (pv.drop i)))]
 h0:g.h.get 0=.cells 4 [[.int .i64 gr,b,fl,S_]] 0 false false
 hf:g.h.get fb=.cells 3 [[va,ca,wa]] 0 false false
 nn:0<=p - S.af (cards.drop i) (pv.drop i)
 nx:1<=g.nx
theorem Da {d m k fb:Nat}{y:QnM}{b fl S_ wv va ca wa:AV}{gr wt p:Int}{f:Factor}{R vals:List Int}{mm:Nat}{Q:QT}{t:T}{g:G}(hva:SlR NoP 0 .nil f.vars va)(hF:FOk mm f)(hR:S.bu mm f 0 R)(hvl:vals.length=mm)
  (hS:∃(srows:List (List AV)) (z:AV),(∀h,ae h 1 S_=some srows)/\srows[k]?=some [z]/\k<srows.length/\SlR NoP 0 .nil R z) (rv:∀h,ae h 1 wv=some (vals.map ci)) (hp:p=S.af f.cards (S.ac vals f.vars)) (hin:InC f.cards (S.ac vals f.vars)) (hpb:p<=10000000)
  (h0:WtI y b fl S_ wv va ca wa gr wt p f.cards (S.ac vals f.vars) m k fb 0 t g) (h22:tat t 22=.int .i64 0) (h21:tat t 21=.int .i64 (f.vars.length:Int))
  (fin:∀t g,WtI y b fl S_ wv va ca wa gr wt p f.cards (S.ac vals f.vars) m k fb f.vars.length t g->Q (.exit 2) t [] g):wpL (wp C0 d none cg) Q t [] g:=by
 obtain ⟨srows,z,s1,s2,s3,hz⟩:=hS
 have rva:=fun h=>(hva.tree (h':=h) (Nat.le_refl 0)).ints
 have rz:=fun h=>(hz.tree (h':=h) (Nat.le_refl 0)).ints
 simp only[cg]
 refine bk (m:=f.vars.length) hva.1 (fun i t df g=>df=[]/\WtI y b fl S_ wv va ca wa gr wt p f.cards (S.ac vals f.vars) m k fb i t g) ⟨rfl,h0⟩ h22 h21 (by decide)
  (by rintro j t df g v s (rfl | rfl | rfl) ⟨a1,⟨b1,b2,b3,b4,b5,b6,b7,b8,b9,b10,-⟩,c1,c2,c3,c4⟩<;>exact ⟨a1,by simp[St,sx,b1,b2,b3,b4,b5,b6,b7,b8,b9,b10],c1,c2,c3,c4⟩) ?_ ?_
 ·rintro i t df g hi ⟨rfl,⟨h1,h2,h12,h13,h14,h5,h6,h7,h20,h8,-⟩,e0,ef,hnn,hnx⟩ h22 h21
  obtain ⟨u,hu,-,hum⟩:=am hi
  obtain ⟨hu0,hum⟩:=hF.vr u hum
  obtain ⟨un,rfl⟩:=Int.eq_ofNat_of_zero_le hu0
  have hcl:=hF.cl
  have hdr:f.cards.drop i=f.cards[i]::f.cards.drop (i+1):=List.drop_eq_getElem_cons (by omega)
  have hval:vals[un]?=some vals[un]:=List.getElem?_eq_getElem (by omega)
  have hpvi:(S.ac vals f.vars)[i]?=some vals[un]:=by simp[S.ac,hu,hval]
  have hdp:(S.ac vals f.vars).drop i=vals[un]::(S.ac vals f.vars).drop (i+1):=by
   have hl:i<(S.ac vals f.vars).length:=by rw[jS];exact hi
   rw[List.drop_eq_getElem_cons hl]
   rw[List.getElem?_eq_getElem hl] at hpvi
   injection hpvi with hpvi
   rw[hpvi]
  have hv0:0<=vals[un]:=by
   obtain ⟨v',h1,h2,-⟩:=hin.get (i:=i) (c:=f.cards[i]) (List.getElem?_eq_getElem (by omega))
   rw[Cn hpvi h1];exact h2
  generalize vals[un]=x at hval hpvi hdp hv0
  have hRu:=hR.2 i (un:Int) (Nat.zero_le _) hu
  rw[Int.toNat_natCast] at hRu
  have hRl:=(List.getElem?_eq_some_iff.1 hRu).1
  have u1:i<(f.vars.map ci).length:=by simpa using hi
  have u2:(f.vars.map ci)[i]?=some (ci (un:Int)):=by rw[List.getElem?_map,hu];rfl
  have u3:un<(vals.map ci).length:=by simp;omega
  have u4:(vals.map ci)[un]?=some (ci x):=by rw[List.getElem?_map,hval];rfl
  have u5:un<(R.map ci).length:=by simpa using hRl
  have u6:(R.map ci)[un]?=some (ci (S.ae (f.cards.drop (i+1)))):=by rw[List.getElem?_map,hRu];rfl
  have hidx:S.af (f.cards.drop i) ((S.ac vals f.vars).drop i)=x*S.ae (f.cards.drop (i+1))+S.af (f.cards.drop (i+1)) ((S.ac vals f.vars).drop (i+1)):=by rw[hdr,hdp,S.af]
  have hb1:=di (cards:=f.cards.drop (i+1)) (vals:=(S.ac vals f.vars).drop (i+1)) (fun c hc=>hF.cb c (List.mem_of_mem_drop hc)) (hin.drop (i+1))
  have hb2:=di (cards:=f.cards.drop i) (vals:=(S.ac vals f.vars).drop i) (fun c hc=>hF.cb c (List.mem_of_mem_drop hc)) (hin.drop i)
  have hpp:=jq (cs:=f.cards.drop (i+1)) fun c hc=>(hF.cb c (List.mem_of_mem_drop hc)).1
  have hxs:0<=x*S.ae (f.cards.drop (i+1)):=Int.mul_nonneg hv0 (by omega)
  have w1:IntKind.wrap .i64 (x*S.ae (f.cards.drop (i+1)))=x*S.ae (f.cards.drop (i+1)):=aA (by omega) (by omega)
  have w2:IntKind.wrap .i64 (p - S.af (f.cards.drop i) ((S.ac vals f.vars).drop i)+x*S.ae (f.cards.drop (i+1)))=p - S.af (f.cards.drop (i+1)) ((S.ac vals f.vars).drop (i+1)):=by
   rw[aA (by omega) (by omega)];omega
  simp only[sz,simprocAttr,h1,h2,h6,h8,h20,h22,h21,e0,rva,u1,u2,rv,u3,u4,s1,s2,s3,rz,u5,u6,ci,w1,w2]
  refine ⟨by simp[St,sx,h1,h2,h12,h13,h14,h5,h6,h7,h20],e0,ef,by omega,by first | exact hnx | (simp;done) | (simp;omega)⟩
 ·rintro t df g ⟨rfl,h⟩
  exact fin t g h
structure WtJ (n:Net) (vals:List Int) (b fl S_ wv:AV) (k:Nat) (t:T) (g:G):Prop where
 st:St t [(1,wv),(2,.hptr 0 0 0 0),(12,fl),(5,.int .i64 (S.ae ((List.range k).map (S.aF n vals))))]
 h0:g.h.get 0=.cells 4 [[.int .i64 n.grain,b,fl,S_]] 0 false false
 nx:1<=g.nx
theorem Dz {d kk:Nat}{P:Nat->Prop}{g:G}{v w:AV}{n:Net}{y:QnM}{vals:List Int}(hd:0<d)(hr:NR n)(hm:Agg y NoP 0 g.h v)(hq:QnOk n y)(hv:SlR P kk g.h vals w)(hc:InC (S.aa n) vals) :
  au C0 d N.aX [v,w] g=.val (.int .i64 (S.aG n vals)):=by
 have e0:=gK d hm
 obtain ⟨cs,rfl,hcs⟩:=hm
 obtain ⟨b,fl,S_,rfl,hN,hfl,hS⟩:=rh.1 hcs
 have hfl:SlR NoP 0 .nil y.2.1 fl:=hfl.tree (Nat.le_refl 0)
 have hS:SlR NoP 0 .nil y.2.2 S_:=hS.tree (Nat.le_refl 0)
 obtain ⟨w',e2,hw'⟩:=dN hv d
 have hgr:y.1.grain=n.grain:=by rw[hq.net]
 obtain ⟨frows,f1,f2,f3,f4⟩:=hfl.all
 have f1:∀h',ae h' 3 fl=some frows:=f1
 obtain ⟨srows,s1,s2,s3,s4⟩:=tA hS
 have rv:=fun h=>(hw' h).ints
 have hvl:=hc.len
 rw[aI] at hvl
 have hl8:=hr.l2
 have hfll:=hq.fl
 rw[jK]
 refine kH lr (xs:=[.agg [.int .i64 y.1.grain,b,fl,S_],w']) (by simp only[aE,e0,e2]) (by simp[cY]) hd ?_
 rw[hgr]
 have ll:=hfl.len
 simp only[sz,simprocAttr,cY,eK,ll,hfll]
 simp only[d6,dX]
 refine bk (m:=n.nodes.length) (by omega) (fun k t df g=>df=[]/\WtJ n vals b fl S_ w' k t g) ⟨rfl,by simp[St,sx,S.ae],by simp[sx],by simp⟩ (by simp[sx]) (by simp[sx]) (by decide)
  (by rintro j t df g v s (rfl | rfl | rfl) ⟨a1,⟨b1,b2,b3,b4,-⟩,c1,c2⟩<;>exact ⟨a1,by simp[St,sx,b1,b2,b3,b4],c1,c2⟩) ?_ ?_
 ·rintro k t df g hk ⟨rfl,⟨h1,h2,h12,h5,-⟩,g0,hnx⟩ h14 h13
  obtain ⟨x,hx,-,-⟩:=am hk
  obtain ⟨p,hp,hf⟩:=hq.fs k x (by omega) hx
  obtain ⟨row,q1,q2⟩:=f3 k _ hf
  obtain ⟨va,ca,wa,rfl,hva,hca,hwa⟩:=mr.1 q2
  have hF:=EV hr hx hp
  obtain ⟨pn,i1,i2,i3⟩:=H8 hr hc hx p
  have hlt:k<frows.length:=by omega
  have hry:=f4 (by omega)
  obtain ⟨R,hR,-,-⟩:=am (l:=y.2.2) (j:=k) (by rw[hq.sl];exact hk)
  obtain ⟨z,z1,z2,z3⟩:=s3 k R hR
  have hinp:InC (S.aO n k x p).cards (S.ac vals (S.aO n k x p).vars):=fg hc fun u hu=>by rw[aI];exact tN hr hx p u hu
  have hib:=di hF.cb hinp
  have hpb:=bu (l:=(S.aO n k x p).cards) hF.cb
  have hfv:=hF.vl
  have hp4:=cV (a:=(S.aO n k x p).cards.length) (b:=9) (by
   have h1:=ic (hr.places x (List.mem_of_getElem? hx)) (by omega)
   have h3:=ph x.parents p (k:Int) hp
   show (S.ac _ _).length<=9
   rw[jS];omega)
  have h48:(4:Int) ^ 9=262144:=by decide
  have ei:S.af (S.aO n k x p).cards (S.ac vals (S.aO n k x p).vars)=(pn:Int):=i1
  have lva:=hva.len
  have rwa:=fun h=>(hwa.tree (h':=h) (Nat.le_refl 0)).ints
  refine aO (P:=fun t' df g'=>df=[]/\g'=(g.new (.cells 3 [[.nils,.nils,.nils]] 0 false false)).put g.nx (.cells 3 [[va,ca,wa]] 0 false false)/\St t' [(1,w'),(2,.hptr 0 0 0 0),(12,fl),(13,.int .i64 (n.nodes.length:Int)),(14,.int .i64 (k:Int)),(5,.int .i64 (S.ae ((List.range k).map (S.aF n vals)))),(6,.int .i64 (k:Int)),(7,.hptr g.nx 0 0 0)]) ?_ ?_
  ·simp only[sz,simprocAttr,h14,h12,f1,hlt,q1]
   simp[St,sx,h1,h2,h12,h13,h14,h5]
  clear h1 h2 h12 h5 h14 h13
  rintro t df g1 ⟨rfl,hg1,⟨h1,h2,h12,h13,h14,h5,h6,h7,-⟩⟩
  have k0:g1.h.get 0=.cells 4 [[.int .i64 n.grain,b,fl,S_]] 0 false false:=by rw[hg1];simp[H.get_put,show ¬0=g.nx by omega,g0]
  have k1:g1.h.get g.nx=.cells 3 [[va,ca,wa]] 0 false false:=by rw[hg1];simp[H.get_put]
  have kn:g1.nx=g.nx+1:=by rw[hg1];simp
  simp only[sz,simprocAttr,h7,k1,lva]
  refine Da (y:=y) (b:=b) (fl:=fl) (S_:=S_) (wv:=w') (va:=va) (ca:=ca) (wa:=wa) (gr:=n.grain) (wt:=S.ae ((List.range k).map (S.aF n vals))) (p:=(pn:Int)) (f:=S.aO n k x p) (R:=R) (vals:=vals) (mm:=n.nodes.length) (m:=n.nodes.length) (k:=k) (fb:=g.nx) hva hF (hq.st k _ R hf hR) hvl ⟨srows,z,s1,z1,z2,z3⟩ rv ei.symm hinp (by omega)
   ⟨by simp[St,sx,h1,h2,h12,h13,h14,h5,h6,h7,ei],by simpa using k0,by simpa using k1,by simp[ei],by omega⟩ (by simp[sx]) (by simp[sx]) ?_
  clear h1 h2 h12 h13 h14 h5 h6 h7
  rintro t g2 ⟨⟨h1,h2,h12,h13,h14,h5,h6,h7,h20,h8,-⟩,k0,k1,-,hnx2⟩
  have hnil:S.af ((S.aO n k x p).cards.drop (S.aO n k x p).vars.length) ((S.ac vals (S.aO n k x p).vars).drop (S.aO n k x p).vars.length)=0:=by
   rw[List.drop_of_length_le (by rw[hF.cl];exact Nat.le_refl _)];rfl
  rw[hnil,Int.sub_zero] at h8
  have u1:pn<((S.aO n k x p).w.map ci).length:=by
   rw[List.length_map]
   exact (List.getElem?_eq_some_iff.1 i3).1
  have u2:((S.aO n k x p).w.map ci)[pn]?=some (ci (S.aF n vals k)):=by rw[List.getElem?_map];exact congrArg (Option.map ci) i3
  have wb:=lH hr hc (j:=k+1) (by omega)
  have ws:=qb n vals k
  have w1:IntKind.wrap .i64 (S.ae ((List.range k).map (S.aF n vals))*S.aF n vals k)=S.ae ((List.range (k+1)).map (S.aF n vals)):=by rw[<-ws,aA (by omega) (by omega)]
  simp only[sz,simprocAttr,eh,h5,h7,k1,h8,rwa,u1,u2,ci,w1]
  exact ⟨⟨by simp[St,sx,h1,h2,h12],k0,hnx2⟩,h14,h13⟩
 ·rintro t df g ⟨rfl,⟨h1,h2,h12,h5,-⟩,g0,hnx⟩
  simp only[sz,simprocAttr,ew,h5]
  rfl
def S.bC (vals e:List Int)(i:Nat):Bool:=decide (e[i]?.getD 0 = -1) || decide (e[i]?.getD 0=vals[i]?.getD 0)
def S.jm (vals e:List Int):Bool:=(List.range e.length).all (S.bC vals e)
theorem A_ {d k k2:Nat}{g:G}{P P2:Nat->Prop}{v w:AV}{vals e:List Int}(hd:0<d)(hv:SlR P k g.h vals v)(hw:SlR P2 k2 g.h e w)(hl:e.length<=vals.length) :
  au C0 d N.aP [v,w] g=.val (.bool (S.jm vals e)):=by
 obtain ⟨v',e1,r1⟩:=dN hv d
 obtain ⟨w',e2,r2⟩:=dN hw d
 have ra:∀h',ae h' 1 v'=some (vals.map ci):=fun h'=>(r1 h').ints
 have rb:∀h',ae h' 1 w'=some (e.map ci):=fun h'=>(r2 h').ints
 have n2:=fun g=>(r2 .nil).len g
 rw[qg]
 refine d8 rY (xs:=[v',w']) (by simp only[aE,e1,e2]) (by simp[iX]) hd ?_
 simp only[sz,simprocAttr,iX,jv,n2]
 refine bk (m:=e.length) hw.1 (fun j t df g=>df=[]/\St t [(0,v'),(8,w'),(5,.bool true)]/\(List.range j).all (S.bC vals e)=true) ⟨rfl,by simp[St,sx],rfl⟩ (by simp[sx]) (by simp[sx]) (by decide) (by rintro j t df g v s (rfl | rfl | rfl)<;>simp[St,sx]) ?_ ?_
 ·rintro j t df g hj ⟨rfl,⟨h0,h8,h5,-⟩,hA⟩ h10 h9
  obtain ⟨x,hx,-,-⟩:=am hj
  obtain ⟨z,hz,-,-⟩:=am (l:=vals) (j:=j) (by omega)
  have q1:j<(e.map ci).length:=by simpa using hj
  have q2:j<(vals.map ci).length:=by rw[List.length_map];omega
  have q3:(e.map ci)[j]?=some (ci x):=by rw[List.getElem?_map,hx];rfl
  have q4:(vals.map ci)[j]?=some (ci z):=by rw[List.getElem?_map,hz];rfl
  have hat:S.bC vals e j=(decide (x = -1) || decide (x=z)):=by simp[S.bC,hx,hz]
  by_cases c1:x = -1
  ·subst c1
   simp only[sz,simprocAttr,h10,h9,h8,rb,q1,q3,ci]
   refine ⟨by simp[St,sx,h0,h8,h5],?_⟩
   rw[cI,hA,hat];simp
  ·by_cases c2:x=z
   ·subst c2
    simp only[sz,simprocAttr,h10,h9,h8,h0,ra,rb,q1,q2,q3,q4,ci,c1]
    refine ⟨by simp[St,sx,h0,h8,h5],?_⟩
    rw[cI,hA,hat];simp
   ·have:S.bC vals e j=false:=by rw[hat];simp[c1,c2]
    have hf:S.jm vals e=false:=by rw[S.jm,fc hj this]
    simp only[sz,simprocAttr,h10,h8,h0,ra,rb,q1,q2,q3,q4,ci,c1,c2,fm,hf]
 ·rintro t df g ⟨rfl,⟨h0,h8,h5,-⟩,hA⟩
  simp only[sz,simprocAttr,fm,h5]
  rw[S.jm,hA]
theorem H_ {α:Type} [Rp α]{P:Nat->Prop}{k:Nat}{h:H}{l:List α}{w:AV}(hw:SlR P k h l w)(g:G):Ew w g=.upd (.hptr g.nx 0 0 0) (g.new (.cells 1 [[w]] 0 false false)):=by
 rw[AR _ _ hw.cell.2,hw.cell.1];rfl
def EH {α:Type} [Rp α](x:α)(sz:Nat):VS:=fun P k h v=>(∃id cs,v=.hptr id 0 0 0/\P id/\h.get id=.cells sz [cs] 0 false false/\Rp.rp P k h x cs)\/∃t cs,v=.tptr t sz [cs] 0 0/\t<=k/\Rp.rp NoP k .nil x cs
theorem yG {α:Type} [Rp α]{x:α}{sz:Nat}{P:Nat->Prop}{k:Nat}{h:H}{v:AV}{n:Nat}(d:Nat)(r:EH x sz P k h v)(hn:Rp.dp α<=n)(hd:Rp.dp α<=20:=by decide):∃v',Hx.snap h d (n+1) v=some v'/\EH x sz NoP (max k d) .nil v':=by
 rcases r with ⟨id,cs,rfl,-,hg,r⟩ | ⟨t,cs,rfl,ht,r⟩
 ·obtain ⟨cs',e,r'⟩:=Rp.snap (n:=n) d r hn (by show _<=24;omega)
  obtain ⟨m,e2,l2⟩:=Rp.tag (n:=aG) r' (by show _<=24;omega)
  refine ⟨.tptr (Nat.max d (Nat.max m 0)) sz [cs'] 0 0,?_,.inr ⟨_,cs',rfl,?_,r'⟩⟩
  ·simp only[Hx.snap,hg,show Nat.beq 0 0=true from rfl,aE,e,eI,fq,e2]
  ·show max d (max m 0)<=max k d
   omega
 ·exact ⟨.tptr t sz [cs] 0 0,rfl,.inr ⟨t,cs,rfl,by omega,Rp.mono r (fun i hi=>hi.elim) (by omega)⟩⟩
theorem Ce {α:Type} [Rp α]{x:α}{sz:Nat}{k:Nat}{h:H}{v:AV}{n:Nat}(r:EH x sz NoP k h v):∃m,dE (n+1) v=some m/\m<=k:=by
 rcases r with ⟨id,cs,rfl,hP,-⟩ | ⟨t,cs,rfl,ht,r⟩
 ·exact hP.elim
 ·exact ⟨t,rfl,ht⟩
def MtV (y:QnM)(e:List Int):VS:=fun P k h v=>∃p q,v=.clo N.ae [] [p,q]/\EH y 4 P k h p/\EH e 1 P k h q
theorem H9 (y:QnM)(e:List Int):Snb (MtV y e) 2:=by
 refine ⟨fun {P k h v n} d r hn=>?_,fun {k h v n} r hn=>?_⟩
 ·obtain ⟨p,q,rfl,r1,r2⟩:=r
  obtain ⟨n,rfl⟩:∃q,n=q+2:=⟨n - 2,by omega⟩
  obtain ⟨p',e1,r1'⟩:=yG (n:=n) d r1 (Nat.le_trans (show Rp.dp QnM<=20 by decide) (by omega))
  obtain ⟨q',e2,r2'⟩:=yG (n:=n) d r2 (Nat.le_trans (show Rp.dp (List Int)<=20 by decide) (by omega))
  refine ⟨.clo N.ae [] [p',q'],?_,p',q',rfl,r1',r2'⟩
  simp only[Hx.snap,aE] at e1 e2 ⊢
  rw[e1,e2]
 ·obtain ⟨p,q,rfl,r1,r2⟩:=r
  obtain ⟨n,rfl⟩:∃q,n=q+2:=⟨n - 2,by omega⟩
  obtain ⟨m1,e1,l1⟩:=Ce (n:=n) r1
  obtain ⟨m2,e2,l2⟩:=Ce (n:=n) r2
  refine ⟨Nat.max m1 (Nat.max m2 0),?_,by show max m1 (max m2 0)<=k;omega⟩
  show fq (dE (n+1)) [p,q]=_
  simp only[fq,e1,e2]
theorem sR {d:Nat}{g:G}{v w:AV}{y:QnM}{e:List Int}(hd:0<d)(hm:Agg y NoP 0 g.h v)(hw:SlR NoP 0 g.h e w) :
  ∃cs z,au C0 d N.ax [v,w] g=.val (.clo N.ae [] [.tptr 0 4 [cs] 0 0,.tptr 0 1 [[z]] 0 0])/\Rp.rp NoP 0 .nil y cs/\SlR NoP 0 .nil e z:=by
 have e0:=gK d hm
 obtain ⟨cs,rfl,hc⟩:=hm
 obtain ⟨a,b,c,rfl,h1,h2,h3⟩:=rh.1 hc
 have key:∃r,au C0 d N.ax [.agg [.int .i64 y.1.grain,a,b,c],w] g=.val r/\MtV y e NoP 0 .nil r:=by
  rw[iV]
  refine bz ke (xs:=[.agg [.int .i64 y.1.grain,a,b,c],w]) (by simp only[aE,e0,tz d hw]) (by simp[ct]) (H9 y e) (by decide) hd ?_
  simp only[sz,simprocAttr,ct,dG,H_ hw]
  refine ⟨fun _=>True,_,_,rfl,.inl ⟨0,_,rfl,trivial,by simp[sx,H.get_put],Rp.tree hc (Nat.le_refl _)⟩,.inl ⟨1,[w],rfl,trivial,by simp[sx],?_⟩⟩
  exact ⟨w,rfl,hw.wide (Nat.le_refl 0)⟩
 obtain ⟨r,hr,p,q,rfl,r1,r2⟩:=key
 rcases r1 with ⟨id,cs,rfl,hP,-⟩ | ⟨t,cs,rfl,ht,r1⟩
 ·exact hP.elim
 rcases r2 with ⟨id,cs,rfl,hP,-⟩ | ⟨t2,cs2,rfl,ht2,r2⟩
 ·exact hP.elim
 obtain ⟨z,rfl,hz⟩:=gM.1 r2
 have:t=0:=by omega
 subst this
 have:t2=0:=by omega
 subst this
 exact ⟨cs,z,hr,r1,hz⟩
theorem EY {cs vs:List Int}(h:InC cs vs)(hc:∀c∈cs,1<=c){i:Nat}{x c:Int}(hi:vs[i]?=some x)(hci:cs[i]?=some c)(hx:x≠c - 1):InC cs (vs.take i++(x+1)::List.replicate (vs.length - (i+1)) 0):=by
 have hil:=(List.getElem?_eq_some_iff.1 hi).1
 have hl:=h.len
 refine xw (by simp;omega) fun j c' v hj hv=>?_
 obtain ⟨v',h1,h2,h3⟩:=h.get hj
 have hcp:=hc c' (List.mem_of_getElem? hj)
 by_cases h4:j<i
 ·rw[List.getElem?_append_left (by simp;omega),List.getElem?_take_of_lt h4] at hv
  rw[h1] at hv;injection hv with hv;omega
 ·rw[List.getElem?_append_right (by simp;omega)] at hv
  rw[List.length_take,Nat.min_eq_left (by omega)] at hv
  by_cases h5:j=i
  ·subst h5
   rw[Nat.sub_self] at hv
   simp at hv
   rw[hi] at h1;injection h1 with h1
   rw[hci] at hj;injection hj with hj
   omega
  ·obtain ⟨m,hm⟩:∃m,j - i=m+1:=⟨j - i - 1,by omega⟩
   rw[hm,List.getElem?_cons_succ] at hv
   have:=List.mem_of_getElem? hv
   rw[List.mem_replicate] at this
   omega
theorem EG {cs:List Int}(hc:∀c∈cs,1<=c):InC cs (List.replicate cs.length 0) :=
 xw (by simp) fun j c v hj hv=>by
  have:=List.mem_of_getElem? hv
  rw[List.mem_replicate] at this
  have:=hc c (List.mem_of_getElem? hj)
  omega
theorem xx {vs:List Int}{m:Nat}(h:m<vs.length):(vs.take (m+1)++List.replicate (vs.length - (m+1)) 0).set m 0=vs.take m++List.replicate (vs.length - m) 0:=by
 rw[List.take_succ_eq_append_getElem h,List.append_assoc,List.set_append_right _ _ (by simp;omega),List.length_take,Nat.min_eq_left (by omega),Nat.sub_self]
 rw[show vs.length - m=(vs.length - (m+1))+1 by omega,List.replicate_succ]
 rfl
theorem yb {vs:List Int}{m:Nat}(h:m<vs.length)(y:Int):(vs.take (m+1)++List.replicate (vs.length - (m+1)) 0).set m y=vs.take m++y::List.replicate (vs.length - (m+1)) 0:=by
 rw[List.take_succ_eq_append_getElem h,List.append_assoc,List.set_append_right _ _ (by simp;omega),List.length_take,Nat.min_eq_left (by omega),Nat.sub_self]
 rfl
structure OdoJ (n:Net) (vs:List Int) (L:List (Nat×AV)) (u:AV) (g0:G) (m:Nat) (t:T) (g:G):Prop where
 st:tat t 6=.int .i64 ((m:Int) - 1)
 ss:St t L
 ow:Own g g0.nx u 1 ((vs.take m++List.replicate (vs.length - m) 0).map ci)
 mx:∀(j:Nat) (c:Int),m<=j->(S.aa n)[j]?=some c->vs[j]?.getD 0=c - 1
def LM (id:Nat)(gr:Int)(b fl S_ w u:AV)(k:Nat):List (Nat×AV):=[(0,.yld id),(1,.tptr 0 4 [[.int .i64 gr,b,fl,S_]] 0 0),(2,.tptr 0 1 [[w]] 0 0),(4,u),(5,.int .i64 (k:Int))]
theorem CU {d id k m:Nat}{n:Net}{b fl S_ w u:AV}{vs:List Int}{Q:QT}{t:T}{g g0:G}(hr:NR n)(hN:SlR NoP 0 .nil n.nodes b)(hc:InC (S.aa n) vs)(hm:m<=n.nodes.length)
  (h0:OdoJ n vs (LM id n.grain b fl S_ w u k) u g0 m t g)
  (fin:∀m' t g',m'<=n.nodes.length->OdoJ n vs (LM id n.grain b fl S_ w u k) u g0 m' t g'->g.nx<=g'.nx->(∀i,vid u≠some i->g'.h.get i=g.h.get i)->(m'=0\/∃x c,vs[m' - 1]?=some x/\(S.aa n)[m' - 1]?=some c/\x≠c - 1/\0<m')->Q (.exit 2) t [] g') :
  wpL (wp C0 d none bg) Q t [] g:=by
 obtain ⟨rows,r1,r2,r3,r4⟩:=hN.all
 have r1:∀h',ae h' 3 b=some rows:=r1
 have hvl:=hc.len
 rw[aI] at hvl
 have hl8:=hr.l2
 refine oq (fun m t df g'=>df=[]/\m<=n.nodes.length/\OdoJ n vs (LM id n.grain b fl S_ w u k) u g0 m t g'/\g.nx<=g'.nx/\∀i,vid u≠some i->g'.h.get i=g.h.get i) m ⟨rfl,hm,h0,Nat.le_refl _,fun _ _=>rfl⟩ ?_
 rintro m t df g1 ⟨rfl,hm,⟨h6,⟨h0,h1,h2,h4,h5,-⟩,how,hmx⟩,hnx,hfr⟩
 simp only[bg]
 cases m with
 | zero =>
  have c1:¬((0:Int)<=((0:Nat):Int) - 1):=by omega
  simp only[sz,simprocAttr,h6,c1]
  refine fin 0 _ _ (Nat.zero_le _) ⟨?_,?_,?_,hmx⟩ ?_ ?_ (.inl rfl)
  ·simp[sx,h6]
  ·simp[St,LM,sx,h0,h1,h2,h4,h5]
  ·exact how
  ·exact hnx
  ·exact hfr
 | succ m =>
  have c1:(0:Int)<=((m+1:Nat):Int) - 1:=by omega
  have e1:((m+1:Nat):Int) - 1=(m:Int):=by omega
  rw[e1] at c1 h6
  obtain ⟨x,hx,-,-⟩:=am (l:=n.nodes) (j:=m) (by omega)
  obtain ⟨row,q1,q2⟩:=r3 m x hx
  obtain ⟨pa,ra,rfl,-,-⟩:=bI.1 q2
  have hlt:m<rows.length:=by omega
  have hry:=r4 (by omega)
  have hci:(S.aa n)[m]?=some x.card:=by simp[S.aa,hx]
  obtain ⟨v,hv,hv0,hv1⟩:=hc.get hci
  have hcx:=hr.card x (List.mem_of_getElem? hx)
  have u1:m<((vs.take (m+1)++List.replicate (vs.length - (m+1)) 0).map ci).length:=by simp;omega
  have u2:((vs.take (m+1)++List.replicate (vs.length - (m+1)) 0).map ci)[m]?=some (ci v):=by
   rw[List.getElem?_map,List.getElem?_append_left (by simp;omega),List.getElem?_take_of_lt (by omega),hv];rfl
  have ru:=how.rows
  have w1:IntKind.wrap .i64 (x.card - 1)=x.card - 1:=aA (by omega) (by omega)
  by_cases c2:v=x.card - 1
  ·simp only[sz,simprocAttr,h6,h1,h4,c1,ru,u1,u2,r1,hlt,q1,hry,qP,jt,ci,w1,c2]
   refine bX (v:=u) (sz:=1) (n:=1) (i:=m) (off:=0) (x:=.int .i64 0) (row':=ci 0) how u2 rfl rfl rfl fun g4 hu4 n4 f4=>?_
   rw[<-List.map_set,xx (by omega)] at hu4
   have w2:IntKind.wrap .i64 ((m:Int) - 1)=(m:Int) - 1:=aA (by omega) (by omega)
   simp only[sz,simprocAttr,h6,w2]
   refine ⟨m,by omega,by omega,⟨by simp[sx],by simp[St,LM,sx,h0,h1,h2,h4,h5],hu4,fun j c hj hc'=>?_⟩,by omega,fun i hi=>by rw[f4 i hi,hfr i hi]⟩
   by_cases e:j=m
   ·subst e
    rw[hci] at hc';injection hc' with hc'
    rw[hv,Option.getD_some];omega
   ·exact hmx j c (by omega) hc'
  ·simp only[sz,simprocAttr,h6,h1,h4,c1,ru,u1,u2,r1,hlt,q1,hry,qP,jt,ci,w1,c2]
   refine fin (m+1) _ _ hm ⟨?_,?_,?_,hmx⟩ ?_ ?_ (.inr ⟨v,x.card,hv,hci,c2,by omega⟩)
   ·simp[sx,h6]
   ·simp[St,LM,sx,h0,h1,h2,h4,h5]
   ·exact how
   ·exact hnx
   ·exact hfr
theorem Il {a b u:AV}(ha:a.cells=[a]/\a.isTup=false)(hb:b.cells=[b]/\b.isTup=false)(hu:u.cells=[u]/\u.isTup=false):dH [.int .i64 0,.int .i64 0,.nils] [((0,1),a),((1,1),b),((2,1),u)]=some [a,b,u]:=by
 simp[dH,ha,hb,hu,dP]
 rfl
theorem CD {d id:Nat}{n:Net}{y:QnM}{e:List Int}{b fl S_ w:AV}{g0:G}{K:AV->G->Prop}(hd:0<d)(hr:NR n)(hq:QnOk n y)(hcs:Rp.rp NoP 0 .nil y [.int .i64 n.grain,b,fl,S_])(hw:SlR NoP 0 .nil e w)(hel:e.length<=n.nodes.length)
  (J:Nat->H->Prop) (E:G->Prop) (hJ:∀j h h',(∀i,i<g0.nx->h'.get i=h.get i)->J j h->J j h')
  (skip:∀(j:Nat) (h:H),j<S.am n->S.jm (S.ah (S.aa n) j) e=false->J j h->J (j+1) h)
  (step:∀(j:Nat) (u:AV) (g:G) (K':AV->G->Prop) (D:ADf->Prop),j<S.am n->S.jm (S.ah (S.aa n) j) e=true->g0.nx<=g.nx->J j g.h->SlR (fun i=>g0.nx<=i/\i<g.nx) 0 g.h (S.ah (S.aa n) j) u ->
   (∀g',J (j+1) g'.h->g.nx<=g'.nx->(∀i,g0.nx<=i->i<g.nx->g'.h.get i=g.h.get i)->K' (.bool true) g')->(∀g',E g'->K' (.bool false) g')->(cx (I C0) d id [.agg [.int .i64 (j:Int),.int .i64 (S.aG n (S.ah (S.aa n) j)),u]] g).sat K' g D)
  (h0:J 0 g0.h) (fin:∀g',J (S.am n) g'.h->g0.nx<=g'.nx->K (.tup []) g') (finE:∀g',E g'->K (.tup []) g') :
  wp C0 d none aC.code (fnQ C0 d aC.res K) (ck 0 [.yld id,.tptr 0 4 [[.int .i64 n.grain,b,fl,S_]] 0 0,.tptr 0 1 [[w]] 0 0] .nil) [] g0:=by
 obtain ⟨b',fl',S',e1,hN,hfl,hS⟩:=rh.1 hcs
 injection e1 with e1 e2
 injection e2 with e2 e3
 injection e3 with e3 e4
 injection e4 with e4 e5
 subst e2;subst e3;subst e4
 have hN:SlR NoP 0 .nil n.nodes b:=by rw[<-hq.net];exact hN
 have hl8:=hr.l2
 have hl1:=hr.l1
 obtain ⟨W1,W2,W3⟩:=hr.wl
 have hcs1:=fun c hc=>(hr.cs c hc).1
 have nl:=hN.len
 have hcl:=aI n
 obtain ⟨Qf,hQf⟩:∃Qf,Qf=fnQ C0 d aC.res K:=⟨_,rfl⟩
 rw[<-hQf]
 simp only[sz,simprocAttr,aC,qP,jt,nl]
 refine re (b:=g0.nx) (n:=n.nodes.length) (by unfold aU;omega) (by unfold aU;omega) (Nat.le_refl _) fun u g1 hu n1 fr1 v1=>?_
 simp only[sz,simprocAttr]
 have hul:∀(g:G) (l:List Int),l.length=n.nodes.length->Own g g0.nx u 1 (l.map ci)->∀g2:G,eO .slice u g2=.val (.int .i64 (n.nodes.length:Int)):=fun g l hl ho g2=>by rw[bJ ho.rows];simp[hl]
 obtain ⟨INV,hINV⟩:∃INV:Nat->PT,INV=(fun m t df g=>df=[]/\∃(j:Nat) (vs:List Int),m=S.am n - j/\j<S.am n/\InC (S.aa n) vs/\S.af (S.aa n) vs=(j:Int)/\St t (LM id n.grain b fl S_ w u j)/\Own g g0.nx u 1 (vs.map ci)/\J j g.h/\g0.nx<=g.nx):=⟨_,rfl⟩
 refine oq INV (S.am n) ?_ ?_
 ·rw[hINV]
  exact ⟨rfl,0,List.replicate n.nodes.length 0,rfl,by omega,by rw[<-hcl];exact EG hcs1,by rw[uw];rfl,by simp[St,LM,sx],by simpa [ci] using hu,hJ 0 _ _ (fun i hi=>fr1 i hi) h0,by omega⟩
 intro m t df g hI
 have hI2:=hI
 rw[hINV] at hI2
 obtain ⟨rfl,j,vs,rfl,hj,hin,hidx,⟨h0,h1,h2,h4,h5,-⟩,ho,hJj,hnx⟩:=hI2
 clear hI
 have hvl:=hin.len
 rw[aI] at hvl
 have hval:S.ah (S.aa n) (j:Int)=vs:=by rw[<-hidx];exact Av hcs1 hin
 have hvu:vid u=some g0.nx:=v1
 have hsl:SlR (fun i=>g0.nx<=i/\i<g.nx) 0 g.h vs u:=Own.sl (α:=Int) ho (by omega) (All2.of_map (fun a=>a_.2 rfl) _) fun i hi=>ho.lt hi
 have hmt:=A_ (d:=d) (g:=g) (v:=u) (w:=w) (vals:=vs) (e:=e) hd hsl (hw.tree (h':=g.h) (Nat.le_refl 0)) (by omega)
 have hlu:=hul g vs hvl ho
 have w1:IntKind.wrap .i64 ((n.nodes.length:Int) - 1)=(n.nodes.length:Int) - 1:=aA (by omega) (by omega)
 obtain ⟨R,hR⟩:∃R,R=sQ [oM 28 4,oN 29 28,o 30 (.bin .sub (.t 29) (qI 1)),oM 6 30] (.seq (.blk 2 (.loop bg)) be):=⟨_,rfl⟩
 simp only[cT]
 rw[<-hR,cN,iT]
 obtain ⟨Q1,hQ1⟩:∃Q1,Q1=kB 1 (kS (wp C0 d none bC (kL INV (S.am n - j) (kB 0 Qf))) (kL INV (S.am n - j) (kB 0 Qf))):=⟨_,rfl⟩
 rw[<-hQ1]
 have rest:∀(t:T) (g:G),St t (LM id n.grain b fl S_ w u j)->Own g g0.nx u 1 (vs.map ci)->J (j+1) g.h->g0.nx<=g.nx->wp C0 d none R Q1 t [] g:=by
  rintro t g ⟨h0,h1,h2,h4,h5,-⟩ ho hJj hnx
  rw[hR,hQ1]
  simp only[sz,simprocAttr,h4,hlu,w1]
  refine CU (id:=id) (k:=j) (m:=n.nodes.length) (n:=n) (b:=b) (fl:=fl) (S_:=S_) (w:=w) (u:=u) (vs:=vs) (g0:=g0) hr hN hin (Nat.le_refl _) ⟨by simp[sx],by simp[St,LM,sx,h0,h1,h2,h4,h5],?_,fun i c hi hc=>?_⟩ ?_
  ·rw[List.take_of_length_le (by omega),show vs.length - n.nodes.length=0 by omega]
   simpa using ho
  ·have:=(List.getElem?_eq_some_iff.1 hc).1
   omega
  rintro m' t2 g2 hm' ⟨h6,⟨h0,h1,h2,h4,h5,-⟩,ho2,hmx⟩ hn2 hf2 hcase
  have hJ2:J (j+1) g2.h:=hJ _ _ _ (fun i hi=>hf2 i fun e=>by rw[hvu] at e;injection e with e;omega) hJj
  rcases hcase with rfl | ⟨x,c,hx,hc,hxc,hm0⟩
  ·have hlast:j+1=S.am n:=by
    have:=xW (cs:=S.aa n) (vs:=vs) hin.len.symm fun i c hc=>hmx i c (Nat.zero_le _) hc
    omega
   have c1:(((0:Nat):Int) - 1<0):=by omega
   rw[hQf]
   simp only[sz,simprocAttr,be,aC,h6,c1]
   rw[hlast] at hJ2
   exact fin g2 hJ2 (by omega)
  ·obtain ⟨i,rfl⟩:∃i,m'=i+1:=⟨m' - 1,by omega⟩
   rw[Nat.add_sub_cancel] at hx hc
   have hil:=(List.getElem?_eq_some_iff.1 hx).1
   have e1:((i+1:Nat):Int) - 1=(i:Int):=by omega
   rw[e1] at h6
   have c1:¬((i:Int)<0):=by omega
   have u1:i<((vs.take (i+1)++List.replicate (vs.length - (i+1)) 0).map ci).length:=by simp;omega
   have u2:((vs.take (i+1)++List.replicate (vs.length - (i+1)) 0).map ci)[i]?=some (ci x):=by
    rw[List.getElem?_map,List.getElem?_append_left (by simp;omega),List.getElem?_take_of_lt (by omega),hx];rfl
   have ru:=ho2.rows
   obtain ⟨x',hx',hx0,hx1⟩:=hin.get hc
   rw[Cn hx' hx] at hx0 hx1
   have hcb:=hr.cs c (List.mem_of_getElem? hc)
   have w2:IntKind.wrap .i64 (x+1)=x+1:=aA (by omega) (by omega)
   simp only[sz,simprocAttr,be,h6,c1,h4,ru,u1,u2,ci,w2]
   refine bX (v:=u) (sz:=1) (n:=1) (i:=i) (off:=0) (x:=.int .i64 (x+1)) (row':=ci (x+1)) ho2 u2 rfl rfl rfl fun g4 hu4 n4 f4=>?_
   rw[<-List.map_set,yb hil] at hu4
   have hin2:=EY hin hcs1 hx hc hxc
   have hidx2:=EL (cs:=S.aa n) (vs:=vs) hin.len.symm hx fun k c hk hc=>hmx k c (by omega) hc
   rw[hidx] at hidx2
   have hlt2:=di hr.cs hin2
   have w3:IntKind.wrap .i64 ((j:Int)+1)=((j+1:Nat):Int):=by rw[aA (by omega) (by omega)];rfl
   simp only[sz,simprocAttr,bC,h5,w3]
   refine ⟨S.am n - (j+1),by omega,?_⟩
   rw[hINV]
   refine ⟨rfl,j+1,_,rfl,by omega,hin2,by rw[hidx2];rfl,by simp[St,LM,sx,h0,h1,h2,h4],hu4,hJ _ _ _ (fun i hi=>f4 i fun e=>by rw[hvu] at e;injection e with e;omega) hJ2,by omega⟩
 cases hm:S.jm vs e with
 | false =>
  rw[hm] at hmt
  rw[cN]
  simp only[sz,simprocAttr,h4,h2,jt,hmt]
  exact rest _ _ (by simp[St,LM,sx,h0,h1,h2,h4,h5]) ho (skip j _ hj (by rw[hval];exact hm) hJj) hnx
 | true =>
  rw[hm] at hmt
  rw[cN]
  have hwt:=Dz (d:=d) (g:=g) (v:=.agg [.int .i64 n.grain,b,fl,S_]) (w:=u) (vals:=vs) (y:=y) hd hr ⟨_,rfl,Rp.tree hcs (Nat.le_refl 0)⟩ hq hsl hin
  simp only[sz,simprocAttr,h0,h1,h5,h4,h2,jt,hmt,hwt,Il (a:=.int .i64 (j:Int)) (b:=.int .i64 (S.aG n vs)) ⟨rfl,rfl⟩ ⟨rfl,rfl⟩ ho.cell]
  have st:=fun K' D=>step j u g K' D hj (by rw[hval];exact hm) hnx hJj (by rw[hval];exact hsl)
  rw[hval] at st
  show (cx (I C0) d id [.agg [.int .i64 (j:Int),.int .i64 (S.aG n vs),u]] g).sat _ _ _
  refine st _ _ (fun g' hJ' hn' hf'=>?_) fun g' hE=>?_
  ·simp only[sz,simprocAttr]
   exact rest _ _ (by simp[St,LM,sx,h0,h1,h2,h4,h5]) (ho.fr hn' fun i hi=>hf' i (ho.lt hi).1 (ho.lt hi).2) hJ' (by omega)
  ·rw[hQ1,hQf]
   simp only[sz,simprocAttr,aC]
   exact finE g' hE
theorem Dc {C:Cfg}{d id nt:Nat}{t:T}{ps:List Nat}{assign body:Code}{a b:SC}{dfr:Nat}{args:List AV}{g:G}{K:AV->G->Prop}{D:ADf->Prop}{t':T}
  (hg:g.h.get id=.loop nt t ps assign body dfr .ready none) (ha:dy C nt assign=a) (hb:dy C nt body=b) (hp:cL t nt ps args=some t')
  (h:wp C d (some id) a (fun e t1 df g1=>e=.norm/\df=[]/\g1.h.get id=.loop nt t ps assign body dfr .ready none /\
   wp C d (some id) b (fun e _ df g2=>df=[]/\g2.h.get id=.loop nt t ps assign body dfr .busy none/\((e=.norm/\K (.bool true) (g2.put id (.loop nt t ps assign body dfr .ready none)))\/(e=.ret/\K (.bool false) (g2.put id (.loop nt t ps assign body dfr .done (some .ret))))))
    t1 [] (g1.put id (.loop nt t ps assign body dfr .busy none))) t' [] g) :
  (cx (I C) d id args g).sat K g D:=by
 subst ha;subst hb
 unfold cx
 rw[show g.get id=_ from hg]
 dsimp only
 rw[hp]
 dsimp only
 have h1:=pe h
 cases hc:(I C).code nt d (some id) assign t' [] g with
 | fail=>rw[hc] at h1;exact h1.elim
 | ok e t1 df g1 =>
  rw[hc] at h1
  obtain ⟨rfl,rfl,hg1,h2⟩:=h1
  dsimp only
  rw[show g1.get id=_ from hg1]
  dsimp only
  have h3:=pe h2
  cases hc2:(I C).code nt d (some id) body t1 [] (g1.put id (.loop nt t ps assign body dfr .busy none)) with
  | fail=>rw[hc2] at h3;exact h3.elim
  | ok e t2 df2 g2 =>
   rw[hc2] at h3
   obtain ⟨rfl,h4,h5⟩:=h3
   dsimp only
   rw[show g2.get id=_ from h4]
   rcases h5 with ⟨rfl,h5⟩ | ⟨rfl,h5⟩<;>exact h5
theorem y5:C0.ext N.ae=none:=by kernel_rfl
theorem wR {d nt p r:Nat}{n:Net}{y:QnM}{e:List Int}{cs:List AV}{w:AV}{ca cb:SC}{Q:QT}{t:T}{df:List ADf}{g:G}(hd:0<d)(hr:NR n)(hq:QnOk n y)(hcs:Rp.rp NoP 0 .nil y cs)(hw:SlR NoP 0 .nil e w)(hel:e.length<=n.nodes.length)
  (hv:tat t r=.clo N.ae [] [.tptr 0 4 [cs] 0 0,.tptr 0 1 [[w]] 0 0]) (hp:p<nt)
  (J:Nat->H->Prop) (E:H->Prop) (hJ:∀j h h',(∀i,i<g.nx->h'.get i=h.get i)->J j h->J j h') (hE:∀h h',(∀i,i<g.nx->h'.get i=h.get i)->E h->E h') (h0:J 0 g.h)
  (skip:∀(j:Nat) (h:H),j<S.am n->S.jm (S.ah (S.aa n) j) e=false->J j h->J (j+1) h)
  (step:∀(j:Nat) (u:AV) (g1:G),j<S.am n->S.jm (S.ah (S.aa n) j) e=true->J j g1.h->g.nx+2<=g1.nx->SlR (fun i=>g.nx+2<=i/\i<g1.nx) 0 g1.h (S.ah (S.aa n) j) u ->
   wp C0 d (some (g.nx+1)) ca (fun e t1 df g1'=>e=.norm/\df=[]/\Fr g1 g1'/\∀g2:G,g2.nx=g1'.nx->(∀i,i≠g.nx+1->g2.h.get i=g1'.h.get i) ->
    wp C0 d (some (g.nx+1)) cb (fun e _ df g3=>df=[]/\RowQ g.nx g2 g3 e (J (j+1) g3.h) (E g3.h)) t1 [] g2)
    (ig t p (.agg [.int .i64 (j:Int),.int .i64 (S.aG n (S.ah (S.aa n) j)),u])) [] g1)
  (fin:∀g',J (S.am n) g'.h->g.nx+2<=g'.nx->g'.h.get g.nx=.dfr true->Q .norm t (.mark g.nx::df) g')
  (finE:∀g',E g'.h->g.nx+2<=g'.nx->g'.h.get g.nx=.dfr true->Q .ret t (.mark g.nx::df) g') :
  wp C0 d none (.rng nt (.t r) [p] ca cb) Q t df g:=by
 obtain ⟨b,fl,S_,rfl,-,-,-⟩:=rh.1 hcs
 rw[hq.net] at hv hcs
 refine vg (fn:=N.ae) (first:=[]) (cap:=[.tptr 0 4 [[.int .i64 n.grain,b,fl,S_]] 0 0,.tptr 0 1 [[w]] 0 0]) (s:=aC) hv y5 i_ (by simp[aC]) ?_
 intro assign body ha hb
 have e1:((g.new (.dfr true)).new (.loop nt t [p] assign body g.nx .ready none)).nx=g.nx+2:=by simp
 refine CD (g0:=(g.new (.dfr true)).new (.loop nt t [p] assign body g.nx .ready none)) (id:=g.nx+1) hd hr hq hcs hw hel
  (fun j h=>J j h/\h.get g.nx=.dfr true/\h.get (g.nx+1)=.loop nt t [p] assign body g.nx .ready none)
  (fun g'=>E g'.h/\g'.h.get g.nx=.dfr true/\g'.h.get (g.nx+1)=.loop nt t [p] assign body g.nx .done (some .ret)/\g.nx+2<=g'.nx) ?_ ?_ ?_ ?_ ?_ ?_
 ·rintro j h h' hh ⟨a1,a2,a3⟩
  rw[e1] at hh
  exact ⟨hJ j h h' (fun i hi=>hh i (by omega)) a1,by rw[hh _ (by omega),a2],by rw[hh _ (by omega),a3]⟩
 ·rintro j h hj hm ⟨a1,a2,a3⟩
  exact ⟨skip j h hj hm a1,a2,a3⟩
 ·rintro j u g1 K' D hj hm hn ⟨a1,a2,a3⟩ hsl kk kE
  rw[e1] at hn kk hsl
  refine Dc a3 ha hb (t':=ig t p (.agg [.int .i64 (j:Int),.int .i64 (S.aG n (S.ah (S.aa n) j)),u])) ?_ ?_
  ·simp only[cL,aa,Nat.blt_eq,if_pos hp];rfl
  ·refine dl _ (step j u g1 hj hm a1 (by omega) hsl) ?_
   rintro e t1 df g1' ⟨rfl,rfl,hfr,h⟩
   have hl0:g.nx+1<g1.nx:=by omega
   have hl:g.nx+1<g1'.nx:=Nat.lt_of_lt_of_le hl0 hfr.1
   have a2':g1'.h.get g.nx=.dfr true:=by rw[hfr.2 _ (by omega),a2]
   have a3':g1'.h.get (g.nx+1)=.loop nt t [p] assign body g.nx .ready none:=by rw[hfr.2 _ hl0,a3]
   refine ⟨rfl,rfl,a3',?_⟩
   refine dl _ (h (g1'.put (g.nx+1) (.loop nt t [p] assign body g.nx .busy none)) (by simp) (fun i hi=>by simp[H.get_put,hi])) ?_
   rintro e t2 df g3 ⟨rfl,⟨b2,b3,b1⟩⟩
   have b4:g3.h.get (g.nx+1)=.loop nt t [p] assign body g.nx .busy none:=by rw[b3 _ (by omega) (by simpa using hl)];simp[H.get_put]
   have b5:g3.h.get g.nx=.dfr true:=by
    rw[b3 _ (by omega) (by simp;omega)];simp[H.get_put,a2']
   refine ⟨rfl,b4,?_⟩
   have b2':g1'.nx<=g3.nx:=by simpa using b2
   have hf1:=hfr.1
   rcases b1 with ⟨rfl,b1⟩ | ⟨rfl,b1⟩
   ·refine .inl ⟨rfl,kk _ ⟨hJ _ g3.h _ (fun i hi=>by simp[H.get_put,show ¬i=g.nx+1 by omega]) b1,?_,?_⟩ (by simp;omega) fun i h1 h2=>?_⟩
    ·simp[H.get_put,b5]
    ·simp[H.get_put]
    ·have hne:¬i=g.nx+1:=by omega
     have:=b3 i (by omega) (by simp;omega)
     simp[H.get_put,hne] at this ⊢
     rw[this,hfr.2 i h2]
   ·refine .inr ⟨rfl,kE _ ⟨hE g3.h _ (fun i hi=>by simp[H.get_put,show ¬i=g.nx+1 by omega]) b1,?_,?_,?_⟩⟩
    ·simp[H.get_put,b5]
    ·simp[H.get_put]
    ·simp;omega
 ·refine ⟨hJ 0 g.h _ (fun i hi=>?_) h0,?_,?_⟩
  ·simp[H.get_put,show ¬i=g.nx+1 by omega,show ¬i=g.nx by omega]
  ·simp[H.get_put]
  ·simp[H.get_put]
 ·rintro g' ⟨a1,a2,a3⟩ hn
  rw[e1] at hn
  refine ⟨_,_,_,_,_,_,.inl ⟨a3,fin _ (hJ _ g'.h _ (fun i hi=>by simp[H.get_put,show ¬i=g.nx+1 by omega]) a1) (by simpa using hn) ?_⟩⟩
  simp[H.get_put,a2]
 ·rintro g' ⟨a1,a2,a3,hn⟩
  refine ⟨_,_,_,_,_,_,.inr ⟨a3,finE _ (hE g'.h _ (fun i hi=>by simp[H.get_put,show ¬i=g.nx+1 by omega]) a1) (by simpa using hn) ?_⟩⟩
  simp[H.get_put,a2]
theorem yc {n:Net}(h:NR n){p:Nat->Bool}{j:Nat}(hj:j<=1024):0<=S.a9 n p j/\S.a9 n p j<=171992678400000000:=by
 have:=tQ h p j
 omega
theorem Cs (g:G)(o o':AObj):Fr g ((g.new o).put g.nx o'):=⟨by simp,fun i hi=>by simp[H.get_put,show ¬i=g.nx by omega]⟩
def Ih (pm:List Nat)(ws:List (Bool×Bool)):Bool:=(List.range ws.length).all fun j=>(List.range j).all fun i=>!(ws.getD i (false,false)).2 || !(ws.getD j (false,false)).1 || (pm.getD j 0).testBit i
theorem sL {pm:List Nat}{i:Nat}{x:Foot}:∀{r:List Foot} {j:Nat},(∀b y,r[b]?=some y->y.wr=[]\/(pm.getD (j+b) 0).testBit i=true)->bK pm i x j r=0
 | [],_,_=>rfl
 | y::r,j,h=>by
  have h0:=h 0 y rfl
  have ih:bK pm i x (Nat.succ j) r=0:=sL fun b z hz=>by
   have:=h (b+1) z (by simpa using hz)
   rwa [show j+(b+1)=Nat.succ j+b by omega] at this
  have hc:((pm.getD j 0).testBit i || !meets y.wr (fst1 x.lk.sr))=true:=by
   rcases h0 with h0 | h0
   ·rw[h0];simp[meets]
   ·rw[Nat.add_zero] at h0;rw[h0,Bool.true_or]
  rw[bK,aa,if_pos hc,ih]
theorem wI {pm:List Nat}:∀{l:List Foot} {i:Nat},(∀a x,l[a]?=some x->x.lk.sr=[]\/∀b y,a<b->l[b]?=some y->y.wr=[]\/(pm.getD (i+b) 0).testBit (i+a)=true)->iC pm i l=true
 | [],_,_=>rfl
 | x::r,i,h=>by
  have ih:iC pm (Nat.succ i) r=true:=wI fun a y hy=>by
   rcases h (a+1) y (by simpa using hy) with h' | h'
   ·exact .inl h'
   ·refine .inr fun b z hb hz=>?_
    have:=h' (b+1) z (by omega) (by simpa using hz)
    rwa [show i+(b+1)=Nat.succ i+b by omega,show i+(a+1)=Nat.succ i+a by omega] at this
  rw[iC,ih]
  rcases h 0 x rfl with h' | h'
  ·rw[h'];first | done | rfl
  ·have hc:bK pm i x (Nat.succ i) r=0:=sL fun b y hy=>by
    have:=h' (b+1) y (by omega) (by simpa using hy)
    rwa [show i+(b+1)=Nat.succ i+b by omega,Nat.add_zero] at this
   rw[hc]
   cases x.lk.sr<;>rfl
theorem sD {pm:List Nat}{fs:List Foot}(ws:List (Bool×Bool))(L:List (Nat×Nat))(hw:All2 (fun (f:Foot) (w:Bool×Bool)=>(w.2=false->f.lk.sr=[])/\(w.1=false->f.wr=[])) fs ws)(hs:Ih pm ws=true)(hd:Bp pm (ws.map (·.1)) L=true)
  (hL:∀p∈L,∀x y,fs[p.1]?=some x->fs[p.2]?=some y->bS x y=true):jh pm fs=true:=by
 unfold jh
 rw[aa,if_pos]
 ·refine wI fun a x ha=>?_
  obtain ⟨wa,hwa,ka⟩:=hw.get ha
  cases e:wa.2 with
  | false=>exact .inl (ka.1 e)
  | true =>
   refine .inr fun b y hab hb=>?_
   obtain ⟨wb,hwb,kb⟩:=hw.get hb
   have hbl:=(List.getElem?_eq_some_iff.1 hwb).1
   have:=List.all_eq_true.1 (List.all_eq_true.1 hs b (List.mem_range.2 hbl)) a (List.mem_range.2 hab)
   simp only[List.getD_eq_getElem?_getD,hwa,hwb,Option.getD_some,e,Bool.not_true,Bool.false_or,Bool.or_eq_true,Bool.not_eq_true'] at this
   rcases this with h | h
   ·exact .inl (kb.2 h)
   ·refine .inr ?_
    rw[Nat.zero_add,Nat.zero_add,List.getD_eq_getElem?_getD];exact h
 ·refine o_ fun a b x y hab ha hb=>?_
  simp only[Nat.zero_add]
  obtain ⟨wa,hwa,ka⟩:=hw.get ha
  obtain ⟨wb,hwb,kb⟩:=hw.get hb
  have hbl:=(List.getElem?_eq_some_iff.1 hwb).1
  have:=List.all_eq_true.1 (List.all_eq_true.1 hd b (List.mem_range.2 (by simpa using hbl))) a (List.mem_range.2 hab)
  simp only[A0,Bool.or_eq_true] at this
  rcases this with (h | h) | h
  ·rw[h,Bool.true_or]
  ·simp only[List.getD_eq_getElem?_getD,List.getElem?_map,hwa,hwb,Option.map_some,Option.getD_some,Bool.and_eq_true,Bool.not_eq_true'] at h
   have ex:=ka.2 h.1
   have ey:=kb.2 h.2
   simp only[bS,iL,fH,ex,ey,Bool.and_self,Bool.or_true]
  ·rw[hL (a,b) (List.contains_iff_mem.1 h) x y ha hb,Bool.or_true]
section
variable {α:Type} [DecidableEq α]
def mgt (L:List (α×Int))(k:α):Int:=match L with
 | []=>0
 | (a,v)::r=>if k=a then v else mgt r k
def mst (k:α)(v:Int):List (α×Int)->List (α×Int)
 | []=>[(k,v)]
 | (a,w)::r=>if k=a then (k,v)::r else (a,w)::mst k v r
theorem BQ (k j:α)(v:Int):∀L:List (α×Int),mgt (mst k v L) j=if j=k then v else mgt L j
 | []=>by simp only[mst,mgt]
 | (a,w)::r=>by
  rw[mst]
  by_cases e:k=a
  ·subst e
   rw[if_pos rfl,mgt,mgt]
   by_cases e2:j=k
   ·rw[if_pos e2,if_pos e2]
   ·rw[if_neg e2,if_neg e2,if_neg e2]
  ·rw[if_neg e,mgt,BQ k j v r,mgt]
   by_cases e2:j=a
   ·rw[if_pos e2,if_pos e2,if_neg (fun h=>e (by rw[<-h,e2]))]
   ·rw[if_neg e2,if_neg e2]
def mcl (kf:α->AV)(L:List (α×Int)):List (AV×AV):=L.map fun p=>(kf p.1,.int .i64 p.2)
theorem BC {kf:α->AV}(hk:∀a b,gO (kf a) (kf b)=some (decide (a=b)))(k:α):∀L:List (α×Int),je (kf k) (mcl kf L)=some (if L.any (fun p=>decide (k=p.1)) then some (.int .i64 (mgt L k)) else none)
 | []=>rfl
 | (a,w)::r=>by
  rw[mcl,List.map_cons,je,hk]
  by_cases e:k=a
  ·subst e;simp[mgt]
  ·have ih:=BC hk k r
   rw[mcl] at ih
   simp only[decide_eq_false e]
   rw[ih,List.any_cons,mgt,if_neg e,decide_eq_false e,Bool.false_or]
theorem zh (k:α):∀L:List (α×Int),L.any (fun p=>decide (k=p.1))=false->mgt L k=0
 | [],_=>rfl
 | (a,w)::r,h=>by
  rw[List.any_cons,Bool.or_eq_false_iff] at h
  rw[mgt,if_neg (of_decide_eq_false h.1),zh k r h.2]
theorem Ff {kf:α->AV}(hk:∀a b,gO (kf a) (kf b)=some (decide (a=b)))(k:α)(x:Int):∀L:List (α×Int),yP (kf k) (.int .i64 x) (mcl kf L)=some (mcl kf (mst k x L))
 | []=>rfl
 | (a,w)::r=>by
  rw[mcl,List.map_cons,yP,hk,mst]
  by_cases e:k=a
  ·subst e;simp[mcl]
  ·have ih:=Ff hk k x r
   rw[mcl] at ih
   simp only[decide_eq_false e,if_neg e,ih]
   rfl
theorem DV {kf:α->AV}(hk:∀a b,gO (kf a) (kf b)=some (decide (a=b))){kk:KeyKind}{m k:T->AV}{t:T}{g:G}{id:Nat}{a:α}{L:List (α×Int)}(h1:m t=.hmap id)(h2:k t=kf a)(ho:ja kk (kf a)=true)(hg:g.h.get id=.map (mcl kf L)) :
  bF kk (.int .i64 0) false m k t g=.val (.int .i64 (mgt L a)):=by
 unfold bF
 rw[h1,h2,ho]
 simp only[G.get_eq,hg,BC hk]
 cases h:L.any (fun p=>decide (a=p.1)) with
 | true=>simp
 | false=>simp[zh a L h]
theorem Ft {kf:α->AV}(hk:∀a b,gO (kf a) (kf b)=some (decide (a=b))){kk:KeyKind}{m k x:T->AV}{t:T}{g:G}{id:Nat}{a:α}{v:Int}{L:List (α×Int)}(h1:m t=.hmap id)(h2:k t=kf a)(h3:x t=.int .i64 v)(ho:ja kk (kf a)=true)(hg:g.h.get id=.map (mcl kf L)) :
  bD kk m k x t g=.upd .undef (g.put id (.map (mcl kf (mst a v L)))):=by
 unfold bD
 rw[h1,h2,h3,ho]
 simp only[G.get_eq,hg,Ff hk]
end
def ik (a:Int):AV:=.int .i64 a
theorem Hv (a b:Int):gO (ik a) (ik b)=some (decide (a=b)):=by
 show some (C_ a b)=_
 rw[rk]
theorem FO (d:Nat)(rd:Option Nat)(t:T)(g:G):(SO.raw (.makeMap tII none)).run C0 d rd t g=.upd (.hmap g.nx) (g.new (.map [])):=by kernel_rfl
theorem At {d:Nat}{rd:Option Nat}{t:T}{g:G}{a b id:Nat}{k:Int}{L:List (Int×Int)}{op:Op}(hr:(SO.raw op).run C0 d rd t g=bF (.one (.int .i64)) (.int .i64 0) false (fun t=>tat t a) (fun t=>tat t b) t g)(h1:tat t a=.hmap id)(h2:tat t b=.int .i64 k)(hg:g.h.get id=.map (mcl ik L)):(SO.raw op).run C0 d rd t g=.val (.int .i64 (mgt L k)):=by
 rw[hr];exact DV Hv h1 h2 rfl hg
theorem Ai {d:Nat}{rd:Option Nat}{t:T}{g:G}{a b c id:Nat}{k x:Int}{L:List (Int×Int)}{op:Op}(hr:(SO.raw op).run C0 d rd t g=bD (.one (.int .i64)) (fun t=>tat t a) (fun t=>tat t b) (fun t=>tat t c) t g)(h1:tat t a=.hmap id)(h2:tat t b=.int .i64 k)(h3:tat t c=.int .i64 x)(hg:g.h.get id=.map (mcl ik L)):(SO.raw op).run C0 d rd t g=.upd .undef (g.put id (.map (mcl ik (mst k x L)))):=by
 rw[hr];exact Ft Hv h1 h2 h3 rfl hg
theorem z5 {C:Cfg}{ty kt et a b:Nat}{z:AV}{ok:Bool}(hu:C.P.underlying ty=some (.map kt et))(hz:pQ C.P et=some z)(d:Nat)(rd:Option Nat)(t:T)(g:G):(SO.raw (.lookup ty (.tmp a) (.tmp b) ok)).run C d rd t g=bF (cp C.P kt) z ok (fun t=>tat t a) (fun t=>tat t b) t g:=by
 obtain ⟨s1,e1,r1⟩:=aS (C:=C) (x:=.tmp a) (o:=.t a) rfl
 obtain ⟨s2,e2,r2⟩:=aS (C:=C) (x:=.tmp b) (o:=.t b) rfl
 show (bW C _).run (I C) d rd t g=_
 rw[bj (s:=⟨bF (cp C.P kt) z ok s1.run s2.run⟩) rfl (by simp only[bH,e1,e2,hu,hz])]
 rw[show s1.run=fun t=>tat t a from funext r1,show s2.run=fun t=>tat t b from funext r2]
theorem Az {C:Cfg}{ty kt et a b c:Nat}(hu:C.P.underlying ty=some (.map kt et))(d:Nat)(rd:Option Nat)(t:T)(g:G):(SO.raw (.mapUpdate ty (.tmp a) (.tmp b) (.tmp c))).run C d rd t g=bD (cp C.P kt) (fun t=>tat t a) (fun t=>tat t b) (fun t=>tat t c) t g:=by
 obtain ⟨s1,e1,r1⟩:=aS (C:=C) (x:=.tmp a) (o:=.t a) rfl
 obtain ⟨s2,e2,r2⟩:=aS (C:=C) (x:=.tmp b) (o:=.t b) rfl
 obtain ⟨s3,e3,r3⟩:=aS (C:=C) (x:=.tmp c) (o:=.t c) rfl
 show (bW C _).run (I C) d rd t g=_
 rw[bj (s:=⟨bD (cp C.P kt) s1.run s2.run s3.run⟩) rfl (by simp only[bH,e1,e2,e3,hu])]
 rw[show s1.run=fun t=>tat t a from funext r1,show s2.run=fun t=>tat t b from funext r2,show s3.run=fun t=>tat t c from funext r3]
theorem xh {C:Cfg}{ty a b:Nat}(t:T)(g:G):SO.foot C t g (.raw (.lookup ty (.tmp a) (.tmp b) false))=⟨[],(af (tat t a)).map (·,ty),[],false⟩:=by
 obtain ⟨s1,e1,r1⟩:=aS (C:=C) (x:=.tmp a) (o:=.t a) rfl
 show (aD C _).run t g=_
 simp only[aD,e1,r1]
 rfl
theorem C4 {C:Cfg}{ty a b c:Nat}(t:T)(g:G):SO.foot C t g (.raw (.mapUpdate ty (.tmp a) (.tmp b) (.tmp c)))=ak (af (tat t a)):=by
 obtain ⟨s1,e1,r1⟩:=aS (C:=C) (x:=.tmp a) (o:=.t a) rfl
 show (aD C _).run t g=_
 simp only[aD,e1,r1]
 rfl
theorem DF:cp C0.P 3=.one (.int .i64):=by kernel_rfl
theorem FH:C0.P.underlying tII=some (.map 3 3):=by kernel_rfl
theorem IJ:pQ C0.P 3=some (.int .i64 0):=by kernel_rfl
theorem BM {d:Nat}{rd:Option Nat}{t:T}{g:G}{a b id:Nat}{k:Int}{L:List (Int×Int)}(h1:tat t a=.hmap id)(h2:tat t b=.int .i64 k)(hg:g.h.get id=.map (mcl ik L)):(SO.raw (.lookup tII (.tmp a) (.tmp b) false)).run C0 d rd t g=.val (.int .i64 (mgt L k)) :=
 At (by rw[z5 FH IJ,DF]) h1 h2 hg
theorem If {d:Nat}{rd:Option Nat}{t:T}{g:G}{a b c id:Nat}{k x:Int}{L:List (Int×Int)}(h1:tat t a=.hmap id)(h2:tat t b=.int .i64 k)(h3:tat t c=.int .i64 x)(hg:g.h.get id=.map (mcl ik L)):(SO.raw (.mapUpdate tII (.tmp a) (.tmp b) (.tmp c))).run C0 d rd t g=.upd .undef (g.put id (.map (mcl ik (mst k x L)))) :=
 Ai (by rw[Az FH,DF]) h1 h2 h3 hg
end
end Hx
end
