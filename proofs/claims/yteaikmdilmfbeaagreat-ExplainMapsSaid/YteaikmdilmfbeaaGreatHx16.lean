/- A part of the proof: an interpreter over abstract values, shown right against the model, and what the functions of the chapter compute on it. -/
import Derived.Test.YteaikmdilmfbeaaGreatHx15
set_option linter.unusedVariables false
set_option linter.unusedSimpArgs false
set_option linter.unnecessarySimpa false
section
namespace Hx
open Go
noncomputable section
abbrev Sch:=Net×List Int×List Int×List Int×Int
theorem J7 {P:Nat->Prop}{k:Nat}{h:H}{n:Net}{v o w:List Int}{m:Int}{cs:List AV}:Rp.rp P k h ((n,v,o,w,m):Sch) cs↔∃a b c d,cs=[.int .i64 n.grain,a,b,c,d,.int .i64 m]/\SlR P k h n.nodes a/\SlR P k h v b/\SlR P k h o c/\SlR P k h w d:=by
 constructor
 ·rintro ⟨c1,c2,rfl,h1,c3,c4,rfl,h2,c5,c6,rfl,h3,c7,c8,rfl,h4,h5⟩;obtain ⟨a,rfl,ha⟩:=cA.1 h1;obtain ⟨b,rfl,hb⟩:=di.1 h2;obtain ⟨c,rfl,hc⟩:=di.1 h3;obtain ⟨d,rfl,hd⟩:=di.1 h4;rw[aV.1 h5];exact ⟨a,b,c,d,rfl,ha,hb,hc,hd⟩
 ·rintro ⟨a,b,c,d,rfl,ha,hb,hc,hd⟩;exact ⟨[.int .i64 n.grain,a],[b,c,d,.int .i64 m],rfl,cA.2 ⟨a,rfl,ha⟩,[b],[c,d,.int .i64 m],rfl,di.2 ⟨b,rfl,hb⟩,[c],[d,.int .i64 m],rfl,di.2 ⟨c,rfl,hc⟩,[d],[.int .i64 m],rfl,di.2 ⟨d,rfl,hd⟩,aV.2 rfl⟩
def S.bH (vars:List Int)(j:Nat):List Int:=((List.range j).map λv:Nat=>(v:Int)).filter λv=>!decide (v∈vars)
def S.bG (n:Net)(vars:List Int):List Int:=S.bH vars n.nodes.length
theorem Bt (vars:List Int)(j:Nat):S.bH vars (j+1)=S.bH vars j++if (j:Int)∈vars then [] else [(j:Int)]:=by
 unfold S.bH;rw[List.range_succ,List.map_append,List.filter_append];congr 1
 by_cases h:(j:Int)∈vars<;>simp[h]
theorem Ap (vars:List Int)(j:Nat):(S.bH vars j).length<=j:=by unfold S.bH;exact Nat.le_trans (List.length_filter_le _ _) (by simp)
def S.bJ (n:Net)(e:List Int)(j w:Nat):Int:=if w<j/\S.pe n e w=false then 0 else S.wt n w
def S.aD (n:Net)(e:List Int)(j:Nat):List Int:=(List.range (S.an n)).map (S.bJ n e j)
def S.bh (n:Net)(e:List Int):List Int:=S.aD n e (S.an n)
theorem Je (n:Net)(e:List Int):S.aD n e 0=S.ay n (S.an n):=by unfold S.aD S.ay;exact List.map_congr_left λw _=>by simp[S.bJ]
theorem pP (n:Net)(e:List Int)(j:Nat):(S.aD n e j).length=S.an n:=by simp[S.aD]
theorem Ml (n:Net)(e:List Int)(j:Nat)(h:j<S.an n):(S.aD n e j)[j]?=some (S.wt n j):=by simp[S.aD,S.bJ,h]
theorem EV {n:Net}{e:List Int}{j:Nat}(h:j<S.an n):S.aD n e (j+1)=if S.pe n e j then S.aD n e j else (S.aD n e j).set j 0:=by
 apply List.ext_getElem?;intro i
 by_cases hi:i<S.an n
 ·by_cases c:S.pe n e j=true
  ·rw[if_pos c];simp only[S.aD,List.getElem?_map,List.getElem?_range hi,Option.map_some,S.bJ];congr 1
   by_cases e1:i=j
   ·subst e1;simp[c]
   ·have:(i<j+1)↔(i<j):=by omega
    simp[this]
  ·rw[if_neg c,List.getElem?_set]
   by_cases e1:j=i
   ·subst e1;rw[if_pos rfl,if_pos (by rw[pP];exact hi)];simp[S.aD,S.bJ,hi,c]
   ·rw[if_neg e1];simp only[S.aD,List.getElem?_map,List.getElem?_range hi,Option.map_some,S.bJ];congr 1;have:(i<j+1)↔(i<j):=by omega
    simp[this]
 ·have a:∀k,(S.aD n e k)[i]?=none:=λk=>List.getElem?_eq_none (by rw[pP];omega);rw[a]
  split
  ·rw[a]
  ·rw[List.getElem?_eq_none];rw[List.length_set,pP];omega
def S.cg (n:Net)(e vars:List Int):Sch:=(n,vars,S.bG n vars,S.bh n e,S.bc n e)
def S.aH (n:Net)(e vars:List Int):Int:=if S.aN n e=0 then (if S.aw vars (n.nodes.length:Int) then 0 else 2) else S.aN n e
def OC:VS:=λ_ _ _ v=>v=.nilp
theorem KU:Snb OC 0:=⟨λ{P k h v n} d r hn=>⟨.nilp,by
  subst r;obtain ⟨n,rfl⟩:∃q,n=q+1:=⟨n - 1,by omega⟩
  rfl,rfl⟩,λ{k h v n} r hn=>⟨0,by
  subst r;obtain ⟨n,rfl⟩:∃q,n=q+1:=⟨n - 1,by omega⟩
  rfl,Nat.zero_le _⟩⟩
theorem Mx {α:Type} [Rp α](x:α)(sz:Nat)(hd:Rp.dp α<=20:=by decide):Snb (Gj x sz) 1 :=
 ⟨λ{P k h v n} d r hn=>by
  obtain ⟨n,rfl⟩:∃q,n=q+1:=⟨n - 1,by omega⟩;exact Dl d r (by omega) hd,λ{k h v n} r hn=>by
  obtain ⟨n,rfl⟩:∃q,n=q+1:=⟨n - 1,by omega⟩;exact GT r⟩
def NsV (n:Net)(e vars:List Int):VS:=if S.aH n e vars=0 then yK (Gj (S.cg n e vars) 6) (One (0:Int)) else yK OC (One (S.aH n e vars))
theorem NJ (n:Net)(e vars:List Int):Snb (NsV n e vars) 2:=by
 unfold NsV
 split
 ·exact f_ (Mx _ _) (aJ _) (by decide) (by decide)
 ·exact f_ KU (aJ _) (by decide) (by decide)
theorem vL (id ep i off:Nat):BZ (.hptr id ep i off)=.val (.hptr id ep i off):=rfl
def LNs (gr:Int)(vw:AV):List (Nat×AV):=[(2,vw),(3,.hptr 0 0 0 0),(4,.hptr 1 0 0 0),(9,.hptr 3 0 0 0)]
structure NsH (gr:Int) (b ev vw u wv:AV) (m:Int) (g:G):Prop where
 h0:g.h.get 0=.cells 2 [[.int .i64 gr,b]] 0 false false
 h1:g.h.get 1=.cells 1 [[ev]] 0 false false
 h2:g.h.get 2=.cells 6 [[.int .i64 gr,b,vw,u,wv,.int .i64 m]] 0 false false
 h3:g.h.get 3=.cells 1 [[.hptr 2 0 0 0]] 0 false false
 nx:4<=g.nx
theorem O5 {d k:Nat}{gr:Int}{b ev vw:AV}{vars:List Int}{m:Nat}{Q:QT}{t:T}{g:G}(hd:0<d)(hm:m<=8)(hv:∀h,SlR NoP k h vars vw)
  (hh:NsH gr b ev vw .nils .nils 0 g) (ht:St t (LNs gr vw)) (h49:tat t 49=.int .i64 0) (h48:tat t 48=.int .i64 (m:Int))
  (fin:∀t g u,St t (LNs gr vw)->NsH gr b ev vw u .nils 0 g->Own g 4 u 1 ((S.bH vars m).map ci)->Q (.exit 2) t [] g):wpL (wp C0 d none dX) Q t [] g:=by
 simp only[dX];refine bk (m:=m) (by omega) (λj t df g=>df=[]/\St t (LNs gr vw)/\∃u,NsH gr b ev vw u .nils 0 g/\Own g 4 u 1 ((S.bH vars j).map ci)) ⟨rfl,ht,.nils,hh,.inl ⟨rfl,rfl⟩⟩ h49 h48 (by decide)
  (by rintro j t df g v s (rfl | rfl | rfl) ⟨a1,⟨b1,b2,b3,b4,-⟩,c1⟩<;>exact ⟨a1,by simp[St,LNs,sx,b1,b2,b3,b4],c1⟩) ?_ ?_
 ·rintro j t df g hj ⟨rfl,⟨h2,h3,h4,h9,-⟩,u,⟨g0,g1,g2,g3,g4⟩,ho⟩ h49 h48;have kc:=λg:G=>Da (d:=d) (g:=g) (x:=(j:Int)) hd (hv g.h);have hl:=Ap vars j
  by_cases c:(j:Int)∈vars
  ·simp only[sz,simprocAttr,h2,h49,kc,c];refine ⟨⟨by simp[St,LNs,sx,h2,h3,h4,h9],u,⟨g0,g1,g2,g3,g4⟩,?_⟩,h48⟩;rw[Bt,if_pos c,List.append_nil];exact ho
  ·simp only[sz,simprocAttr,h2,h49,kc,c,sf,h9,g3,g2,vL];refine rE (ho.fr (g':=_) (by simp<;>omega) (λi hi=>?_)) (new:=[[.int .i64 (j:Int)]]) ?_ (by simp<;>omega) (by simp[aM]<;>omega) λv5 g5 o5 n5 f5 w5 l5=>?_
   ·have:=ho.lt hi;simp[H.get_put];omega
   ·simp[ak,H.get_put];rfl
   have lu:=λi (h:vid u=some i)=>ho.lt h;simp only[sx,sy] at n5 f5 l5;have n5':g.nx<g5.nx:=by omega
   have f6:∀i,i<4->g5.h.get i=g.h.get i:=λi hi=>by rw[f5 i (by omega) λh=>by have:=lu i h;omega];simp;omega
   obtain ⟨vc,vt⟩:=o5.cell;simp only[sz,simprocAttr,sf,f6 3 (by omega),g3,f6 2 (by omega),g2,vL,vc,vt];refine ⟨?_,?_⟩
   ·simp only[List.reverse_cons,List.reverse_nil,List.nil_append,List.cons_append];refine aK [false,false,false,false,false,false,true,true,false,false,true] [(0,6),(1,6),(2,6),(3,6),(4,6),(0,7)] (by simp[All2,ap,aC]) (by decide) ?_;rintro p hp x y hx hy;simp only[List.mem_cons,List.not_mem_nil,or_false] at hp;rcases hp with rfl | rfl | rfl | rfl | rfl | rfl<;>(simp at hx hy;subst hx;subst hy;refine dK rfl rfl rfl rfl ?_ ?_ ?_<;>simp[ap,aC,jO]<;>first | omega | (intro i' hi';rcases l5 i' hi' with h | h | h<;>first | omega | (have:=lu i' h;omega) | simp at h) | skip)
   refine ⟨⟨by simp[St,LNs,sx,h2,h3,h4,h9],v5,⟨by simp[sy,f6 0 (by omega),g0],by simp[sy,f6 1 (by omega),g1],by simp[sy],by simp[sy,f6 3 (by omega),g3],by simp[sy]<;>omega⟩,?_⟩,by simp[sx,h49],by simp[sx,h48]⟩;rw[Bt,if_neg c,List.map_append];exact o5.fr (by simp[sy]<;>omega) λi hi=>by have:=o5.lt hi;simp[sy];omega
 ·rintro t df g ⟨rfl,ht,u,hh,ho⟩;exact fin t g u ht hh ho
theorem OW {d k:Nat}{gr:Int}{b ev vw:AV}{n:Net}{vars:List Int}{Q:QT}{t:T}{g:G}(hr:NR n)(hv:∀h,SlR NoP k h vars vw)(hN:∀h,SlR NoP 0 h n.nodes b)(h0:g.h.get 0=.cells 2 [[.int .i64 gr,b]] 0 false false)
  (ht:St t ((28,vw)::LNs gr vw)) (h10:tat t 10=.int .i64 (-1)) (h30:tat t 30=.int .i64 0) (h29:tat t 29=.int .i64 (vars.length:Int))
  (bad:∀t,S.aw vars (n.nodes.length:Int)=false->tat t 6=.nilp->tat t 7=.int .i64 2->Q .ret t [] g)
  (fin:∀t,S.aw vars (n.nodes.length:Int)=true->St t (LNs gr vw)->Q (.exit 0) t [] g):wpL (wp C0 d none cz) Q t [] g:=by
 have rv:=λh=>(hv h).ints;have lN:∀g:G,dt .slice b g=.val (.int .i64 (n.nodes.length:Int)):=λg=>(hN .nil).len g;have hl8:=hr.l2;simp only[cz];refine bk (m:=vars.length) (hv .nil).1 (λj t df g'=>df=[]/\g'=g/\St t ((28,vw)::LNs gr vw)/\tat t 10=.int .i64 (if j=0 then -1 else vars[j - 1]?.getD 0)/\(List.range j).all (S.aG vars (n.nodes.length:Int))=true) ⟨rfl,rfl,ht,by simpa using h10,by simp⟩ h30 h29 (by decide)
  (by rintro j t df g v s (rfl | rfl | rfl) ⟨a1,a2,⟨b0,b1,b2,b3,b4,-⟩,c1,c2⟩<;>exact ⟨a1,a2,by simp[St,LNs,sx,b0,b1,b2,b3,b4],by simp[sx,c1],c2⟩) ?_ ?_
 ·rintro j t df g' hj ⟨rfl,rfl,⟨h28,h2,h3,h4,h9,-⟩,h10,hall⟩ h30 h29;obtain ⟨x,hx,-,hm⟩:=af hj;have z1:j<(vars.map ci).length:=by simpa using hj
  have z2:(vars.map ci)[j]?=some (ci x):=by rw[List.getElem?_map,hx];rfl
  have hgx:vars[j]?.getD 0=x:=by rw[hx];rfl
  obtain ⟨bf,hbf⟩:∃bf,bf=(if j=0 then (-1:Int) else vars[j - 1]?.getD 0):=⟨_,rfl⟩;rw[<-hbf] at h10;have hbf1:-1<=bf:=by
   rw[hbf];split
   ·omega
   ·have:=List.all_eq_true.1 hall (j - 1) (List.mem_range.2 (by omega));simp only[S.aG,Bool.and_eq_true,decide_eq_true_eq] at this;omega
  have key:S.aG vars (n.nodes.length:Int) j=true↔bf<x/\x<(n.nodes.length:Int):=by
   simp only[S.aG,Bool.and_eq_true,decide_eq_true_eq,hgx,Bool.or_eq_true,beq_iff_eq];rw[hbf]
   by_cases c:j=0
   ·simp only[c,if_true,true_or,and_true];omega
   ·rw[if_neg c] at hbf ⊢;rw[<-hbf];constructor
    ·rintro ⟨⟨a1,a2⟩,a3 | a3⟩
     ·exact absurd a3 c
     ·exact ⟨a3,a2⟩
    ·rintro ⟨a1,a2⟩;have:=List.all_eq_true.1 hall (j - 1) (List.mem_range.2 (by omega));simp only[S.aG,Bool.and_eq_true,decide_eq_true_eq,<-hbf] at this;exact ⟨⟨by omega,a2⟩,.inr a1⟩
  have fl:¬(bf<x/\x<(n.nodes.length:Int))->S.aw vars (n.nodes.length:Int)=false:=λhn=>by rw[Bool.eq_false_iff];intro h;exact hn (key.1 (List.all_eq_true.1 h j (List.mem_range.2 hj)))
  by_cases c1:x<=bf
  ·simp only[sz,simprocAttr,h28,h30,rv,z1,z2,ci,h10,c1];exact bad _ (fl (by omega)) (by simp[sx]) (by simp[sx])
  by_cases c2:(n.nodes.length:Int)<=x
  ·simp only[sz,simprocAttr,h28,h30,rv,z1,z2,ci,h10,c1,h3,h0,lN,c2];exact bad _ (fl (by omega)) (by simp[sx]) (by simp[sx])
  ·simp only[sz,simprocAttr,h28,h30,rv,z1,z2,ci,h10,c1,h3,h0,lN,c2];refine ⟨⟨by simp[St,LNs,sx,h28,h2,h3,h4,h9],?_,?_⟩,h29⟩
   ·simp[hx]
   ·rw[cI,hall,key.2 ⟨by omega,by omega⟩];rfl
 ·rintro t df g' ⟨rfl,rfl,⟨-,ht⟩,-,hall⟩;exact fin t hall ht
theorem OB {d j ke:Nat}{gr m:Int}{b ev vw u wv uu:AV}{e vals:List Int}{mw:List Int}{P:Nat->Prop}{rd:Option Nat}{Q:QT}{t:T}{g:G}(hl:e.length=vals.length)(he:∀h,SlR NoP ke h e ev)(hu:SlR P 0 g.h vals uu)
  (hh:NsH gr b ev vw u wv m g) (ho:Own g 4 wv 1 (mw.map ci)) (hj:j<mw.length)
  (ht:St t ((14,.int .i64 (j:Int))::(15,uu)::(78,ev)::LNs gr vw)) (h80:tat t 80=.int .i64 0) (h79:tat t 79=.int .i64 (e.length:Int))
  (fin:∀t,S.aM vals e=true->St t ((14,.int .i64 (j:Int))::LNs gr vw)->Q (.exit 6) t [] g)
  (bad:∀t g',S.aM vals e=false->St t (LNs gr vw)->Own g' 4 wv 1 ((mw.set j 0).map ci)->g'.nx=g.nx->(∀i,vid wv≠some i->g'.h.get i=g.h.get i)->Q (.exit 5) t [] g'):wpL (wp C0 d rd dN) Q t [] g:=by
 have re:=λh=>(he h).ints;have ru:=hu.ints;obtain ⟨g0,g1,g2,g3,g4⟩:=hh;simp only[dN];refine bk (m:=e.length) (he .nil).1 (λi t df g'=>df=[]/\g'=g/\St t ((14,.int .i64 (j:Int))::(15,uu)::(78,ev)::LNs gr vw)/\(List.range i).all (S.bD vals e)=true) ⟨rfl,rfl,ht,by simp⟩ h80 h79 (by decide)
  (by rintro j t df g v s (rfl | rfl | rfl) ⟨a1,a2,⟨c1,c2,c3,b1,b2,b3,b4,-⟩,c⟩<;>exact ⟨a1,a2,by simp[St,LNs,sx,c1,c2,c3,b1,b2,b3,b4],c⟩) ?_ ?_
 ·rintro i t df g' hi ⟨rfl,rfl,⟨h14,h15,h78,h2,h3,h4,h9,-⟩,hall⟩ h80 h79;obtain ⟨x,hx,-,hm⟩:=af hi;obtain ⟨y,hy,-,-⟩:=af (l:=vals) (j:=i) (by omega);have z1:i<(e.map ci).length:=by simpa using hi
  have z2:(e.map ci)[i]?=some (ci x):=by rw[List.getElem?_map,hx];rfl
  have y1:i<(vals.map ci).length:=by rw[List.length_map];omega
  have y2:(vals.map ci)[i]?=some (ci y):=by rw[List.getElem?_map,hy];rfl
  have key:S.bD vals e i=true↔x<0\/x=y:=by simp only[S.bD,hx,hy,Option.getD_some,Bool.or_eq_true,decide_eq_true_eq]
  by_cases c1:(0:Int)<=x
  ·by_cases c2:x=y
   ·simp only[sz,simprocAttr,h78,h80,re,z1,z2,ci,c1,h15,ru,y1,y2,c2];have c1':(0:Int)<=y:=by omega
    simp only[sz,simprocAttr,c1',h15,ru,y1,y2,ci];refine ⟨⟨by simp[St,LNs,sx,h14,h15,h78,h2,h3,h4,h9],?_⟩,by simp[sx,h80],by simp[sx,h79]⟩;rw[cI,hall,key.2 (.inr c2)];rfl
   ·have q1:j<(mw.map ci).length:=by rw[List.length_map];exact hj
    obtain ⟨z,hz,-,-⟩:=af hj;have q2:(mw.map ci)[j]?=some (ci z):=by rw[List.getElem?_map,hz];rfl
    simp only[sz,simprocAttr,h78,h80,re,z1,z2,ci,c1,h15,ru,y1,y2,c2,h9,g3,g2,vL,h14,ho.rows,q1];refine qm (v:=wv) (sz:=1) (n:=1) (i:=j) (off:=0) (x:=.int .i64 0) (row:=ci z) (row':=ci 0) ho q2 rfl rfl rfl λg5 o5 n5 f5 u5=>?_;rw[<-List.map_set] at o5;simp only[sz,simprocAttr];refine bad _ g5 ?_ (by simp[St,LNs,sx,h2,h3,h4,h9]) o5 n5 f5;rw[Bool.eq_false_iff];intro h;rcases key.1 (List.all_eq_true.1 h i (List.mem_range.2 hi)) with h | h
    ·omega
    ·exact c2 h
  ·simp only[sz,simprocAttr,h78,h80,re,z1,z2,ci,c1];refine ⟨⟨by simp[St,LNs,sx,h14,h15,h78,h2,h3,h4,h9],?_⟩,h79⟩;rw[cI,hall,key.2 (.inl (by omega))];rfl
 ·rintro t df g' ⟨rfl,rfl,⟨h14,-,-,ht⟩,hall⟩;exact fin t hall ⟨h14,ht⟩
theorem I8 {C:Cfg}{d:Nat}{rd:Option Nat}{a b:SC}{Q:QT}{t:T}{df:List ADf}{g:G}{P:PT}(h1:wp C d rd a (λe t df g=>e=.norm/\P t df g) t df g)(h2:∀t df g,P t df g->wp C d rd b Q t df g):wp C d rd (.seq a b) Q t df g:=by rw[dF];refine bM _ h1 ?_;rintro e t df g ⟨rfl,h⟩;exact h2 t df g h
theorem Gq {x y:Foot}(hx:x.wr=[])(hb:x.lk.big=false)(hs:x.lk.sr=[])(h3:∀i∈y.wr,∀j∈x.lk.rd,i≠j):bF x y=true:=by
 have m3:=lA h3;have m5:∀l:List Nat,meets l []=false:=λl=>by simp[meets]
 simp only[bF,iK,fC,hx,hb,hs,m3,m5,fst1,List.map_nil,Bool.not_false,Bool.and_self,Bool.true_or]
 split<;>rfl
structure NsJ (gr:Int) (b ev vw u wv:AV) (n:Net) (e:List Int) (g0:G) (W j:Nat) (g:G):Prop where
 h2:g.h.get 2=.cells 6 [[.int .i64 gr,b,vw,u,wv,.int .i64 (S.ap n (S.pe n e) j)]] 0 false false
 hw:∃lo,g.h.get W=.cells 1 ((S.aD n e j).map ci) 0 lo false
 fr:∀i,i<g0.nx->i≠2->i≠W->g.h.get i=g0.h.get i
theorem O7 {d ke:Nat}{b ev vw u:AV}{n:Net}{e:List Int}{Q:QT}{t:T}{g:G}(hd:0<d)(hr:NR n)(hN:∀h,SlR NoP 0 h n.nodes b)(hel:e.length=n.nodes.length)(he:∀h,SlR NoP ke h e ev)
  (hh:NsH n.grain b ev vw u .nils 0 g) (ht:St t (LNs n.grain vw))
  (fin:∀t g' W df,tat t 6=.hptr 2 0 0 0->tat t 7=.int .i64 0->g.nx<=W->W<g'.nx->(∃lo,g'.h.get W=.cells 1 ((S.bh n e).map ci) 0 lo false)->g'.h.get 2=.cells 6 [[.int .i64 n.grain,b,vw,u,.hsl W 0 0 (S.an n) none,.int .i64 (S.bc n e)]] 0 false false ->
   (∀i,i<g.nx->i≠2->g'.h.get i=g.h.get i)->g.nx<=df->df<g'.nx->df≠W->g'.h.get df=.dfr true->Q .ret t [.mark df] g'):wp C0 d none dL Q t [] g:=by
 obtain ⟨h2,h3,h4,h9,-⟩:=ht;obtain ⟨g0,e1,g2,g3',g4⟩:=hh;have hl8:=hr.l2;obtain ⟨W1,W2,W3⟩:=hr.wl;have hcs:CsOk (S.aa n):=⟨hr.cs,by rw[aB];omega⟩;have hnc:S.nc (S.aa n)=S.an n:=rfl;have hA:∀h,Agg n NoP 0 h (.agg [.int .i64 n.grain,b]):=λh=>⟨_,rfl,cA.2 ⟨b,rfl,hN h⟩⟩;have le:∀g:G,dt .slice ev g=.val (.int .i64 (e.length:Int)):=λg=>(he .nil).len g;unfold dL;refine I8 (P:=λt' df g'=>df=[]/\∃W,g.nx<=W/\W<g'.nx/\NsJ n.grain b ev vw u (.hsl W 0 0 (S.an n) none) n e g W 0 g'/\g.nx<=g'.nx/\St t' (LNs n.grain vw)) ?_ ?_
 ·simp only[sz,simprocAttr,sf,h9,g3',h3,g0];refine Fj hd hr (hA _) λg5 q5 n5 f5 u5=>?_;have f6:∀i,i<g.nx->g5.h.get i=g.h.get i:=λi hi=>by rw[f5.2 i (by simp;omega)];simp
  have u6:∀i∈g5.lg,g.nx<=i:=λi hi=>by
   rcases u5.2 i hi with h | h
   ·simp at h
   ·simp at h;omega
  simp only[sy] at q5 n5;simp only[sz,simprocAttr,sf,f6 2 (by omega),g2,vL];refine ⟨?_,?_⟩
  ·simp only[List.reverse_cons,List.reverse_nil,List.nil_append,List.cons_append];refine aK [false,false,true,false,false,true] [(0,2)] (by simp[All2,ap,aC,ch,ux]) (by decide) ?_;rintro p hp x y hx hy;simp only[List.mem_cons,List.not_mem_nil,or_false] at hp;subst hp;simp at hx hy;subst hx;subst hy;refine Gq rfl rfl rfl λi hi j hj=>?_;have hi:i∈g5.lg:=by simpa using hi
   have hj:j=3:=by simpa [ap,jO] using hj
   have:=u6 i hi;omega
  refine ⟨g.nx+3,by omega,by omega,⟨?_,?_,λi h1 h2 h3=>?_⟩,by omega,by simp[St,LNs,sx,h2,h3,h4,h9]⟩
  ·simp[sy,S.ap]
  ·exact ⟨false,by rw[Je];simp[sy,q5]⟩
  ·simp[sy,h2,f6 i h1]
 ·rintro t df g1 ⟨rfl,W,w1,w2,hJ,n1,h2,h3,h4,h9,-⟩;have z0:g1.h.get 0=.cells 2 [[.int .i64 n.grain,b]] 0 false false:=by rw[hJ.fr 0 (by omega) (by omega) (by omega),g0]
  rw[dF,yy,tj];rw[dF];simp only[sz,simprocAttr,h3,z0];refine aR (wn (n:=n) (by omega) (hN _) (by omega)) λrc hrc=>?_;simp only[sz,simprocAttr];obtain ⟨z,kz,hz⟩:=yu (d:=d) (g:=g1) (w:=rc) (cs:=S.aa n) hd (hrc.sl g1.h);simp only[sz,simprocAttr,kz];refine zF (cs:=S.aa n) (w:=z) hcs hz (by simp[sx]) (by decide) (by decide) (NsJ n.grain b ev vw u (.hsl W 0 0 (S.an n) none) n e g W) (λ_=>False) ?_ (λ_ _ _ h=>h) hJ ?_ ?_ (λ_ h=>h.elim)
  ·rintro j g3 g4 hU ⟨a1,a2,a3⟩;exact ⟨by rw[hU.1 _ (by omega),a1],by rw[hU.1 _ (by omega)];exact a2,λi q1 q2 q3=>by rw[hU.1 i (by omega),a3 i q1 q2 q3]⟩
  ·rintro j uu g3 hj hJ3 hn3 hu;rw[hnc] at hj;simp only[sz,simprocAttr,iM];refine ⟨Fr.refl _,λg5 n5 f5 u5=>?_⟩;have hJ5:NsJ n.grain b ev vw u (.hsl W 0 0 (S.an n) none) n e g W j g5:=by obtain ⟨a1,a2,a3⟩:=hJ3;exact ⟨by rw[u5.1 _ (by omega),a1],by rw[u5.1 _ (by omega)];exact a2,λi q1 q2 q3=>by rw[u5.1 i (by omega),a3 i q1 q2 q3]⟩
   have hu5:SlR (λi=>g1.nx+2<=i/\i<g3.nx) 0 g5.h (S.ah (S.aa n) (j:Int)) uu:=hu.far8 λi hi=>f5 i (by omega);have z1:g5.h.get 1=.cells 1 [[ev]] 0 false false:=by rw[hJ5.fr 1 (by omega) (by omega) (by omega),e1]
   simp only[sz,simprocAttr,iC,h4,z1,le];have hvl:=cL (S.aa n) (j:Int);rw[aB] at hvl;have hlW:((S.aD n e j).map ci).length=S.an n:=by rw[List.length_map,pP]
   have hin:=dk (λc hc=>(hr.cs c hc).1) (j:Int);have wb:=tT hr hin;have hO:Own g5 4 (.hsl W 0 0 (S.an n) none) 1 ((S.aD n e j).map ci):=by obtain ⟨lo,h⟩:=hJ5.hw;exact .inr ⟨W,0,lo,by omega,by omega,by rw[hlW],h⟩
   have sb:=td hr (p:=S.pe n e) (j:=j) (by omega);have sb2:=td hr (p:=S.pe n e) (j:=j+1) (by omega);refine OB (e:=e) (vals:=S.ah (S.aa n) (j:Int)) (j:=j) (mw:=S.aD n e j) (gr:=n.grain) (b:=b) (ev:=ev) (vw:=vw) (u:=u) (wv:=.hsl W 0 0 (S.an n) none) (uu:=uu) (by omega) he hu5
    ⟨by rw[hJ5.fr 0 (by omega) (by omega) (by omega),g0],z1,hJ5.h2,by rw[hJ5.fr 3 (by omega) (by omega) (by omega),g3'],by omega⟩ hO (by rw[pP];exact hj) (by simp[St,LNs,sx,h2,h3,h4,h9]) (by simp[sx]) (by simp[sx]) ?_ ?_
   ·rintro t6 hmt ⟨h14,h2',h3',h4',h9',-⟩;have hpe:S.pe n e j=true:=hmt;have m1:j<((S.aD n e j).map ci).length:=by omega
    have m2:((S.aD n e j).map ci)[j]?=some (ci (S.wt n j)):=by rw[List.getElem?_map,Ml n e j hj];rfl
    have hO:Own g5 4 (.hsl W 0 0 (S.an n) none) 1 ((S.aD n e j).map ci):=hO;have z3:g5.h.get 3=.cells 1 [[.hptr 2 0 0 0]] 0 false false:=by rw[hJ5.fr 3 (by omega) (by omega) (by omega),g3']
    have ss:S.ap n (S.pe n e) (j+1)=S.ap n (S.pe n e) j+S.wt n j:=by rw[S.ap,if_pos hpe];rfl
    have w1:IntKind.wrap .i64 (S.ap n (S.pe n e) j+S.wt n j)=S.ap n (S.pe n e) (j+1):=by rw[<-ss,ax (by omega) (by omega)]
    simp only[sz,simprocAttr,sf,iO,h9',z3,hJ5.h2,vL,h14,hO.rows,m1,m2,ci,w1];refine ⟨?_,?_⟩
    ·simp only[List.reverse_cons,List.reverse_nil,List.nil_append,List.cons_append];exact aK [false,false,false,false,false,false,false,false,false,false,false,false,false,false,true] [] (by simp[All2,ap,aC]) (by decide) (by simp)
    refine ⟨by simp[sy]<;>omega,λi q1 q2=>?_,.inl ⟨rfl,?_,?_,λi q1 q2 q3=>?_⟩⟩
    ·simp[sy,show ¬i=2 by omega]
    ·simp[sy]
    ·obtain ⟨lo,h⟩:=hJ5.hw;exact ⟨lo,by rw[EV hj,if_pos hpe];simp[sy,show ¬W=2 by omega,h]⟩
    ·simp[sy,q2,hJ5.fr i q1 q2 q3]
   ·rintro t6 g6 hmt ⟨h2',h3',h4',h9',-⟩ o6 n6 f6;have hpe:S.pe n e j=false:=hmt;simp only[sz,simprocAttr];have hne:∀i,i≠W->g6.h.get i=g5.h.get i:=λi hi=>f6 i (by simpa [vid] using λh:W=i=>hi h.symm);have hss:S.ap n (S.pe n e) (j+1)=S.ap n (S.pe n e) j:=by rw[S.ap,hpe];simp
    refine ⟨by omega,λi q1 q2=>hne i (by omega),.inl ⟨rfl,?_,?_,λi q1 q2 q3=>?_⟩⟩
    ·rw[hne 2 (by omega),hJ5.h2,hss]
    ·rw[EV hj,hpe];rcases o6 with ⟨h,-⟩ | ⟨id,ep,lo,-,-,h,hg⟩
     ·cases h
     ·injection h with h1 h2 h3 h4 h5;subst h1;subst h2;exact ⟨lo,by simpa using hg⟩
    ·rw[hne i q3,hJ5.fr i q1 q2 q3]
  ·rintro g' hJ' hn hdf;rw[hnc] at hJ';have z3:g'.h.get 3=.cells 1 [[.hptr 2 0 0 0]] 0 false false:=by rw[hJ'.fr 3 (by omega) (by omega) (by omega),g3']
   simp only[sz,simprocAttr,ia,h9,z3];exact fin _ g' W g1.nx (by simp[sx]) (by simp[sx]) w1 (by omega) hJ'.hw hJ'.h2 (λi q1 q2=>by
    by_cases q3:i=W
    ·omega
    ·rw[hJ'.fr i q1 q2 q3]) n1 (by omega) (by omega) hdf
theorem C5 {d kv k1:Nat}{P1:Nat->Prop}{g:G}{n:Net}{e vars:List Int}{v w u:AV}(hd:kv<d)(hm:Agg n NoP 0 g.h v)(he:SlR P1 k1 g.h e w)(hv:SlR NoP kv g.h vars u) :
  ∃r,am C0 d N.bI [v,w,u] g=.val r/\NsV n e vars NoP kv .nil r:=by
 obtain ⟨b,rows,rfl,e1,hm',hN,r1,r2,r3,r4⟩:=cY d hm;obtain ⟨w',e2,hw'⟩:=aN he d;have e3:=jG d hv;have hv':∀h,SlR NoP kv h vars u:=λh=>hv.tree (Nat.le_refl _);have hN':∀h,SlR NoP 0 h n.nodes b:=λh=>hN.tree (Nat.le_refl 0);have lu:∀g:G,dt .slice u g=.val (.int .i64 (vars.length:Int)):=λg=>(hv' .nil).len g;have lN:∀g:G,dt .slice b g=.val (.int .i64 (n.nodes.length:Int)):=λg=>(hN' .nil).len g;have kc:=λg=>Ke (d:=d+1) (g:=g) (Nat.succ_pos d) (hm' g.h) (hw' g.h);rw[qj];refine aP rC (xs:=[.agg [.int .i64 n.grain,b],w',u]) (by simp only[aE,e1,e2,e3]) (by simp[dy]) (NJ n e vars) (by decide) hd ?_
 by_cases c:S.aN n e=0
 ·obtain ⟨hn,hev⟩:=rJ.1 c;have hr:=jn.1 hn;have hel:=(DV hev).1;have hl8:=hr.l2;have hst:∀(g:G) (i m:Nat),lj (.cells 1 [[.nilp]] 0 false false) g i 0 0 1 0 (.hptr m 0 0 0)=.upd .undef (g.put i (.cells 1 [[.hptr m 0 0 0]] 0 false false)):=λg i m=>rfl;obtain ⟨FB,hFB⟩:∃F,F=cz:=⟨_,rfl⟩;simp only[sz,simprocAttr,dy,ej,kc,c,lu,FZ (hw' .nil),(hv' .nil).cell.1,(hv' .nil).cell.2,hst,<-hFB];subst hFB;refine OW (k:=kv) (gr:=n.grain) (ev:=w') (n:=n) (vars:=vars) hr hv' hN' (by simp[H.get_put,show G.empty.nx=0 from rfl]) (by simp[St,LNs,sx]) (by simp[sx]) (by simp[sx]) (by simp[sx]) ?_ ?_
  ·intro t hp h6 h7;have hs:S.aH n e vars=2:=by rw[S.aH,if_pos c,hp];rfl
   simp only[sz,simprocAttr,h6,h7];refine ⟨NoP,?_⟩;rw[NsV,hs];exact ⟨_,_,rfl,rfl,aV.2 rfl⟩
  ·rintro t hp ⟨h2,h3,h4,h9,-⟩;have hs:S.aH n e vars=0:=by rw[S.aH,if_pos c,hp];rfl
   have hH:NsH n.grain b w' u .nils .nils 0 (((((G.empty.new (.cells 2 [[.int .i64 n.grain,b]] 0 false false)).new (.cells 1 [[w']] 0 false false)).new (.cells 6 [[.int .i64 n.grain,b,u,.nils,.nils,.int .i64 0]] 0 false false)).new (.cells 1 [[.nilp]] 0 false false)).put 3 (.cells 1 [[.hptr 2 0 0 0]] 0 false false)):=by constructor<;>simp[H.get_put,show G.empty.nx=0 from rfl]
   generalize ((((G.empty.new (.cells 2 [[.int .i64 n.grain,b]] 0 false false)).new (.cells 1 [[w']] 0 false false)).new (.cells 6 [[.int .i64 n.grain,b,u,.nils,.nils,.int .i64 0]] 0 false false)).new (.cells 1 [[.nilp]] 0 false false)).put 3 (.cells 1 [[.hptr 2 0 0 0]] 0 false false)=g1 at hH ⊢;simp only[sz,simprocAttr,iT,h3,hH.h0,lN];refine O5 (k:=kv) (m:=n.nodes.length) (Nat.succ_pos d) hl8 hv' hH (by simp[St,LNs,sx,h2,h3,h4,h9]) (by simp[sx]) (by simp[sx]) λt g2 uo ht hH2 hO=>?_;simp only[kB,sz,simprocAttr];refine O7 (Nat.succ_pos d) hr hN' hel hw' hH2 ht λt g3 W df h6 h7 w1 w2 gW g2' hf d1 d2 d3 hdf=>?_;show wL C0 (d+1) [.tm 6,.tm 7] t [.mark df] g3 λv g'=>∃P,NsV n e vars P kv g'.h v;refine pc hdf ?_;simp only[sz,simprocAttr,h6,h7];have hne:=λi (h:vid uo=some i)=>hO.lt h;obtain ⟨lo,gW⟩:=gW;have q1:∀i,i≠df->(g3.h.put df (.dfr false)).get i=g3.h.get i:=λi hi=>by rw[au _ _ _ hi]
   have q2:=(hO.fr (g':=g3.put df (.dfr false)) (by simp;omega) λi hi=>by
    have:=hne i hi;rw[G.put_h,q1 i (by omega),hf i (by omega) (by omega)])
   have hlo:(S.bG n vars).length<=_:=Ap vars n.nodes.length;have hH4:=hH2.nx;have hlw:(S.bh n e).length=S.an n:=pP _ _ _;have hW2:=hr.wl.2.1;refine ⟨λ_=>True,?_⟩;rw[NsV,if_pos hs];refine ⟨_,_,rfl,.inl ⟨2,_,rfl,trivial,by rw[q1 2 (by omega),g2'],?_⟩,aV.2 rfl⟩;refine J7.2 ⟨b,u,uo,_,rfl,hN.wide (Nat.zero_le _),?_,q2.sl (α:=Int) (by omega) (All2.of_map (λa=>aV.2 rfl) _) λ_ _=>trivial,?_⟩
   ·exact hv.wide (Nat.le_refl _)
   ·have gW':(g3.put df (.dfr false)).h.get W=.cells 1 ((S.bh n e).map ci) 0 lo false:=by rw[G.put_h,q1 W (by omega),gW]
    have o3:Own (g3.put df (.dfr false)) 0 (.hsl W 0 0 (S.an n) none) 1 ((S.bh n e).map ci):=.inr ⟨W,0,lo,Nat.zero_le _,by simp;omega,by rw[List.length_map,hlw],gW'⟩;exact o3.sl (α:=Int) (by omega) (All2.of_map (λa=>aV.2 rfl) _) λ_ _=>trivial
 ·simp only[sz,simprocAttr,dy,ej,kc,c,FZ (hw' .nil)];refine ⟨NoP,?_⟩;have hs:S.aH n e vars=S.aN n e:=by rw[S.aH,if_neg c]
  rw[NsV,hs,if_neg c];exact ⟨_,_,rfl,rfl,aV.2 rfl⟩
def C4 (n:Net)(vars oth mw:List Int)(m:Int)(k:Nat)(v:AV):Prop:=∃t b vw ow ww,v=.tptr t 6 [[.int .i64 n.grain,b,vw,ow,ww,.int .i64 m]] 0 0/\t<=k/\SlR NoP k .nil n.nodes b/\SlR NoP k .nil vars vw/\SlR NoP k .nil oth ow/\SlR NoP k .nil mw ww
theorem M2 {n:Net}{vars oth mw:List Int}{m:Int}{k:Nat}{h:H}{v:AV}(r:Gj ((n,vars,oth,mw,m):Sch) 6 NoP k h v):C4 n vars oth mw m k v:=by
 rcases r with ⟨id,cs,rfl,hP,-⟩ | ⟨t,cs,rfl,ht,r⟩
 ·exact hP.elim
 ·obtain ⟨a,b,c,d,rfl,ha,hb,hc,hd⟩:=J7.1 r;exact ⟨t,a,b,c,d,rfl,ht,ha,hb,hc,hd⟩
theorem tp (h:H)(d t sz:Nat)(rows:List (List AV))(i off:Nat):Hx.snap h d aH (.tptr t sz rows i off)=some (.tptr t sz rows i off):=rfl
theorem iB (t sz:Nat)(rows:List (List AV))(i off:Nat):BZ (.tptr t sz rows i off)=.val (.tptr t sz rows i off):=rfl
theorem Cj {n:Net}{b:AV}{k:Nat}{p:Int}(hN:SlR NoP k .nil n.nodes b)(h0:0<=p)(h1:p<(n.nodes.length:Int)):∃(pn:Nat) (x:Node) (rows:List (List AV)) (pa ra:AV),p=(pn:Int)/\n.nodes[pn]?=some x/\(∀h,ak h 3 b=some rows)/\pn<rows.length/\rows[pn]?=some [.int .i64 x.card,pa,ra]/\lT b=true/\x∈n.nodes/\(S.aa n)[pn]?=some x.card:=by
 obtain ⟨pn,rfl⟩:=Int.eq_ofNat_of_zero_le h0;obtain ⟨rows,r1,r2,r3,r4⟩:=hN.all;have hlt:pn<n.nodes.length:=by omega
 obtain ⟨x,hx,-,hm⟩:=af hlt;obtain ⟨row,q1,q2⟩:=r3 pn x hx;obtain ⟨pa,ra,rfl,-,-⟩:=bN.1 q2;exact ⟨pn,x,rows,pa,ra,rfl,hx,r1,by omega,q1,r4 (by omega),hm,by simp[S.aa,hx]⟩
theorem B0 {d k k2:Nat}{g:G}{P:Nat->Prop}{n:Net}{vars oth mw l:List Int}{m:Int}{q w:AV}(hd:0<d)(hq:C4 n vars oth mw m k q)(hp:∀x∈l,0<=x/\x<(n.nodes.length:Int))(hw:SlR P k2 g.h l w)(hl:l.length<=8) :
  ∃r,am C0 d N.ax [q,w] g=.val r/\IT 0 (S.ae (S.aa n) l) r:=by
 obtain ⟨t,b,vw,ow,ww,rfl,ht,hb,hv,ho,hww⟩:=hq;obtain ⟨w',e2,hw'⟩:=aN hw d;have lw:∀g:G,dt .slice w' g=.val (.int .i64 (l.length:Int)):=λg=>(hw' .nil).len g;have rw':=λh=>(hw' h).ints;have hlp:(S.ae (S.aa n) l).length=l.length:=by simp[S.ae]
 rw[mG];refine aP pj (xs:=[.tptr t 6 [[.int .i64 n.grain,b,vw,ow,ww,.int .i64 m]] 0 0,w']) (by simp only[aE,e2,tp]) (by simp[dW]) (aJ _) (by decide) hd ?_;simp only[sz,simprocAttr,dW,lw];refine qa (b:=0) (n:=l.length) (by unfold aM;omega) (by unfold aM;omega) (Nat.zero_le _) λu g1 hu n1 f1 v1=>?_;simp only[sz,simprocAttr,lw,fI];refine bk (m:=l.length) (by omega) (λj t' df g=>df=[]/\St t' [(0,.tptr t 6 [[.int .i64 n.grain,b,vw,ow,ww,.int .i64 m]] 0 0),(11,w'),(5,u)]/\Own g 0 u 1 ((((S.ae (S.aa n) l).take j)++List.replicate (l.length - j) 0).map ci)) ⟨rfl,by simp[St,sx],?_⟩ (by simp[sx]) (by simp[sx]) (by decide)
  (by rintro j t df g v s (rfl | rfl | rfl)<;>simp[sx,St]) ?_ ?_
 ·simpa [ci] using hu
 ·rintro j t' df g hj ⟨rfl,⟨h0,h11,h5,-⟩,hO⟩ h13 h12;obtain ⟨p,hpx,-,hpm⟩:=af hj;obtain ⟨p0,p1⟩:=hp p hpm;obtain ⟨pn,y,rows,pa,ra,rfl,hy,r1,r2,r3,r4,-,r5⟩:=Cj hb p0 p1;have z1:j<(l.map ci).length:=by simpa using hj
  have z2:(l.map ci)[j]?=some (ci (pn:Int)):=by rw[List.getElem?_map,hpx];rfl
  have hcj:(S.ae (S.aa n) l)[j]?=some y.card:=by simp[S.ae,hpx,r5]
  have o1:j<((((S.ae (S.aa n) l).take j)++List.replicate (l.length - j) 0).map ci).length:=by simp;omega
  have o2:((((S.ae (S.aa n) l).take j)++List.replicate (l.length - j) 0).map ci)[j]?=some (ci 0):=by rw[List.getElem?_map,List.getElem?_append_right (by simp;omega),List.getElem?_replicate];simp;omega
  have e3:((((S.ae (S.aa n) l).take j)++List.replicate (l.length - j) 0).map ci).set j (ci y.card)=(((S.ae (S.aa n) l).take (j+1))++List.replicate (l.length - (j+1)) 0).map ci:=by
   rw[<-List.map_set,List.set_append_right _ _ (by simp;omega),List.length_take,Nat.min_eq_left (by omega),Nat.sub_self,List.take_succ_eq_append_getElem (by omega),show l.length - j=(l.length - (j+1))+1 by omega,List.replicate_succ,List.set_cons_zero,List.append_assoc];have:(S.ae (S.aa n) l)[j]=y.card:=by rw[List.getElem?_eq_getElem (by omega)] at hcj;injection hcj
   rw[this];rfl
  simp only[sz,simprocAttr,h11,h13,rw',z1,z2,ci,h0,iB,dA,bC,r1,r2,r3,r4,h5,hO.rows,o1];refine bQ (v:=u) (sz:=1) (n:=1) (i:=j) (off:=0) (x:=.int .i64 y.card) (row:=ci 0) (row':=ci y.card) hO o2 rfl rfl rfl λg3 o3 n3 f3=>?_;rw[e3] at o3;simp only[sz,simprocAttr];simpa [St,sx,h0,h11,h5,h12,h13] using o3
 ·rintro t' df g ⟨rfl,⟨h0,h11,h5,-⟩,hO⟩;rw[List.take_of_length_le (by omega),Nat.sub_self] at hO;simp only[sz,simprocAttr,fE,h5];exact ⟨_,(by simpa using hO:Own g 0 u 1 ((S.ae (S.aa n) l).map ci)).ints (by omega)⟩
theorem Fq {d k k2:Nat}{g:G}{P:Nat->Prop}{n:Net}{vars oth mw l:List Int}{m:Int}{q w:AV}(hd:0<d)(hr:NR n)(hq:C4 n vars oth mw m k q)(hp:S.aw vars (n.nodes.length:Int)=true)(hw:SlR P k2 g.h l w)(hl:InC (S.ae (S.aa n) vars) l) :
  am C0 d N.aW [q,w] g=.val (.int .i64 (S.ak (S.ae (S.aa n) vars) l)):=by
 obtain ⟨t,b,vw,ow,ww,rfl,ht,hb,hv,ho,hww⟩:=hq;obtain ⟨w',e2,hw'⟩:=aN hw d;have lw:∀g:G,dt .slice w' g=.val (.int .i64 (l.length:Int)):=λg=>(hw' .nil).len g;have rw':=λh=>(hw' h).ints;have rv:=λh=>(hv.tree (h':=h) (Nat.le_refl _)).ints;have hlp:(S.ae (S.aa n) vars).length=vars.length:=by simp[S.ae]
 have hll:=hl.len;have hl8:=hr.l2;have hpl:=dq hp (by omega);have hpb:=bJ (ps:=vars) hr.cs (λp hpm=>by rw[aB];exact bD hp p hpm);rw[mo];refine dM nL (xs:=[.tptr t 6 [[.int .i64 n.grain,b,vw,ow,ww,.int .i64 m]] 0 0,w']) (by simp only[aE,e2,tp]) (by simp[dI]) hd ?_;simp only[sz,simprocAttr,dI,eM,lw];refine bk (m:=l.length) (by omega) (λj t' df g=>df=[]/\St t' [(0,.tptr t 6 [[.int .i64 n.grain,b,vw,ow,ww,.int .i64 m]] 0 0),(8,w'),(5,.int .i64 (S.ak ((S.ae (S.aa n) vars).take j) (l.take j)))]) ⟨rfl,by simp[St,sx,S.ak]⟩ (by simp[sx]) (by simp[sx]) (by decide)
  (by rintro j t df g v s (rfl | rfl | rfl)<;>simp[sx,St]) ?_ ?_
 ·rintro j t' df g hj ⟨rfl,h0,h8,h5,-⟩ h10 h9;obtain ⟨x,hx,hxt,-⟩:=af hj;obtain ⟨p,hpx,-,hpm⟩:=af (l:=vars) (j:=j) (by omega);obtain ⟨p0,p1⟩:=bD hp p hpm;obtain ⟨pn,y,rows,pa,ra,rfl,hy,r1,r2,r3,r4,hym,r5⟩:=Cj hb p0 p1;have z1:j<(l.map ci).length:=by simpa using hj
  have z2:(l.map ci)[j]?=some (ci x):=by rw[List.getElem?_map,hx];rfl
  have y1:j<(vars.map ci).length:=by rw[List.length_map];omega
  have y2:(vars.map ci)[j]?=some (ci (pn:Int)):=by rw[List.getElem?_map,hpx];rfl
  have hcj:(S.ae (S.aa n) vars)[j]?=some y.card:=by simp[S.ae,hpx,r5]
  have c1:(S.ae (S.aa n) vars).take (j+1)=(S.ae (S.aa n) vars).take j++[y.card]:=by rw[List.take_succ_eq_append_getElem (by omega)];congr 2;rw[List.getElem?_eq_getElem (by omega)] at hcj;injection hcj
  have hsn:S.ak ((S.ae (S.aa n) vars).take (j+1)) (l.take (j+1))=S.ak ((S.ae (S.aa n) vars).take j) (l.take j)*y.card+x:=by rw[c1,hxt];exact zZ (by simp;omega)
  have i1:=cG (λc h=>hpb c (List.mem_of_mem_take h)) (hl.take j);have i2:=cG (λc h=>hpb c (List.mem_of_mem_take h)) (hl.take (j+1));have q1:=cU hpb (by omega) j;have q2:=cU hpb (by omega) (j+1);rw[hsn] at i2 ⊢;have hyc:=hr.card y hym;obtain ⟨A,hA⟩:∃A,A=S.ak ((S.ae (S.aa n) vars).take j) (l.take j):=⟨_,rfl⟩;rw[<-hA] at h5 i1 i2 ⊢;have hm0:0<=A*y.card:=Int.mul_nonneg i1.1 (by omega);have hm1:A*y.card<=65536*4:=Int.mul_le_mul (by omega) (by omega) (by omega) (by omega);have w1:IntKind.wrap .i64 (A*y.card)=A*y.card:=ax (by omega) (by omega);have w2:IntKind.wrap .i64 (A*y.card+x)=A*y.card+x:=ax (by omega) (by omega);simp only[sz,simprocAttr,h8,h10,rw',z1,z2,ci,h0,h5,iB,dA,bC,rv,y1,y2,r1,r2,r3,r4,w1,w2];simp[St,sx,h0,h8,h9,h10]
 ·rintro t' df g ⟨rfl,h0,h8,h5,-⟩;rw[List.take_of_length_le (by omega),List.take_of_length_le (by omega)] at h5;simp only[sz,simprocAttr,fc,h5]
theorem Js {g:G}{n:Nat}{K:AV->G->Prop}{D:ADf->Prop}(hn:n<=65536)(k:∀g',g'.h.get g.nx=.cells 1 ((List.replicate n 0).map ci) 0 false false->g'.nx=g.nx+1->Up g.nx g g'->g'.lg=g.nx::g.lg->K (.hsl g.nx 0 0 n none) g') :
  (yH 1 8 [.int .i64 0] (.int .i64 (n:Int)) (.int .i64 (n:Int)) g).sat K g D:=by
 have h1:n<=aM:=by unfold aM;omega
 have h2:n*8<=aM:=by unfold aM;omega
 have key:yH 1 8 [.int .i64 0] (.int .i64 (n:Int)) (.int .i64 (n:Int)) g=.upd (.hsl g.nx 0 0 n none) (g.new (.cells 1 (eG n [.int .i64 0]) 0 false false)):=by
  show (match bU aM (.int .i64 (.ofNat n)) with
   | some cn=>match bU cn (.int .i64 (.ofNat n)) with
    | some ln=>aw (Nat.ble (cn*8) aM) (OR.upd (.hsl g.nx 0 0 ln none) (g.new (.cells 1 (eG cn [.int .i64 0]) 0 false false))) .fail
    | none=>.fail
   | none=>.fail)=_
  have a1:bU aM (.int .i64 (.ofNat n))=some n:=by show aw (Nat.ble n aM) (some n) none=_;rw[aa,if_pos (by simpa using h1)]
  have a2:bU n (.int .i64 (.ofNat n))=some n:=by show aw (Nat.ble n n) (some n) none=_;rw[aa,if_pos (by simp)]
  rw[a1];dsimp only;rw[a2];dsimp only;rw[aa,if_pos (by simpa using h2)]
 rw[key];refine k _ ?_ (by simp) (Up.new (Nat.le_refl _) _) (by simp);simp[aT,eG,ci]
theorem Oe {g:G}{n:Nat}{K:AV->G->Prop}{D:ADf->Prop}(hn:n<=65536)(k:∀g',g'.h.get g.nx=.cells 1 ((List.replicate n 0).map ci) 0 false false->g'.nx=g.nx+1->Up g.nx g g'->K (.hsl g.nx 0 0 n none) g') :
  (yH 1 8 [.int .i64 0] (.int .i64 (n:Int)) (.int .i64 (n:Int)) g).sat K g D:=Js hn λg' a b c _=>k g' a b c
def S.bo (n:Net)(oth:List Int)(w:Nat):Int:=S.ak (S.ae (S.aa n) oth) (S.ae (S.ah (S.aa n) (w:Int)) oth)
def LW (B tg:Nat)(qv:AV):List (Nat×AV):=[(1,.tptr tg 1 [[qv]] 0 0),(2,.hptr B 0 0 0),(3,.hptr (B+2) 0 0 0)]
theorem ON {d B tg k:Nat}{n:Net}{vars oth mw vals l:List Int}{m:Int}{qv uu vv:AV}{P:Nat->Prop}{j:Int}{rd:Option Nat}{Q:QT}{t:T}{g:G}(hq:C4 n vars oth mw m k qv)(hp:∀x∈vars,0<=x/\x<(vals.length:Int))(hvl:vars.length<=8)(hu:SlR P 0 g.h vals uu)(hP:∀i,P i->i<g.nx/\B+3<=i)(hB:B+2<g.nx)
  (gv:Own g B (.hsl (B+1) 0 0 vars.length none) 1 (l.map ci)) (g2:g.h.get (B+2)=.cells 1 [[.hsl (B+1) 0 0 vars.length none]] 0 false false) (hl:l.length=vars.length)
  (ht:St t ((5,uu)::(4,.int .i64 j)::(29,vv)::LW B tg qv)) (hvv:SlR NoP k .nil vars vv) (h31:tat t 31=.int .i64 0) (h30:tat t 30=.int .i64 (vars.length:Int))
  (fin:∀t g',St t ((5,uu)::(4,.int .i64 j)::LW B tg qv)->g.nx<=g'.nx->(∀i,i<g.nx->i≠B+1->g'.h.get i=g.h.get i)->Up B g g'->Own g' B (.hsl (B+1) 0 0 vars.length none) 1 ((S.ae vals vars).map ci)->Q (.exit 2) t [] g'):wpL (wp C0 d rd ct) Q t [] g:=by
 have rv:=λh=>(hvv.tree (h':=h) (Nat.le_refl _)).ints;have hlp:(S.ae vals vars).length=vars.length:=by simp[S.ae]
 simp only[ct];refine bk (m:=vars.length) (by omega) (λi t df g'=>df=[]/\St t ((5,uu)::(4,.int .i64 j)::(29,vv)::LW B tg qv)/\g.nx<=g'.nx/\(∀i,i<g.nx->i≠B+1->g'.h.get i=g.h.get i)/\Up B g g'/\Own g' B (.hsl (B+1) 0 0 vars.length none) 1 (((S.ae vals vars).take i++l.drop i).map ci)) ⟨rfl,ht,Nat.le_refl _,λ_ _ _=>rfl,Up.refl _ _,by simpa using gv⟩ h31 h30 (by decide)
  (by rintro i t df g v s (rfl | rfl | rfl) ⟨a1,⟨b1,b2,b3,b4,b5,b6,-⟩,c1⟩<;>exact ⟨a1,by simp[St,LW,sx,b1,b2,b3,b4,b5,b6],c1⟩) ?_ ?_
 ·rintro i t df g1 hi ⟨rfl,⟨h5,h4,h29,h1,h2,h3,-⟩,hn,hf,hU,hO⟩ h31 h30;obtain ⟨p,hpx,-,hpm⟩:=af hi;obtain ⟨p0,p1⟩:=hp p hpm;obtain ⟨pn,rfl⟩:=Int.eq_ofNat_of_zero_le p0;obtain ⟨x,hx,-,-⟩:=af (l:=vals) (j:=pn) (by omega);have z1:i<(vars.map ci).length:=by simpa using hi
  have z2:(vars.map ci)[i]?=some (ci (pn:Int)):=by rw[List.getElem?_map,hpx];rfl
  have y1:pn<(vals.map ci).length:=by rw[List.length_map];omega
  have y2:(vals.map ci)[pn]?=some (ci x):=by rw[List.getElem?_map,hx];rfl
  have hu1:SlR P 0 g1.h vals uu:=hu.far8 λi hi=>hf i (hP i hi).1 (by have:=hP i hi;omega);have ru:=hu1.ints;have gs:g1.h.get (B+2)=.cells 1 [[.hsl (B+1) 0 0 vars.length none]] 0 false false:=by rw[hf _ hB (by omega),g2]
  have hcj:(S.ae vals vars)[i]?=some x:=by simp[S.ae,hpx,hx]
  obtain ⟨y,hy,-,-⟩:=af (l:=l) (j:=i) (by omega);have e3:(((S.ae vals vars).take i++l.drop i).map ci).set i (ci x)=((S.ae vals vars).take (i+1)++l.drop (i+1)).map ci:=by
   rw[<-List.map_set,List.set_append_right _ _ (by simp;omega),List.length_take,Nat.min_eq_left (by omega),Nat.sub_self,List.take_succ_eq_append_getElem (by omega),List.drop_eq_getElem_cons (by omega),List.set_cons_zero,List.append_assoc];have:(S.ae vals vars)[i]=x:=by rw[List.getElem?_eq_getElem (by omega)] at hcj;injection hcj
   rw[this];rfl
  have hll:(((S.ae vals vars).take i++l.drop i).map ci).length=vars.length:=by simp;omega
  have hi2:i<(((S.ae vals vars).take i++l.drop i).map ci).length:=by rw[hll];exact hi
  have hro:(((S.ae vals vars).take i++l.drop i).map ci)[i]?=some (ci y):=by rw[List.getElem?_map,List.getElem?_append_right (by simp;omega),List.getElem?_drop];simp only[List.length_take,Nat.min_eq_left (show i<=(S.ae vals vars).length by omega),Nat.sub_self,Nat.add_zero,hy,Option.map_some]
  simp only[sz,simprocAttr,sf,h29,h31,rv,z1,z2,ci,h3,gs,h5,ru,y1,y2,hO.rows,hi2];refine qm (g:=_) (b:=B) (v:=.hsl (B+1) 0 0 vars.length none) (sz:=1) (n:=1) (i:=i) (off:=0) (x:=.int .i64 x) (row:=ci y) (row':=ci x) (hO.fr (by simp<;>omega) (λi' hi'=>by simp)) hro rfl rfl rfl λg5 o5 n5 f5 u5=>?_;rw[e3] at o5;have f6:∀i',i'≠B+1->g5.h.get i'=g1.h.get i':=λi' hi'=>by rw[f5 i' (by simpa [vid] using λh:B+1=i'=>hi' h.symm)];simp
  simp only[sy] at n5;simp only[sz,simprocAttr,sf];refine ⟨?_,?_⟩
  ·simp only[List.reverse_cons,List.reverse_nil,List.nil_append,List.cons_append];exact aK [false,false,false,false,false,false,false,true] [] (by simp[All2,ap,aC]) (by decide) (by simp)
  refine ⟨⟨by simp[St,LW,sx,h5,h4,h29,h1,h2,h3],by first | omega | (simp<;>omega),λi' h1 h2=>by simp[f6 i' h2,hf i' h1 h2],hU.trans ⟨λi' h=>by simp[f6 i' (by omega)],λi' h=>?_⟩,o5.fr (by simp<;>omega) λi' h=>by simp⟩,by simp[sx,h31],by simp[sx,h30]⟩;simp at h;rcases h with h | h
  ·rcases u5.2 i' h with h | h
   ·simp at h
   ·exact .inr h
  ·exact .inl h
 ·rintro t df g' ⟨rfl,⟨h5,h4,-,ht⟩,hn,hf,hU,gv1⟩;rw[List.take_of_length_le (by omega),List.drop_of_length_le (by omega),List.append_nil] at gv1;exact fin t g' ⟨h5,h4,ht⟩ hn hf hU gv1
theorem OU {d B tg k t0:Nat}{n:Net}{oth vals:List Int}{m:Int}{b vw ow ww uu:AV}{P:Nat->Prop}{j:Int}{rd:Option Nat}{Q:QT}{t:T}{g:G}(hr:NR n)(hb:SlR NoP k .nil n.nodes b)(ho:SlR NoP k .nil oth ow)(hp:∀x∈oth,0<=x/\x<(n.nodes.length:Int))(hol:oth.length<=8)(hin:InC (S.aa n) vals)(hu:SlR P 0 g.h vals uu)
  (ht:St t ((5,uu)::(4,.int .i64 j)::(47,ow)::(8,.int .i64 0)::LW B tg (.tptr t0 6 [[.int .i64 n.grain,b,vw,ow,ww,.int .i64 m]] 0 0))) (h49:tat t 49=.int .i64 0) (h48:tat t 48=.int .i64 (oth.length:Int))
  (fin:∀t,St t ((8,.int .i64 (S.ak (S.ae (S.aa n) oth) (S.ae vals oth)))::(4,.int .i64 j)::LW B tg (.tptr t0 6 [[.int .i64 n.grain,b,vw,ow,ww,.int .i64 m]] 0 0))->Q (.exit 4) t [] g):wpL (wp C0 d rd co) Q t [] g:=by
 have ro:=λh=>(ho.tree (h':=h) (Nat.le_refl _)).ints;have hvl:=hin.len;rw[aB] at hvl;have hlp:(S.ae (S.aa n) oth).length=oth.length:=by simp[S.ae]
 have hlv:(S.ae vals oth).length=oth.length:=by simp[S.ae]
 have hpb:=bJ (ps:=oth) hr.cs (λp hpm=>by rw[aB];exact hp p hpm);have hC:=gx hin (λp hpm=>by rw[aB];exact hp p hpm);have ru:=hu.ints;simp only[co];refine bk (m:=oth.length) (by omega) (λi t df g'=>df=[]/\g'=g/\St t ((5,uu)::(4,.int .i64 j)::(47,ow)::(8,.int .i64 (S.ak ((S.ae (S.aa n) oth).take i) ((S.ae vals oth).take i)))::LW B tg (.tptr t0 6 [[.int .i64 n.grain,b,vw,ow,ww,.int .i64 m]] 0 0))) ⟨rfl,rfl,by simpa [S.ak] using ht⟩ h49 h48 (by decide)
  (by rintro i t df g v s (rfl | rfl | rfl) ⟨a1,a2,⟨b1,b2,b3,b4,b5,b6,b7,-⟩⟩<;>exact ⟨a1,a2,by simp[St,LW,sx,b1,b2,b3,b4,b5,b6,b7]⟩) ?_ ?_
 ·rintro i t df g' hi ⟨rfl,rfl,⟨h5,h4,h47,h8,h1,h2,h3,-⟩⟩ h49 h48;obtain ⟨p,hpx,-,hpm⟩:=af hi;obtain ⟨p0,p1⟩:=hp p hpm;obtain ⟨pn,y,rows,pa,ra,rfl,hy,r1,r2,r3,r4,hym,r5⟩:=Cj hb p0 p1;obtain ⟨x,hx,-,-⟩:=af (l:=vals) (j:=pn) (by omega);have z1:i<(oth.map ci).length:=by simpa using hi
  have z2:(oth.map ci)[i]?=some (ci (pn:Int)):=by rw[List.getElem?_map,hpx];rfl
  have y1:pn<(vals.map ci).length:=by rw[List.length_map];omega
  have y2:(vals.map ci)[pn]?=some (ci x):=by rw[List.getElem?_map,hx];rfl
  have hcj:(S.ae (S.aa n) oth)[i]?=some y.card:=by simp[S.ae,hpx,r5]
  have hvj:(S.ae vals oth)[i]?=some x:=by simp[S.ae,hpx,hx]
  have c1:(S.ae (S.aa n) oth).take (i+1)=(S.ae (S.aa n) oth).take i++[y.card]:=by rw[List.take_succ_eq_append_getElem (by omega)];congr 2;rw[List.getElem?_eq_getElem (by omega)] at hcj;injection hcj
  have c2:(S.ae vals oth).take (i+1)=(S.ae vals oth).take i++[x]:=by rw[List.take_succ_eq_append_getElem (by omega)];congr 2;rw[List.getElem?_eq_getElem (by omega)] at hvj;injection hvj
  have hsn:S.ak ((S.ae (S.aa n) oth).take (i+1)) ((S.ae vals oth).take (i+1))=S.ak ((S.ae (S.aa n) oth).take i) ((S.ae vals oth).take i)*y.card+x:=by rw[c1,c2];exact zZ (by simp;omega)
  have i1:=cG (λc h=>hpb c (List.mem_of_mem_take h)) (hC.take i);have i2:=cG (λc h=>hpb c (List.mem_of_mem_take h)) (hC.take (i+1));have q1:=cU hpb (by omega) i;have q2:=cU hpb (by omega) (i+1);rw[hsn] at i2 ⊢;have hyc:=hr.card y hym;obtain ⟨A,hA⟩:∃A,A=S.ak ((S.ae (S.aa n) oth).take i) ((S.ae vals oth).take i):=⟨_,rfl⟩;rw[<-hA] at h8 i1 i2 ⊢;have hm0:0<=A*y.card:=Int.mul_nonneg i1.1 (by omega);have hm1:A*y.card<=65536*4:=Int.mul_le_mul (by omega) (by omega) (by omega) (by omega);have w1:IntKind.wrap .i64 (A*y.card)=A*y.card:=ax (by omega) (by omega);have w2:IntKind.wrap .i64 (A*y.card+x)=A*y.card+x:=ax (by omega) (by omega);simp only[sz,simprocAttr,h47,h49,ro,z1,z2,ci,h8,h1,h5,iB,dA,bC,r1,r2,r3,r4,ru,y1,y2,w1,w2];simp[St,LW,sx,h1,h2,h3,h4,h5,h47,h48,h49]
 ·rintro t df g' ⟨rfl,rfl,⟨-,h4,-,h8,ht⟩⟩;rw[List.take_of_length_le (by omega),List.take_of_length_le (by omega)] at h8;exact fin t ⟨h8,h4,ht⟩
theorem IJ {d id k tg:Nat}{n:Net}{vars oth mw:List Int}{m:Int}{qv:AV}{g0:G}{K:AV->G->Prop}(hd:0<d)(hr:NR n)(hq:C4 n vars oth mw m k qv)(hp:∀x∈vars,0<=x/\x<(n.nodes.length:Int))(hvl:vars.length<=8)(hpo:∀x∈oth,0<=x/\x<(n.nodes.length:Int))(hol:oth.length<=8)(hmw:mw.length=S.an n)
  (J:Nat->G->Prop) (hJ:∀j g g',(∀i,i<g0.nx->g'.h.get i=g.h.get i)->J j g->J j g')
  (step:∀(j:Nat) (w:Int) (u:AV) (g:G) (K':AV->G->Prop) (D:ADf->Prop),j<S.an n->mw[j]?=some w->g0.nx<=g.nx->J j g->Own g g0.nx u 1 ((S.ae (S.ah (S.aa n) (j:Int)) vars).map ci) ->
   (∀g',J (j+1) g'->g.nx<=g'.nx->(∀i,g0.nx<=i->i<g.nx->g'.h.get i=g.h.get i)->K' (.bool true) g')->(cB (I C0) d id [.agg [.int .i64 (S.bo n oth j),.int .i64 w],u] g).sat K' g D)
  (h0:J 0 g0) (fin:∀g',J (S.an n) g'->g0.nx<=g'.nx->K (.tup []) g') :
  wp C0 d none aX.code (fnQ C0 d aX.res K) (bS 0 [.yld id,.tptr tg 1 [[qv]] 0 0] .nil) [] g0:=by
 obtain ⟨t0,b,vw,ow,ww,rfl,ht0,hb,hv,ho,hww⟩:=hq;have hl8:=hr.l2;obtain ⟨W1,W2,W3⟩:=hr.wl;have hcs:CsOk (S.aa n):=⟨hr.cs,by rw[aB];omega⟩;have hnc:S.nc (S.aa n)=S.an n:=rfl;have lv:∀g:G,dt .slice vw g=.val (.int .i64 (vars.length:Int)):=λg=>hv.len g;have lo:∀g:G,dt .slice ow g=.val (.int .i64 (oth.length:Int)):=λg=>ho.len g;have rw_:=λh=>(hww.tree (h':=h) (Nat.le_refl _)).ints;obtain ⟨B,hB⟩:∃B,B=g0.nx:=⟨_,rfl⟩;have hbx:∀g:G,Ea (.yld id) g=.upd (.hptr g.nx 0 0 0) (g.new (.cells 1 [[.yld id]] 0 false false)):=λg=>rfl;obtain ⟨Qf,hQf⟩:∃Qf,Qf=fnQ C0 d aX.res K:=⟨_,rfl⟩;rw[<-hQf];simp only[sz,simprocAttr,aX,hbx];unfold eA;refine eo (P:=λt' df g'=>df=[]/\g'.nx=B+3/\g'.h.get B=.cells 1 [[.yld id]] 0 false false/\Own g' B (.hsl (B+1) 0 0 vars.length none) 1 ((List.replicate vars.length 0).map ci)/\g'.h.get (B+2)=.cells 1 [[.hsl (B+1) 0 0 vars.length none]] 0 false false/\Up B g0 g'/\St t' (LW B tg (.tptr t0 6 [[.int .i64 n.grain,b,vw,ow,ww,.int .i64 m]] 0 0))) ?_ ?_
 ·simp only[sz,simprocAttr,bC,iB,dA,lv];refine Oe (by omega) λg2 m2 n2 u2=>?_;simp only[sx] at m2 n2 u2;rw[<-hB] at m2 n2 u2;simp only[sz,simprocAttr,n2,<-hB];have hO:Own g2 B (.hsl (B+1) 0 0 vars.length none) 1 ((List.replicate vars.length 0).map ci):=.inr ⟨B+1,0,false,by omega,by omega,by simp,m2⟩;refine ⟨?_,hO.fr (by simp) λi hi=>?_,?_,by simp[St,LW,sx]⟩
  ·rw[if_neg (by omega),if_neg (by omega),u2.1 B (by omega),G.new_h,hB,aT]
  ·have:i=B+1:=by simpa [vid] using hi.symm
   subst this;simp[H.get_put,n2]
  ·exact ((Up.new (by omega) _).trans (u2.mono (by omega))).trans ((Up.new (by omega) _).trans (Up.put (by omega) _))
 rintro t df g1 ⟨rfl,n1,gB,gV,gS,U1,h1,h2,h3,-⟩;have hJ1:J 0 g1:=hJ _ _ _ (hB ▸ U1).1 h0;simp only[sz,simprocAttr,h1,bC,iB,dA];refine aR (wn (n:=n) hd (hb.tree (h':=g1.h) (Nat.le_refl _)) (by omega)) λrc hrc=>?_;simp only[sz,simprocAttr];obtain ⟨z,kz,hz⟩:=yu (d:=d) (g:=g1) (w:=rc) (cs:=S.aa n) hd (hrc.sl g1.h);simp only[sz,simprocAttr,kz];refine zF (cs:=S.aa n) (w:=z) hcs hz (by simp[sx]) (by decide) (by decide)
  (λj g'=>J j g'/\g'.h.get B=.cells 1 [[.yld id]] 0 false false/\(∃l:List Int,l.length=vars.length/\∃lo,g'.h.get (B+1)=.cells 1 (l.map ci) 0 lo false)/\g'.h.get (B+2)=.cells 1 [[.hsl (B+1) 0 0 vars.length none]] 0 false false) (λ_=>False) ?_ (λ_ _ _ h=>h) ?_ ?_ ?_ (λ_ h=>h.elim)
 ·rintro j g3 g4 hU ⟨a1,a2,a3,a4⟩;rw[n1] at hU;exact ⟨hJ _ _ _ (λi hi=>hU.1 i (by omega)) a1,by rw[hU.1 _ (by omega),a2],by rw[hU.1 _ (by omega)];exact a3,by rw[hU.1 _ (by omega),a4]⟩
 ·refine ⟨hJ1,gB,?_,gS⟩;rcases gV with ⟨h,-⟩ | ⟨id,ep,lo,-,-,h,hg⟩
  ·cases h
  ·injection h with e1 e2;subst e1;subst e2;exact ⟨_,by simp,lo,hg⟩
 ·rintro j uu g3 hj ⟨a1,a2,a3,a4⟩ hn3 hu;rw[hnc] at hj;rw[n1] at hn3 hu;simp only[sz,simprocAttr,d9];refine ⟨Fr.refl _,λg5 n5 f5 u5=>?_⟩;rw[n1] at f5 u5;obtain ⟨l,hl,lo1,a3⟩:=a3;have hin:=dk (λc hc=>(hr.cs c hc).1) (j:Int);have hvln:=cL (S.aa n) (j:Int);rw[aB] at hvln;have hu5:SlR (λi=>B+3+2<=i/\i<g3.nx) 0 g5.h (S.ah (S.aa n) (j:Int)) uu:=hu.far8 λi hi=>f5 i (by omega);have gB5:g5.h.get B=.cells 1 [[.yld id]] 0 false false:=by rw[u5.1 _ (by omega),a2]
  have gV5:Own g5 B (.hsl (B+1) 0 0 vars.length none) 1 (l.map ci):=.inr ⟨B+1,0,lo1,by omega,by omega,by rw[List.length_map,hl],by rw[u5.1 _ (by omega),a3]⟩;have gS5:g5.h.get (B+2)=.cells 1 [[.hsl (B+1) 0 0 vars.length none]] 0 false false:=by rw[u5.1 _ (by omega),a4]
  have hJ5:J j g5:=hJ _ _ _ (λi hi=>u5.1 i (by omega)) a1;simp only[sz,simprocAttr,dZ,h1,bC,iB,dA,lv];refine ON (B:=B) (n:=n) (vars:=vars) (m:=m) (mw:=mw) (oth:=oth) (vals:=S.ah (S.aa n) (j:Int)) (l:=l) (vv:=vw) (tg:=tg) (qv:=.tptr t0 6 [[.int .i64 n.grain,b,vw,ow,ww,.int .i64 m]] 0 0) (k:=k) (uu:=uu) (j:=(j:Int))
   ⟨t0,b,vw,ow,ww,rfl,ht0,hb,hv,ho,hww⟩ (by rw[hvln];exact hp) hvl hu5 (λi hi=>by omega) (by omega) gV5 gS5 hl (by simp[St,LW,sx,h1,h2,h3]) hv (by simp[sx]) (by simp[sx]) ?_
  rintro t6 g6 ⟨h5,h4,h1,h2,h3,-⟩ n6 f6 U6 gV6;have hu6:SlR (λi=>B+3+2<=i/\i<g3.nx) 0 g6.h (S.ah (S.aa n) (j:Int)) uu:=hu5.far8 λi hi=>f6 i (by omega) (by omega);simp only[sz,simprocAttr,d8,h1,bC,iB,dA,lo];refine OU (B:=B) (n:=n) (oth:=oth) (vals:=S.ah (S.aa n) (j:Int)) (tg:=tg) (k:=k) (uu:=uu) (j:=(j:Int)) (t0:=t0) (b:=b) (vw:=vw) (ow:=ow) (ww:=ww) (m:=m) hr hb ho hpo hol hin hu6 (by simp[St,LW,sx,h1,h2,h3,h4,h5]) (by simp[sx]) (by simp[sx]) ?_;rintro t7 ⟨h8,h4,h1,h2,h3,-⟩;have gB6:g6.h.get B=.cells 1 [[.yld id]] 0 false false:=by rw[f6 _ (by omega) (by omega),gB5]
  have gS6:g6.h.get (B+2)=.cells 1 [[.hsl (B+1) 0 0 vars.length none]] 0 false false:=by rw[f6 _ (by omega) (by omega),gS5]
  obtain ⟨w,hw,-,-⟩:=af (l:=mw) (j:=j) (by omega);have z1:j<(mw.map ci).length:=by rw[List.length_map];omega
  have z2:(mw.map ci)[j]?=some (ci w):=by rw[List.getElem?_map,hw];rfl
  simp only[sz,simprocAttr,sf,ea,h2,gB6,h8,h1,bC,iB,dA,rw_,h4,z1,z2,ci,h3,gS6];show (cB (I C0) d id [.agg [.int .i64 (S.bo n oth j),.int .i64 w],.hsl (B+1) 0 0 vars.length none] _).sat _ _ _;have hlp:(S.ae (S.ah (S.aa n) (j:Int)) vars).length=vars.length:=by simp[S.ae]
  refine step j w (.hsl (B+1) 0 0 vars.length none) _ _ _ hj hw ?_ (hJ _ _ _ (λi hi=>by simp[U6.1 i (by omega)]) hJ5) ?_ λg8 hJ8 n8 f8=>?_
  ·simp;omega
  ·exact hB ▸ gV6.fr (by simp<;>omega) λi hi=>by simp
  simp only[sy] at n8 f8;simp only[sz,simprocAttr,sf];refine ⟨?_,?_⟩
  ·simp only[List.reverse_cons,List.reverse_nil,List.nil_append,List.cons_append];refine aK [false,false,false,false,false,false,false,false,false,false,false,true,false] [] ?_ (by decide) (by simp);have fd:∀(t:T) (g:G) (f:Od) (xs:List Od),f.get t=.yld id->(SO.foot C0 t g (.dyn f xs)).sr=[]:=λt g f xs h=>by simp only[SO.foot,h];rfl
   simp[All2,ap,aC,fd,sx]
  refine ⟨by simp;omega,λi h1 h2=>?_,.inl ⟨rfl,hJ _ _ _ (λi hi=>by simp) hJ8,by rw[f8 _ (by omega) (by omega),gB6],?_,by rw[f8 _ (by omega) (by omega),gS6]⟩⟩
  ·rw[n1] at h1;simp[f8 i (by omega) (by omega),f6 i h2 (by omega)]
  ·rw[f8 _ (by omega) (by omega)];rcases gV6 with ⟨h,-⟩ | ⟨id,ep,lo,-,-,h,hg⟩
   ·cases h
   ·injection h with e1 e2;subst e1;subst e2;exact ⟨_,hlp,lo,hg⟩
 ·rintro g' ⟨a1,a2,a3,a4⟩ hn hdf;rw[hnc] at a1;rw[n1] at hn hdf;rw[hQf];show wL C0 d [] t [.mark g1.nx] g' K;refine pc (by rw[n1];exact hdf) ?_;exact fin _ (hJ _ _ _ (λi hi=>by rw[G.put_h,au _ _ _ (by omega)]) a1) (by simp;omega)
theorem FS:C0.ext N.aa=none:=by kernel_rfl
theorem Gs {d nt p q r k tg:Nat}{n:Net}{vars oth mw:List Int}{m:Int}{qv:AV}{ca cb:SC}{Q:QT}{t:T}{df:List ADf}{g:G}(hd:0<d)(hr:NR n)(hqv:C4 n vars oth mw m k qv)(hpv:∀x∈vars,0<=x/\x<(n.nodes.length:Int))(hvl:vars.length<=8)(hpo:∀x∈oth,0<=x/\x<(n.nodes.length:Int))(hol:oth.length<=8)(hmw:mw.length=S.an n)
  (hv:tat t r=.clo N.aa [] [.tptr tg 1 [[qv]] 0 0]) (hp:p<nt) (hq:q<nt)
  (J:Nat->G->Prop) (hJ:∀j g1 g2,(∀i,i<g.nx->g2.h.get i=g1.h.get i)->J j g1->J j g2) (h0:J 0 g)
  (step:∀(j:Nat) (w:Int) (u:AV) (g1:G),j<S.an n->mw[j]?=some w->J j g1->g.nx+2<=g1.nx->Own g1 (g.nx+2) u 1 ((S.ae (S.ah (S.aa n) (j:Int)) vars).map ci) ->
   wp C0 d (some (g.nx+1)) ca (λe t1 df g1'=>e=.norm/\df=[]/\Fr g1 g1'/\∀g2:G,g2.nx=g1'.nx->(∀i,i≠g.nx+1->g2.h.get i=g1'.h.get i) ->
    wp C0 d (some (g.nx+1)) cb (λe _ df g3=>df=[]/\RowQ g.nx g2 g3 e (J (j+1) g3) False) t1 [] g2)
    (eQ (eQ t p (.agg [.int .i64 (S.bo n oth j),.int .i64 w])) q u) [] g1)
  (fin:∀g',J (S.an n) g'->g.nx+2<=g'.nx->g'.h.get g.nx=.dfr true->Q .norm t (.mark g.nx::df) g') :
  wp C0 d none (.rng nt (.t r) [p,q] ca cb) Q t df g:=by
 refine tZ (fn:=N.aa) (first:=[]) (cap:=[.tptr tg 1 [[qv]] 0 0]) (s:=aX) hv FS mj (by simp[aX]) ?_;intro assign body ha hb';have e1:((g.new (.dfr true)).new (.loop nt t [p,q] assign body g.nx .ready none)).nx=g.nx+2:=by simp
 refine IJ (g0:=(g.new (.dfr true)).new (.loop nt t [p,q] assign body g.nx .ready none)) (id:=g.nx+1) hd hr hqv hpv hvl hpo hol hmw
  (λj g'=>J j g'/\g'.h.get g.nx=.dfr true/\g'.h.get (g.nx+1)=.loop nt t [p,q] assign body g.nx .ready none) ?_ ?_ ?_ ?_
 ·rintro j h h' hh ⟨a1,a2,a3⟩;rw[e1] at hh;exact ⟨hJ j h h' (λi hi=>hh i (by omega)) a1,by rw[hh _ (by omega),a2],by rw[hh _ (by omega),a3]⟩
 ·rintro j w u g1 K' D hj hw hn ⟨a1,a2,a3⟩ hsl kk;rw[e1] at hn kk hsl;refine B8 a3 ha hb' (t':=eQ (eQ t p (.agg [.int .i64 (S.bo n oth j),.int .i64 w])) q u) ?_ ?_
  ·simp only[cV,aa,Nat.blt_eq,if_pos hp,if_pos hq];rfl
  ·refine bM _ (step j w u g1 hj hw a1 (by omega) hsl) ?_;rintro e t1 df g1' ⟨rfl,rfl,hfr,h⟩;have hl0:g.nx+1<g1.nx:=by omega
   have hl:g.nx+1<g1'.nx:=Nat.lt_of_lt_of_le hl0 hfr.1;have a2':g1'.h.get g.nx=.dfr true:=by rw[hfr.2 _ (by omega),a2]
   have a3':g1'.h.get (g.nx+1)=.loop nt t [p,q] assign body g.nx .ready none:=by rw[hfr.2 _ hl0,a3]
   refine ⟨rfl,rfl,a3',?_⟩;refine bM _ (h (g1'.put (g.nx+1) (.loop nt t [p,q] assign body g.nx .busy none)) (by simp) (λi hi=>by simp[H.get_put,hi])) ?_;rintro e t2 df g3 ⟨rfl,⟨b2,b3,b1⟩⟩;have b4:g3.h.get (g.nx+1)=.loop nt t [p,q] assign body g.nx .busy none:=by rw[b3 _ (by omega) (by simpa using hl)];simp[H.get_put]
   have b5:g3.h.get g.nx=.dfr true:=by rw[b3 _ (by omega) (by simp;omega)];simp[H.get_put,a2']
   refine ⟨rfl,b4,?_⟩;have b2':g1'.nx<=g3.nx:=by simpa using b2
   have hf1:=hfr.1;rcases b1 with ⟨rfl,b1⟩ | ⟨rfl,b1⟩
   ·refine .inl ⟨rfl,kk _ ⟨hJ _ g3 _ (λi hi=>by rw[G.put_h,au _ _ _ (by omega)]) b1,?_,?_⟩ (by simp;omega) λi h1 h2=>?_⟩
    ·simp[H.get_put,b5]
    ·simp[H.get_put]
    ·have hne:¬i=g.nx+1:=by omega
     have:=b3 i (by omega) (by simp;omega);simp[H.get_put,hne] at this ⊢;rw[this,hfr.2 i h2]
   ·exact b1.elim
 ·refine ⟨hJ 0 g _ (λi hi=>by rw[G.new_h,au _ _ _ (by simp;omega),G.new_h,au _ _ _ (by omega)]) h0,?_,?_⟩
  ·simp[H.get_put]
  ·simp[H.get_put]
 ·rintro g' ⟨a1,a2,a3⟩ hn;rw[e1] at hn;refine ⟨_,_,_,_,_,_,.inl ⟨a3,fin _ (hJ _ g' _ (λi hi=>by rw[G.put_h,au _ _ _ (by omega)]) a1) (by simpa using hn) ?_⟩⟩;simp[H.get_put,a2]
def WoV (q:AV)(t0:Nat):VS:=λP k h v=>t0<=k/\((∃id,v=.clo N.aa [] [.hptr id 0 0 0]/\P id/\h.get id=.cells 1 [[q]] 0 false false)\/∃tg,v=.clo N.aa [] [.tptr tg 1 [[q]] 0 0]/\tg<=k)
theorem N0 {q:AV}{t0 sz i off:Nat}{rows:List (List AV)}(hq:q=.tptr t0 sz rows i off):Snb (WoV q t0) 2:=by
 subst hq;refine ⟨λ{P k h v n} d r hn=>?_,λ{k h v n} r hn=>?_⟩
 ·obtain ⟨n,rfl⟩:∃q,n=q+3:=⟨n - 3,by omega⟩;obtain ⟨r0,⟨id,rfl,-,hg⟩ | ⟨tg,rfl,ht⟩⟩:=r
  ·refine ⟨.clo N.aa [] [.tptr (Nat.max d (Nat.max (Nat.max t0 0) 0)) 1 [[.tptr t0 sz rows i off]] 0 0],?_,by omega,.inr ⟨_,rfl,?_⟩⟩
   ·simp only[Hx.snap,aE,hg,show Nat.beq 0 0=true from rfl,eE,fB]
    rfl
   ·show max d (max (max t0 0) 0)<=max k d;omega
  ·exact ⟨.clo N.aa [] [.tptr tg 1 [[.tptr t0 sz rows i off]] 0 0],rfl,by omega,.inr ⟨tg,rfl,by omega⟩⟩
 ·obtain ⟨n,rfl⟩:∃q,n=q+3:=⟨n - 3,by omega⟩;obtain ⟨r0,⟨id,-,h,-⟩ | ⟨tg,rfl,ht⟩⟩:=r
  ·exact h.elim
  ·exact ⟨Nat.max tg 0,rfl,by show max tg 0<=k;omega⟩
theorem Gk {d k:Nat}{g:G}{n:Net}{vars oth mw:List Int}{m:Int}{q:AV}(hd:k<d)(hq:C4 n vars oth mw m k q) :
  ∃tg,am C0 d N.aU [q] g=.val (.clo N.aa [] [.tptr tg 1 [[q]] 0 0]):=by
 obtain ⟨t0,b,vw,ow,ww,e0,ht,hb,hv,ho,hww⟩:=hq;have key:∃r,am C0 d N.aU [q] g=.val r/\WoV q t0 NoP k .nil r:=by
  rw[mq];refine aP nC (xs:=[q]) (by rw[e0];simp only[aE,tp]) (by simp[dE]) (N0 e0) (by decide) hd ?_;have hbx:∀g:G,Ea q g=.upd (.hptr g.nx 0 0 0) (g.new (.cells 1 [[q]] 0 false false)):=λg=>by rw[e0];rfl
  simp only[sz,simprocAttr,dE,fJ,hbx];exact ⟨λ_=>True,ht,.inl ⟨0,rfl,trivial,by simp[H.get_put]⟩⟩
 obtain ⟨r,hr,-,⟨id,-,h,-⟩ | ⟨tg,rfl,-⟩⟩:=key
 ·exact h.elim
 ·exact ⟨tg,hr⟩
theorem Ld {d k k2:Nat}{P P2:Nat->Prop}{g:G}{v w:AV}{l l2:List Int}(hd:0<d)(hl:SlR P k g.h l v)(hl2:SlR P2 k2 g.h l2 w):am C0 d N.bc [v,w] g=.val (.bool (decide (l=l2))):=by
 obtain ⟨v',ev,hv⟩:=aN hl d;obtain ⟨w',ew,hw⟩:=aN hl2 d;have rv:=λh=>(hv h).ints;have rw':=λh=>(hw h).ints;have lv:=(hv .nil).len;have lw:=(hw .nil).len;have hn:=hl.1;rw[oq];refine fQ qY (xs:=[v',w']) (by simp only[aE,ev,ew]) (by simp[dj]) hd ?_
 by_cases c:l.length=l2.length
 ·have c':(l.length:Int)=(l2.length:Int):=by omega
  simp only[sz,simprocAttr,dj,lv,lw,c'];simp only[gZ];refine bk (m:=l.length) (by omega) (λj t df g=>df=[]/\St t [(0,v'),(1,w'),(11,v')]/\l.take j=l2.take j) ⟨rfl,by simp[St,sx],by simp⟩ (by simp[sx]) (by simp[sx,c']) (by decide) (by rintro j t df g v s (rfl | rfl | rfl)<;>simp[St,sx]) ?_ ?_
  ·rintro j t df g hj ⟨rfl,⟨h0,h1,h11,-⟩,hjj⟩ h13 h12;obtain ⟨y,hy,hty,-⟩:=af hj;obtain ⟨z,hz,htz,-⟩:=af (l:=l2) (j:=j) (by omega);have u1:j<(l.map ci).length:=by simpa using hj
   have u2:(l.map ci)[j]?=some (ci y):=by rw[List.getElem?_map,hy];rfl
   have v1:j<(l2.map ci).length:=by rw[List.length_map];omega
   have v2:(l2.map ci)[j]?=some (ci z):=by rw[List.getElem?_map,hz];rfl
   by_cases e:y=z
   ·simp only[sz,simprocAttr,h0,h1,h11,h13,rv,rw',u1,u2,v1,v2,ci,e];simp[St,sx,h0,h1,h11,h12,h13,hty,htz,hjj,e]
   ·have hne:l≠l2:=λh=>e (by rw[h,hz] at hy;injection hy with hy;exact hy.symm);simp only[sz,simprocAttr,h0,h1,h11,h13,rv,rw',u1,u2,v1,v2,ci,e,hne,decide_false]
  ·rintro t df g ⟨rfl,-,hjj⟩;rw[List.take_length,c,List.take_length] at hjj;simp only[sz,simprocAttr,gQ,hjj,decide_true]
 ·have c':¬(l.length:Int)=(l2.length:Int):=by omega
  have hne:l≠l2:=λh=>c (by rw[h]);simp only[sz,simprocAttr,dj,lv,lw,c',hne,decide_false]
def S.cq (l:List Int)(i x:Int):List Int:=l.set i.toNat (max (l[i.toNat]?.getD 0) x)
def S.bk (n:Net)(vars l:List Int)(w:Nat):Bool:=decide ((S.ae (S.ah (S.aa n) (w:Int)) vars).take l.length=l)
def S.bQ (n:Net)(oth:List Int):Nat:=(S.af (S.ae (S.aa n) oth)).toNat
theorem Lh {n:Net}{e vars:List Int}{kv:Nat}{r:AV}(h:NsV n e vars NoP kv .nil r):(S.aH n e vars=0/\∃p,r=.tup [p,.int .i64 0]/\C4 n vars (S.bG n vars) (S.bh n e) (S.bc n e) kv p)\/(S.aH n e vars≠0/\r=.tup [.nilp,.int .i64 (S.aH n e vars)]):=by
 unfold NsV at h
 split at h
 ·rename_i c;obtain ⟨p,q,rfl,h1,h2⟩:=h;have h2:=aV.1 h2;injection h2 with h2;exact .inl ⟨c,p,by rw[h2],M2 h1⟩
 ·rename_i c;obtain ⟨p,q,rfl,h1,h2⟩:=h;have h2:=aV.1 h2;injection h2 with h2;have h1:p=.nilp:=h1;exact .inr ⟨c,by rw[h2,h1]⟩
theorem EH {n:Net}{e vars:List Int}:S.aH n e vars=0↔(NR n/\S.aF n e=true)/\S.aw vars (n.nodes.length:Int)=true:=by
 unfold S.aH
 split
 ·rename_i c;rw[rJ,jn] at c;cases S.aw vars (n.nodes.length:Int)<;>simp[c]
 ·rename_i c;constructor
  ·intro h;exact absurd h c
  ·rintro ⟨⟨h1,h2⟩,-⟩;exact absurd (rJ.2 ⟨jn.2 h1,h2⟩) c
theorem NQ {n:Net}{vars:List Int}:∀x∈S.bG n vars,0<=x/\x<(n.nodes.length:Int):=by intro x hx;have h:=(List.mem_filter.1 hx).1;obtain ⟨i,hi,rfl⟩:=List.mem_map.1 h;have:=List.mem_range.1 hi;omega
theorem MQ {n:Net}{e:List Int}{w:Nat}(h:w<S.an n):(S.bh n e)[w]?=some (if S.pe n e w then S.wt n w else 0):=by simp only[S.bh,S.aD,List.getElem?_map,List.getElem?_range h,Option.map_some,S.bJ];cases c:S.pe n e w<;>simp[h,c]
def Sl1 (v:AV):Prop:=∀t s rows,v=.tsl t s rows->s=1
theorem Jc {P:Nat->Prop}{k d n:Nat}{h:H}{l:List Int}{v v':AV}(r:SlR P k h l v)(h1:Sl1 v)(e:Hx.snap h d (n+1) v=some v'):Sl1 v':=by
 have r:=r.2;unfold SlV at r
 split at r
 ·injection e with e;subst e;exact λ_ _ _ h=>by cases h
 ·injection e with e;subst e;exact λ_ _ _ h=>by cases h
 ·injection e with e;subst e;exact h1
 ·rename_i id ep off len lim;obtain ⟨-,rows,q2,-⟩:=r;simp only[ak] at q2;simp only[Hx.snap] at e
  split at q2
  ·rename_i sz' rows' ep' lo fz hg;rw[hg] at e;rw[aa] at q2
   split at q2
   ·rename_i hc;simp only[Bool.and_eq_true] at hc;obtain ⟨⟨hc1,hc2⟩,hc3⟩:=hc;have e1:=Nat.eq_of_beq_eq_true hc2;dsimp only at e;rw[aa] at e
    split at e
    ·split at e
     ·split at e
      ·injection e with e;subst e;intro t s rows h;injection h with a1 a2 a3;have:Rp.sz Int=1:=rfl;omega
      ·cases e
     ·cases e
    ·cases e
   ·cases q2
  ·cases q2
 ·exact r.elim
def Ix (l:List Int):VS:=λP k h v=>SlR P k h l v/\Sl1 v
theorem sA (l:List Int):Snb (Ix l) 0:=by
 refine ⟨λ{P k h v n} d r hn=>?_,λ{k h v n} r hn=>?_⟩
 ·obtain ⟨r,r1⟩:=r;obtain ⟨v',e,r'⟩:=(aJ l).snap d (show One l P k h v from ⟨v,rfl,r⟩) hn;obtain ⟨n,rfl⟩:∃q,n=q+1:=⟨n - 1,by omega⟩;obtain ⟨w,hw,q⟩:=r';injection hw with hw;subst hw;exact ⟨v',e,q,Jc r r1 e⟩
 ·exact (aJ l).tag (show One l NoP k h v from ⟨v,rfl,r.1⟩) hn
theorem Oj {w:AV}{l:List Int}{k:Nat}(hw:SlR NoP k .nil l w)(h1:Sl1 w){c:Nat}(hc:c<=l.length) :
  ∃w',(∀g,pd 1 w none (some (.int .i64 (c:Int))) g=.val w')/\SlR NoP k .nil (l.take c) w':=by
 by_cases hne:l=[]
 ·subst hne;have:c=0:=by simpa using hc
  subst this;have hl:=hw.1;have h:=hw.2;unfold SlV at h
  split at h
  ·exact ⟨.nils,λg=>rfl,hl,rfl⟩
  ·exact ⟨.esl,λg=>rfl,hl,rfl⟩
  ·rename_i t s rows;obtain ⟨h0,-,h2⟩:=h;have hs:=h1 t s rows rfl;subst hs;have:rows=[]:=by have:=h2.len;simpa using this.symm
   subst this;exact ⟨.tsl t 1 [],λg=>rfl,hl,h0,.inl rfl,trivial⟩
  ·exact h.1.elim
  ·exact h.elim
 ·exact OT hw hne hc
theorem EI {d k2:Nat}{P2:Nat->Prop}{g:G}{n:Net}{l:List Int}{v w:AV}(hd:0<d)(hm:Agg n NoP 0 g.h v)(hw:SlR P2 k2 g.h l w)(hn:n.nodes.length<=8)(hll:l.length<=1000)(hin:∀x∈l,0<=x/\x<(n.nodes.length:Int)) :
  ∃r,am C0 d N.bK [v,w] g=.val r/\IT 0 (S.ae (S.aa n) l) r:=by
 obtain ⟨b,rows,rfl,e1,hm',hN,-⟩:=cY d hm;obtain ⟨w',e2,hw'⟩:=aN hw d;rw[v_];refine aP Au (xs:=[.agg [.int .i64 n.grain,b],w']) (by simp only[aE,e1,e2]) (by simp[nN]) (aJ _) (by decide) hd ?_;simp only[sz,simprocAttr,nN,qD];refine aR (te (n:=n) (Nat.succ_pos d) (hm' _) (by omega)) λrc hrc=>?_;simp only[sz,simprocAttr];refine aR (Fz (l:=S.aa n) (p:=l) (Nat.succ_pos d) (hrc.sl _) (hw' _) (by omega) (by rw[aB];exact hin)) λr hr=>?_;simp only[sz,simprocAttr];exact ⟨NoP,_,rfl,hr.sl _⟩
theorem IM {d k2:Nat}{P2:Nat->Prop}{g:G}{n:Net}{e:List Int}{v w:AV}(hd:0<d)(hm:Agg n NoP 0 g.h v)(he:SlR P2 k2 g.h e w) :
  am C0 d N.bo [v,w] g=.val (.int .i64 (S.aN n e)):=by
 obtain ⟨b,rows,rfl,e1,hm',hN,-⟩:=cY d hm;obtain ⟨w',e2,hw'⟩:=aN he d;have k1:=λg:G=>Id (d:=d+1) (g:=g) (Nat.succ_pos d) (hm' g.h);have k2:=λg:G=>JX (d:=d+1) (g:=g) (P:=NoP) (k:=0) (Nat.succ_pos d) (hm' g.h) (hw' g.h);rw[wS];refine dM zR (xs:=[.agg [.int .i64 n.grain,b],w']) (by simp only[aE,e1,e2]) (by simp[fV]) hd ?_;rw[S.aN];cases c1:S.aE n with
 | false=>simp only[sz,simprocAttr,fV,gq,k1,c1]
 | true=>cases c2:S.aF n e with
  | false=>simp only[sz,simprocAttr,fV,gq,k1,c1,k2,c2]
  | true=>simp only[sz,simprocAttr,fV,gq,k1,c1,k2,c2]
theorem Mp {d k2 k3:Nat}{P2 P3:Nat->Prop}{g:G}{n:Net}{e vars:List Int}{v w u:AV}(hd:0<d)(hm:Agg n NoP 0 g.h v)(he:SlR P2 k2 g.h e w)(hv:SlR P3 k3 g.h vars u) :
  am C0 d N.bV [v,w,u] g=.val (.int .i64 (S.aH n e vars)):=by
 obtain ⟨b,rows,rfl,e1,hm',hN,-⟩:=cY d hm;obtain ⟨w',e2,hw'⟩:=aN he d;obtain ⟨u',e3,hu'⟩:=aN hv d;have lN:=(hN.tree (h':=.nil) (Nat.le_refl 0)).len;have k1:=λg:G=>IM (d:=d+1) (g:=g) (Nat.succ_pos d) (hm' g.h) (hw' g.h);have k2:=λg:G=>zi (d:=d+1) (g:=g) (n:=(n.nodes.length:Int)) (Nat.succ_pos d) (hu' g.h);rw[u_];refine dM xH (xs:=[.agg [.int .i64 n.grain,b],w',u']) (by simp only[aE,e1,e2,e3]) (by simp[eZ]) hd ?_;rw[S.aH]
 by_cases c:S.aN n e=0
 ·cases c2:S.aw vars (n.nodes.length:Int) with
  | false=>simp only[sz,simprocAttr,eZ,fm,k1,c,lN,k2,c2]
  | true=>simp only[sz,simprocAttr,eZ,fm,k1,c,lN,k2,c2]
 ·simp only[sz,simprocAttr,eZ,fm,k1,c]
theorem FA {d k k2 k3:Nat}{P P2 P3:Nat->Prop}{g:G}{vals vars l:List Int}{v u w:AV}(hd:0<d)(hv:SlR P k g.h vals v)(hu:SlR P2 k2 g.h vars u)(hw:SlR P3 k3 g.h l w)(hp:∀x∈vars,0<=x/\x<(vals.length:Int))(hl:l.length<=vars.length) :
  am C0 d N.be [v,u,w] g=.val (.bool (decide ((S.ae vals vars).take l.length=l))):=by
 obtain ⟨v',e1,hv'⟩:=aN hv d;obtain ⟨u',e2,hu'⟩:=aN hu d;obtain ⟨w',e3,hw'⟩:=aN hw d;have lw:=(hw' .nil).len;have rv:=λh=>(hv' h).ints;have ru:=λh=>(hu' h).ints;have rw':=λh=>(hw' h).ints;have hlp:(S.ae vals vars).length=vars.length:=by simp[S.ae]
 rw[vT];refine fQ xQ (xs:=[v',u',w']) (by simp only[aE,e1,e2,e3]) (by simp[mz]) hd ?_;simp only[sz,simprocAttr,mz,mZ];refine bu l.length hw.1 (λj t df g=>df=[]/\St t [(0,v'),(1,u'),(2,w')]/\(S.ae vals vars).take j=l.take j) ⟨rfl,by simp[St,sx],by simp⟩ (by simp[sx]) (by decide) (by rintro j t df g v s (rfl | rfl | rfl)<;>simp[St,sx]) ?_ ?_ ?_
 ·rintro j t df g hj ⟨rfl,⟨h0,h1,h2,-⟩,hA⟩ h5;simp only[sz,simprocAttr,h0,h1,h2,h5,lw,St,hA]
 ·rintro j t df g hj ⟨rfl,⟨h0,h1,h2,-⟩,hA⟩ h5;obtain ⟨x,hx,hxt,-⟩:=af hj;obtain ⟨p,hpx,-,hpm⟩:=af (l:=vars) (j:=j) (by omega);obtain ⟨p0,p1⟩:=hp p hpm;obtain ⟨pn,rfl⟩:=Int.eq_ofNat_of_zero_le p0;obtain ⟨y,hy,-,-⟩:=af (l:=vals) (j:=pn) (by omega);have q1:j<(l.map ci).length:=by simpa using hj
  have q2:(l.map ci)[j]?=some (ci x):=by rw[List.getElem?_map,hx];rfl
  have q3:j<(vars.map ci).length:=by rw[List.length_map];omega
  have q4:(vars.map ci)[j]?=some (ci (pn:Int)):=by rw[List.getElem?_map,hpx];rfl
  have q5:pn<(vals.map ci).length:=by rw[List.length_map];omega
  have q6:(vals.map ci)[pn]?=some (ci y):=by rw[List.getElem?_map,hy];rfl
  have hcj:(S.ae vals vars)[j]?=some y:=by simp[S.ae,hpx,hy]
  have ht:(S.ae vals vars).take (j+1)=(S.ae vals vars).take j++[y]:=by rw[List.take_succ_eq_append_getElem (by omega)];congr 2;rw[List.getElem?_eq_getElem (by omega)] at hcj;injection hcj
  by_cases e:y=x
  ·simp only[sz,simprocAttr,h0,h1,h2,h5,rv,ru,rw',q1,q2,q3,q4,q5,q6,ci,e,St];rw[ht,hxt,hA,e]
  ·have hne:¬(S.ae vals vars).take l.length=l:=λh=>by have:=congrArg (·[j]?) h;simp only[List.getElem?_take,hj,if_true,hcj,hx] at this;injection this with this;exact e this
   simp only[sz,simprocAttr,h0,h1,h2,h5,rv,ru,rw',q1,q2,q3,q4,q5,q6,ci,e,hne,decide_false]
 ·rintro t df g ⟨rfl,⟨h0,h1,h2,-⟩,hA⟩;rw[List.take_length] at hA;simp only[sz,simprocAttr,nh,hA,decide_true]
theorem L7 {n:Net}(hr:NR n){oth:List Int}(hpo:∀x∈oth,0<=x/\x<(n.nodes.length:Int))(j:Nat):0<=S.bo n oth j/\S.bo n oth j<(S.bQ n oth:Int):=by have hpb:=bJ (ps:=oth) hr.cs (λp hpm=>by rw[aB];exact hpo p hpm);have hin:=dk (λc hc=>(hr.cs c hc).1) (j:Int);have hf:=cG hpb (gx hin (λp hpm=>by rw[aB];exact hpo p hpm));have h1:=(bT hpb).1;unfold S.bQ;unfold S.bo;omega
theorem KY {d k k2:Nat}{g:G}{P P2:Nat->Prop}{v w:AV}{cards vals:List Int}(hd:0<d)(hv:SlR P k g.h cards v)(hw:SlR P2 k2 g.h vals w)(hl:cards.length=vals.length)(hn:vals.length<=64)
  (hb:∀x∈vals,0<=x/\x<4294967296) :
  ∃r,am C0 d N.ba [v,w] g=.val r/\yK (One (S.aZ cards vals).1) (One (S.aZ cards vals).2) NoP 0 .nil r:=by
 obtain ⟨v',e,r1⟩:=aN hv d;obtain ⟨w',e2,r2⟩:=aN hw d;rw[xW];refine aP A2 (xs:=[v',w']) (by simp only[aE,e,e2]) (by simp[qc]) (f_ (m:=1) (aJ _) (aJ _) (by decide) (by decide)) (by decide) hd ?_;simp only[qc,sz,simprocAttr];refine bh (rows:=[]) (b:=0) (new:=vals.map ci) (.inl ⟨rfl,rfl⟩) (r2 _).ints (by simp) (by simp[aM];omega) λu g1 hu n1 f1 _ _=>?_;simp only[List.nil_append] at hu;have ul:∀g,dt .slice u g=.val (.int .i64 (vals.length:Int)):=λg=>by rw[bZ hu.rows,List.length_map]
 simp only[sz,simprocAttr,ul,ax (show -9223372036854775808<=(vals.length:Int) - 1 by omega) (show (vals.length:Int) - 1<9223372036854775808 by omega)];refine ox (m:=vals.length) (by omega) (λj t df g=>df=[]/\St t [(0,v'),(6,u)]/\∃l:List Int,l.length=vals.length/\(∀x∈l,0<=x/\x<4294967296)/\S.aZ cards vals=S.bg cards l j/\Own g 0 u 1 (l.map ci))
  ⟨rfl,by simp[sx,St],vals,rfl,hb,rfl,hu⟩ (by simp[sx]) (by decide) (by rintro j t df g v s (rfl | rfl | rfl | rfl | rfl)<;>simp[sx,St]) ?_ ?_
 ·rintro j t df g hj ⟨rfl,⟨h0,h6,-⟩,l,hll,hbl,hnx,ho⟩ h7;obtain ⟨x,hx,-,hm⟩:=af (l:=l) (j:=j) (by omega);obtain ⟨c,hc,-,hmc⟩:=af (l:=cards) (j:=j) (by omega);have hxb:=hbl x hm;have hlt:j<(l.map ci).length:=by rw[List.length_map];omega
  have hlc:j<cards.length:=by omega
  have hrow:(l.map ci)[j]?=some (ci x):=by rw[List.getElem?_map,hx];rfl
  simp only[sz,simprocAttr,h6,h7,ho.rows,hlt,hrow,ci,Option.isSome_some,Option.getD_some,ax (show -9223372036854775808<=x+1 by omega) (show x+1<9223372036854775808 by omega)];refine bQ (row:=ci x) (row':=ci (x+1)) ho hrow rfl rfl rfl λg2 o2 n2 f2=>?_;rw[<-List.map_set] at o2;have hlt2:j<((l.set j (x+1)).map ci).length:=by rw[List.length_map,List.length_set];omega
  have hrow2:((l.set j (x+1)).map ci)[j]?=some (ci (x+1)):=by rw[List.getElem?_map,List.getElem?_set_self (by omega)];rfl
  have hlcm:j<(cards.map ci).length:=by rw[List.length_map];exact hlc
  have hcl:(cards.map ci)[j]?=some (ci c):=by rw[List.getElem?_map,hc];rfl
  simp only[sz,simprocAttr,h0,h6,h7,o2.rows,hlt2,hrow2,(r1 g2.h).ints,hcl,hlcm,ci,Option.isSome_some,Option.getD_some];refine ba (λhq=>?_) (λhq=>?_)
  ·simp only[sz,simprocAttr,h6];have hq:x+1<c:=by simpa using hq
   have:S.aZ cards vals=(l.set j (x+1),true):=by rw[hnx,S.bg,hx,hc];simp[hq]
   rw[this];exact ⟨λ_=>True,_,_,rfl,o2.ints (by simp;omega),gm.2 rfl⟩
  ·simp only[sz,simprocAttr,h6,h7,o2.rows,hlt2,Option.isSome_some,Option.getD_some];have hq:¬x+1<c:=by simpa using hq
   refine bQ (row:=ci (x+1)) (row':=ci 0) o2 hrow2 rfl rfl rfl λg3 o3 n3 f3=>?_;rw[<-List.map_set,List.set_set] at o3;simp only[sz,simprocAttr,h0,h6,h7,St];refine ⟨l.set j 0,by simp[hll],λy hy=>?_,?_,o3⟩
   ·rcases List.mem_or_eq_of_mem_set hy with h | h
    ·exact hbl y h
    ·subst h;decide
   ·rw[hnx,S.bg,hx,hc];simp[hq]
 ·rintro t df g ⟨rfl,⟨h0,h6,-⟩,l,hll,hbl,hnx,ho⟩;simp only[qG,sz,simprocAttr,h6];rw[hnx,S.bg];exact ⟨λ_=>True,_,_,rfl,ho.ints (by omega),gm.2 rfl⟩
theorem zk {cs vs:List Int}(hin:InC cs vs)(hc:∀c∈cs,1<=c):∀k,k<=vs.length->(∀(j:Nat) (c:Int),k<=j->cs[j]?=some c->vs[j]?.getD 0=c - 1) ->
  ((S.bg cs (vs.take k++List.replicate (vs.length - k) 0) k).2=true/\InC cs (S.bg cs (vs.take k++List.replicate (vs.length - k) 0) k).1/\S.ak cs (S.bg cs (vs.take k++List.replicate (vs.length - k) 0) k).1=S.ak cs vs+1) \/
  ((S.bg cs (vs.take k++List.replicate (vs.length - k) 0) k).2=false/\S.ak cs vs=S.af cs - 1)
 | 0,_,h=>.inr ⟨rfl,yv hin.len.symm λi c hi=>h i c (Nat.zero_le _) hi⟩
 | k+1,hk,h=>by
  have hl:=hin.len;obtain ⟨c,hck,-,hcm⟩:=af (l:=cs) (j:=k) (by omega);obtain ⟨x,hx,hx0,hx1⟩:=hin.get hck;have hg:(vs.take (k+1)++List.replicate (vs.length - (k+1)) 0)[k]?=some x:=by rw[List.getElem?_append_left (by simp;omega),List.getElem?_take_of_lt (by omega),hx]
  rw[S.bg,hg,hck,Option.getD_some,Option.getD_some]
  by_cases q:x+1<c
  ·rw[if_pos q,uP (by omega)];exact .inl ⟨rfl,Fa hin hc hx hck (by omega),EU hl.symm hx λj c' hj hc'=>h j c' (by omega) hc'⟩
  ·rw[if_neg q,vK (by omega)];refine zk hin hc k (by omega) λj c' hj hc'=>?_
   by_cases e:j=k
   ·subst e;rw[hck] at hc';injection hc' with hc';rw[hx,Option.getD_some];omega
   ·exact h j c' (by omega) hc'
theorem B6 {cs vs:List Int}(hin:InC cs vs)(hc:∀c∈cs,1<=c):((S.aZ cs vs).2=true/\InC cs (S.aZ cs vs).1/\S.ak cs (S.aZ cs vs).1=S.ak cs vs+1)\/((S.aZ cs vs).2=false/\S.ak cs vs=S.af cs - 1):=by
 have:=zk hin hc vs.length (Nat.le_refl _) λj c hj hcj=>by have:=(List.getElem?_eq_some_iff.1 hcj).1;have:=hin.len;omega
 rwa [List.take_length,Nat.sub_self,List.replicate_zero,List.append_nil] at this
def S.a_ (cs:List Int)(j:Nat):List (List Int):=(List.range j).map λi=>S.ah cs ((i:Nat):Int)
theorem HY (cs:List Int)(j:Nat):S.a_ cs (j+1)=S.a_ cs j++[S.ah cs (j:Int)]:=by simp[S.a_,List.range_succ]
theorem LL {d k:Nat}{g:G}{P:Nat->Prop}{v:AV}{cards:List Int}(hd:0<d)(hv:SlR P k g.h cards v)(hcs:CsOk cards) :
  ∃r,am C0 d N.bj [v] g=.val r/\One (S.a_ cards (S.nc cards)) NoP 0 .nil r:=by
 obtain ⟨v',e,r1⟩:=aN hv d;have hl8:=hcs.l;obtain ⟨N1,N2,N3⟩:=hcs.nc;have hc1:=λc hc=>(hcs.b c hc).1;have al:∀j,(S.a_ cards j).length=j:=λj=>by simp[S.a_]
 rw[zU];refine aP CB (xs:=[v']) (by simp only[aE,e]) (by simp[sL]) (aJ _) (by decide) hd ?_;simp only[sL,sz,simprocAttr,(r1 .nil).len];refine qa (b:=0) (n:=cards.length) (by simp[aM];omega) (by simp[aM];omega) (by simp) λw g1 hw n1 fr1 v1=>?_;simp only[sz,simprocAttr];refine eV (λn t df g=>df=[]/\tat t 0=v'/\∃u,tat t 3=u /\
   ((tat t 5=.bool false/\n=0/\OwnT g 0 0 u (S.a_ cards (S.nc cards))) \/
    (tat t 5=.bool true/\∃(j:Nat) (y:AV),tat t 4=y/\OwnT g 0 0 u (S.a_ cards j)/\SlR (Els g 0 u) 0 g.h (S.ah cards (j:Int)) y/\j<S.nc cards/\n=S.nc cards - j/\S.ak cards (S.ah cards (j:Int))=(j:Int))))
  (S.nc cards) ⟨rfl,by simp[sx],.nils,by simp[sx],.inr ⟨by simp[sx],0,w,by simp[sx],⟨[],.inl ⟨rfl,rfl⟩,trivial⟩,?_,by omega,rfl,?_⟩⟩ ?_
 ·have hz:S.ah cards ((0:Nat):Int)=List.replicate cards.length 0:=by have:=gD hc1 (vo hc1);rwa [jI] at this
  rw[hz];refine Own.sl (α:=Int) hw (by simp;omega) ?_ λi hi=>⟨Nat.zero_le _,(hw.lt hi).2,by simp[vid]⟩;have:=All2.repl (R:=Rp.rp (Els g1 0 .nils) 0 g1.h) (a:=(0:Int)) (b:=[AV.int .i64 0]) (aV.2 rfl) cards.length;exact this
 ·have:=gD hc1 (vo hc1);rw[jI] at this;rw[show ((0:Nat):Int)=0 from rfl,this,jI]
 ·rintro n t df g ⟨rfl,h0,u,h3,⟨h5,rfl,hu⟩ | ⟨h5,j,y,h4,hu,hy,hj,hnn,hidx⟩⟩
  ·simp only[lz,sz,simprocAttr,h5];simp only[rP,sz,simprocAttr,h3];exact ⟨_,u,rfl,hu.sl (by rw[al];omega)⟩
  ·simp only[lz,sz,simprocAttr,h3,h4,h5];have yc:=hy.cell;have hin:=dk hc1 (j:Int);have hvl:=cL cards (j:Int);rw[Cm 1 [.nils] y g (by rw[yc.1];rfl) yc.2,yc.1];simp only[sz,simprocAttr];have hy1:Rp.rp (Els (g.new (.cells 1 [[y]] 0 false false)) 0 u) 0 (g.new (.cells 1 [[y]] 0 false false)).h (S.ah cards (j:Int)) [y] :=
    Rp.mono (show Rp.rp (Els g 0 u) 0 g.h (S.ah cards (j:Int)) [y] from ⟨y,rfl,hy⟩) (λi hi=>⟨⟨hi.1,by have:=hi.2.1;simp;omega,hi.2.2⟩,by have:=hi.2.1;rw[G.new_h,au _ _ _ (by omega)]⟩) (Nat.le_refl _)
   refine Ew (α:=List Int) (b:=0) (k:=0) (l:=S.a_ cards j) (y:=S.ah cards (j:Int)) (cs:=[y]) (hu.step (Fr.new _ _)) (by simp[sy,Rp.sz]) hy1 (Nat.zero_le _) (by rw[al];simp[aM];omega) λv2 g2 hv2 n2 f2 vid2 lg2=>?_;simp only[sz,simprocAttr,h0,h4];have hy2:Rp.rp (λ_=>True) 0 g2.h (S.ah cards (j:Int)) [y] :=
    Rp.mono hy1 (λi hi=>⟨trivial,by rw[f2 i hi.2.1 hi.2.2]⟩) (Nat.le_refl _)
   obtain ⟨y',hyy,hy2⟩:=hy2;injection hyy with hyy;subst hyy;refine aR (KY (Nat.succ_pos d) (r1 g2.h) hy2 (by omega) (by omega) λx hx=>?_) λr hr=>?_
   ·obtain ⟨i,hi,e⟩:=List.mem_iff_getElem.1 hx;obtain ⟨c,hcc⟩:∃c,cards[i]?=some c:=⟨_,List.getElem?_eq_getElem (by omega)⟩;obtain ⟨x',hx',q0,q1⟩:=hin.get hcc;rw[List.getElem?_eq_getElem hi,e] at hx';injection hx' with hx';have:=hcs.b c (List.mem_of_getElem? hcc);omega
   ·obtain ⟨ra,rb,rfl,hra,hrb2⟩:=hr;obtain ⟨rw',e',hra⟩:=hra;injection e' with e';subst e';have e'':=gm.1 hrb2;injection e'' with e'';subst e'';simp only[sz,simprocAttr];rw[<-HY] at hv2;rcases B6 hin hc1 with ⟨q1,q2,q3⟩ | ⟨q1,q2⟩
    ·have hlt:=(cG hcs.b q2).2;rw[q3,hidx] at hlt;have hval:S.ah cards ((j+1:Nat):Int)=(S.aZ cards (S.ah cards (j:Int))).1:=by have:=gD hc1 q2;rw[q3,hidx] at this;exact this
     rw[q1];refine ⟨S.nc cards - (j+1),by omega,h0,v2,rfl,.inr ⟨rfl,j+1,ra,rfl,hv2,?_,by omega,rfl,?_⟩⟩
     ·rw[hval];have:=Rp.mono (P':=Els g2 0 v2) (h':=g2.h) (show Rp.rp NoP 0 .nil (S.aZ cards (S.ah cards (j:Int))).1 [ra] from ⟨ra,rfl,hra⟩) (λi hi=>hi.elim) (Nat.le_refl 0);obtain ⟨z,ez,q⟩:=this;injection ez with ez;subst ez;exact q
     ·rw[hval,q3,hidx];rfl
    ·rw[q1];rw[hidx] at q2;have:j+1=S.nc cards:=by omega
     rw[this] at hv2;exact ⟨0,by omega,h0,v2,rfl,.inl ⟨rfl,rfl,hv2⟩⟩
theorem yE {cs:List Int}(hcs:CsOk cs):∀j:Nat,j<S.nc cs->S.ak cs (S.ah cs (j:Int))=(j:Int)
 | 0,_=>by have hc1:=λc hc=>(hcs.b c hc).1;have:=gD hc1 (vo hc1);rw[jI] at this;rw[show ((0:Nat):Int)=0 from rfl,this,jI]
 | j+1,h=>by
  have hc1:=λc hc=>(hcs.b c hc).1;have ih:=yE hcs j (by omega);obtain ⟨N1,N2,N3⟩:=hcs.nc;rcases B6 (dk hc1 (j:Int)) hc1 with ⟨q1,q2,q3⟩ | ⟨q1,q2⟩
  ·have:=gD hc1 q2;rw[q3,ih] at this;rw[show ((j+1:Nat):Int)=(j:Int)+1 from rfl,this,q3,ih]
  ·omega
section
variable {α:Type} [DecidableEq α]
def mgt (L:List (α×Int))(k:α):Int:=match L with
 | []=>0
 | (a,v)::r=>if k=a then v else mgt r k
def mcl (kf:α->AV)(L:List (α×Int)):List (AV×AV):=L.map λp=>(kf p.1,.int .i64 p.2)
end
def ik (a:Int):AV:=.int .i64 a
end
end Hx
end
section
namespace Hx
open Go
noncomputable section
structure BeJ (g0:G) (w m b:Int) (h:H):Prop where
 fr:∀i,i<g0.nx->i≠1->i≠5->i≠6->h.get i=g0.h.get i
 h1:h.get 1=.cells 1 [[.int .i64 w]] 0 false false
 h5:h.get 5=.cells 1 [[.int .i64 m]] 0 false false
 h6:h.get 6=.cells 1 [[.int .i64 b]] 0 false false
def LT0 (w z:AV):List (Nat×AV):=[(1,w),(2,z),(3,.hptr 0 0 0 0),(6,.hptr 1 0 0 0),(7,.int .i64 0),(8,.hptr 3 0 0 0),(11,.hptr 4 0 0 0)]
structure TbA (g0:G) (vars:List Int) (K:Int) (w z:AV) (j:Nat) (t:T) (g:G):Prop where
 st:St t (LT0 w z)
 h10:tat t 10=.int .i64 (ig vars j)
 h32:tat t 32=z
 pl:PlI vars K K.toNat j
 nx:g0.nx<=g.nx
 fr:∀i,i<g0.nx->i≠4->g.h.get i=g0.h.get i
 h4:g.h.get 4=.cells 1 [[.int .u64 (S.au (vars.take j):Int)]] 0 false false
theorem vS {α:Type}{l:List α}{i:Nat}{a:α}(h:l[i]?=some a):l.set i a=l:=by
 refine List.ext_getElem? λj=>?_;rw[List.getElem?_set]
 by_cases e:i=j
 ·subst e;rw[if_pos rfl,if_pos (List.getElem?_eq_some_iff.1 h).1,h]
 ·rw[if_neg e]
theorem BS.fin0 {K J:Nat}{L:List Node}{x:Node}{bx:kH}{gr Rw:Int}{t t':T}{g:G}{V:Ky->AV}{E:Ky->En}{Q:QT}(hS:BS K J L x bx gr Rw t g V E)(fin:vy Q)(h3:tat t' 3=.hptr 1 0 0 0)(h4:tat t' 4=.hptr 2 0 0 0):Q .norm t' [] g :=
 fin _ _ gr _ L h3 h4 hS.f1 hS.f2 hS.sl
theorem yL {g:G}{v:AV}{rows:List (List AV)}(h:ak g.h 1 v=some rows)(hl:0<rows.length):∀g':G,g'.h=g.h->AQ 1 v (.int .i64 0) g'=.val (iz 1 v 0 0):=λg' e =>
 Em (by rw[e,h];rfl) (by decide) (by rw[e,h];simpa using hl)
structure BW (x:Node) (J:Nat) (g:G) (V:Ky->AV) (E:Ky->En) (rws:List (List AV)):Prop where
 own:Own g 3 (V (J+1,1)) 1 rws
 e1:E (J+1,1)=.sl 1 rws
 len:rws.length=x.rows.length
 at_:∀(r:Nat) (y:List Int),x.rows[r]?=some y->rws[r]?=some [V (J+1,2+r)]
theorem BS.bw {K J:Nat}{L:List Node}{x:Node}{bx:kH}{gr Rw:Int}{t:T}{g:G}{V:Ky->AV}{E:Ky->En}(hS:BS K J L x bx gr Rw t g V E):∃rws,BW x J g V E rws:=by obtain ⟨rws,q1,q2,q3⟩:=(hS.bl.nd J x hS.hx).rs;exact ⟨rws,hS.hp.own (LS.s hS.hx (by omega)) q1,q1,q2,q3⟩
theorem Cu {K r:Nat}{J:Nat}{x:Node}{V V':Ky->AV}{E E':Ky->En}{rws:List (List AV)}{y':List Int}(h:NdOk K V E J x)(hq:∀r y,x.rows[r]?=some y->rws[r]?=some [V (J+1,2+r)])(hl:rws.length=x.rows.length)(hr:r<x.rows.length)
  (hp:E' (J+1,0)=E (J+1,0)) (h1:E' (J+1,1)=.sl 1 (rws.set r [V' (J+1,2+r)])) (h2:E' (J+1,2+r)=.sl 1 (y'.map ci)) (hv:∀q,q≠r->V' (J+1,2+q)=V (J+1,2+q)) (he:∀q,q≠r->E' (J+1,2+q)=E (J+1,2+q)) (hy:y'.length<=K):NdOk K V' E' J ⟨x.card,x.parents,x.rows.set r y'⟩:=by
 refine ⟨by rw[hp];exact h.ps,⟨_,h1,by simp[hl],λq z hz=>?_⟩,λq z hz=>?_,h.len.1,by simpa using h.len.2.1,λz hz=>?_⟩
 ·have hz:(x.rows.set r y')[q]?=some z:=hz
  by_cases e:r=q
  ·subst e;rw[List.getElem?_set_self (by omega)]
  ·rw[List.getElem?_set_ne e] at hz ⊢;rw[hv q (Ne.symm e)];exact hq q z hz
 ·have hz:(x.rows.set r y')[q]?=some z:=hz
  by_cases e:r=q
  ·subst e;rw[List.getElem?_set_self (by omega)] at hz;injection hz with hz;subst hz;exact h2
  ·rw[List.getElem?_set_ne e] at hz;rw[he q (Ne.symm e)];exact h.rr q z hz
 ·rcases List.mem_or_eq_of_mem_set hz with h' | rfl
  ·exact h.len.2.2 z h'
  ·exact hy
section
variable {d K J:Nat}{L:List Node}{x:Node}{bx:kH}{gr Rw:Int}{t:T}{g:G}{V:Ky->AV}{E:Ky->En}{Q:QT}
theorem bc4 (hS:BS K J L x bx gr Rw t g V E)(fin:vy Q) :
  wp C0 d none (.feet [0,0,2,6,14,0,32,96,224,510,1023,2047,4095] [oM 142 10,oM 143 10,o 144 (.nilc (.t 143)),oF 145 2 144,oL 146 145,oF 147 3 2,oL 148 147,o 149 (.bsl 1 1 [.int .i64 0] [0] [.t 148]),o 150 (.bsl 1 1 [.nils] [0] [.t 149]),o 151 (.app 1 24 (.t 146) (.t 150)),o 152 (.nilc (.t 142)),oF 153 2 152,oz (.store 1 (.t 153) (.t 151))]) Q t [] g:=by
 obtain ⟨h2,h3,h4,h10,h11,-⟩:=hS.st;obtain ⟨rows,hB⟩:=hS.bt;obtain ⟨rws,hW⟩:=hS.bw;have hK:=hS.hK;have hl:=hS.hl;have hnx:=hS.hp.nx;have hlen:=hB.nd.len;simp only[sz,simprocAttr,sf,h2,h10,hS.f0,bz hB.ry,bE hB.ry,hB.own.rows,hB.hlt,hB.row];refine (hS.hp.step (g':=_) (by simp<;>omega) (λi hi hi2=>?_)).app2 (k:=(J+1,1)) (LS.s hS.hx (by omega)) hW.e1 (new:=[[.hsl (g.nx+1+1+1+1+1+1+1) 0 0 1 none]]) (by simp[sx,sy]) (by have:=hW.len;simp[aM];omega) λv1 ga hHa na fra foa lga vca vta=>?_
 ·simp[H.get_put];rw[if_neg (by omega),if_neg (by omega)]
 simp only[sx,sy] at na fra foa lga;have e00:ups V (J+1,1) v1 (0,0)=V (0,0):=ae _ _ (by simp<;>omega);have kn:ga.h.get (g.nx+1+1+1+1+1+1+1)=.cells 1 [[.int .i64 bx.2.2.2]] 0 false false:=by rw[foa (g.nx+1+1+1+1+1+1+1) (by omega) (λe=>by rw[bW hW.own] at e;have:=(hW.own.lt e).2;omega)];simp[H.get_put]
 simp only[sz,simprocAttr,sf,bz hB.ry,bE hB.ry];refine (hHa.same (g':=_) (by simp) (by simp<;>omega)).putv (k:=(0,0)) LS.z e00 (row':=[.int .i64 x.card,V (J+1,0),v1]) (by rw[ae _ _ (by simp<;>omega)];exact hB.e0) hB.row (by rw[vca];rfl) vta (by rw[vca];rfl) λgb hHb nb frb fob=>?_;simp only[sy] at nb frb fob ⊢;refine ⟨?_,?_⟩
 ·simp only[List.reverse_cons,List.reverse_nil,List.nil_append,List.cons_append];refine aK [false,false,false,false,false,false,false,true,true,true,false,false,true] [(0,7),(1,7),(2,7),(3,7),(4,7),(0,8),(1,8),(2,8),(3,8),(4,8),(0,9)] (by simp[All2,ap,aC]) (by decide) ?_;rintro p hp x y hx hy;simp only[List.mem_cons,List.not_mem_nil,or_false] at hp;have ro1:=hB.own.refs_lt;rcases hp with rfl | rfl | rfl | rfl | rfl | rfl | rfl | rfl | rfl | rfl | rfl<;>(simp at hx hy;subst hx;subst hy;refine dK rfl rfl rfl rfl ?_ ?_ ?_<;>simp[ap,aC,gT hB.ry]<;>first | omega | (intro i' hi';have:=ro1 i' hi';omega) | skip)
 have knb:gb.h.get (g.nx+1+1+1+1+1+1+1)=.cells 1 [[.int .i64 bx.2.2.2]] 0 false false:=by rw[fob (g.nx+1+1+1+1+1+1+1) (λe=>by rw[e00,bW hB.own] at e;have:=(hB.own.lt e).2;omega)];simpa using kn
 have hpar:SlR P3 0 gb.h x.parents (V (J+1,0)):=by have:=hHb.own (k:=(J+1,0)) (LS.s hS.hx (by omega)) (by rw[ae _ _ (by simp<;>omega),ae _ _ (by simp<;>omega)];exact hB.nd.ps);rw[ae _ _ (by simp<;>omega)] at this;exact s_ this (by omega) λ_ h=>h
 have hrws:SlR P3 0 gb.h (x.rows++[[bx.2.2.2]]) v1:=by
  have ho:=hHb.own (k:=(J+1,1)) (LS.s hS.hx (by omega)) (by rw[ae _ _ (by simp<;>omega),aq]);rw[aq] at ho;refine Own.sl (α:=List Int) ho (by simp<;>omega) (All2.append (vN hW.len.symm λr y row hy hr=>?_) ⟨?_,trivial⟩) λi hi=>(ho.lt hi).1
  ·rw[hW.at_ r y hy] at hr;injection hr with hr;subst hr;have hrl:=(List.getElem?_eq_some_iff.1 hy).1;have:=hHb.own (k:=(J+1,2+r)) (LS.s hS.hx (by omega)) (by rw[ae _ _ (by simp<;>omega),ae _ _ (by simp<;>omega)];exact hB.nd.rr r y hy);rw[ae _ _ (by simp<;>omega)] at this;exact di.2 ⟨_,rfl,s_ this (by have:=hlen.2.2 y (List.mem_of_getElem? hy);omega) λ_ h=>h⟩
  ·refine di.2 ⟨_,rfl,by show 1<9223372036854775808;decide,(by show 3<=(g.nx+1+1+1+1+1+1+1);omega),[[.int .i64 bx.2.2.2]],?_,aV.2 rfl,trivial⟩;show ak gb.h 1 _=_;simp only[ak,knb];rfl
 obtain ⟨nds,hn⟩:=uw (x':=⟨x.card,x.parents,x.rows++[[bx.2.2.2]]⟩) hHb (λk hk=>hk) hB.oth.v.e.z (aq _ _ _) e00 (bN.2 ⟨_,_,rfl,hpar,hrws⟩) (by omega) (by omega);have g1e:gb.h.get 1=.cells 2 [[.int .i64 gr,V (0,0)]] 0 false false:=by rw[frb 1 (by omega)];(try simp);rw[fra 1 (by omega),if_neg (by omega),if_neg (by omega),hS.f1]
 have g2e:gb.h.get 2=.cells 2 [[.int .i64 0,.nils]] 0 false false:=by rw[frb 2 (by omega)];(try simp);rw[fra 2 (by omega),if_neg (by omega),if_neg (by omega),hS.f2]
 exact fin _ _ gr _ nds (by simp[sx,h3]) (by simp[sx,h4]) (by simpa using g1e) (by simpa using g2e) (hn.heap (by simp))
theorem bc5 (hS:BS K J L x bx gr Rw t g V E)(fin:vy Q) :
  wp C0 d none (sQ [oM 156 11,o 157 (.bin .geq (.t 156) (qI 0))] (.cond (.t 157) (.ops [oM 158 10,oM 159 10,o 160 (.nilc (.t 159)),oF 161 2 160,oL 162 161,oM 163 11,o 164 (.slc 1 (.t 162) [] [.t 163]),o 165 (.nilc (.t 158)),oF 166 2 165,oz (.store 1 (.t 166) (.t 164))]) (.skip))) Q t [] g:=by
 obtain ⟨h2,h3,h4,h10,h11,-⟩:=hS.st;obtain ⟨rows,hB⟩:=hS.bt;obtain ⟨rws,hW⟩:=hS.bw;have hK:=hS.hK;have hl:=hS.hl;rcases hS.hR with ⟨rfl,h0⟩ | ⟨r,rfl,hr⟩
 ·simp only[sx,SO.run,↓reduceIte,h11];exact ⟨λh=>by simp at h,λ_=>hS.fin0 fin (by simp[sx,h3]) (by simp[sx,h4])⟩
 ·simp only[sx,SO.run,↓reduceIte,h11];refine ⟨λ_=>?_,λh=>by simp at h⟩;obtain ⟨y,q1,q2,q3⟩:=GS (α:=List Int) hW.own (n:=r) (by intro h;have:=hW.len;rw[h] at this;simp at this;omega) (by have:=hW.len;omega);have q1:pd 1 (V (J+1,1)) none (some (.int .i64 (r:Int))) g=.val y:=q1;simp only[sx,sy,SO.run,↓reduceIte,Nat.reduceEqDiff,h10,h11,bz hB.ry,bE hB.ry,hB.own.rows,hB.hlt,hB.row,q1,List.head?_nil,List.head?_cons,Option.isSome_some,Option.getD_some];refine hS.hp.put LS.z (off:=2) (n:=1) (row':=[.int .i64 x.card,V (J+1,0),y]) hB.e0 hB.row (by simp[q2.1]) q2.2 (by rw[q2.1];rfl) λgb hHb nb frb fob=>?_;simp only[sx];have hnd:=hB.nd.congr (V':=V) (E':=ups E (0,0) (.sl 3 (rows.set J [.int .i64 x.card,V (J+1,0),y]))) (λ_=>rfl) (λq=>ae _ _ (by simp<;>omega));have hrd:Rp.rp P3 0 gb.h (⟨x.card,x.parents,x.rows.take r⟩:Node) [.int .i64 x.card,V (J+1,0),y]:=by refine bN.2 ⟨_,_,rfl,hnd.pars hHb (LS.s hS.hx (by omega)) (by omega),q3 P3 0 _ gb.h (λi hi=>fob i λe=>?_) (hnd.rows hHb (λq hq=>LS.s hS.hx hq) (by omega))⟩;exact hS.hp.sep (0,0) (J+1,1) LS.z (LS.s hS.hx (by omega)) (by simp) i e (by rw[bW hW.own];exact hi)
  obtain ⟨nds,hn⟩:=uw hHb (λk hk=>hk) hB.oth.z (aq _ _ _) rfl hrd (by omega) (by omega);exact fin _ _ gr _ nds (by simp[sx,h3]) (by simp[sx,h4]) (by rw[frb 1 (by omega),hS.f1]) (by rw[frb 2 (by omega),hS.f2]) hn
theorem bc6 (hS:BS K J L x bx gr Rw t g V E)(fin:vy Q) :
  wp C0 d none (sQ [oM 169 11,o 170 (.bin .geq (.t 169) (qI 0)),oM 171 170,og 172 171 true (.mv (.t 10)),og 173 171 true (.nilc (.t 172)),og 174 171 true (.fad 2 (.t 173)),og 175 171 true (.load false 1 (.t 174)),og 176 171 true (.mv (.t 11)),og 177 171 true (.ixs 1 (.t 175) (.t 176)),og 178 171 true (.load false 1 (.t 177)),og 179 171 true (.len .slice (.t 178)),og 180 171 true (.bin .gtr (.t 179) (qI 0)),o 181 (.pick (.t 171) (.t 180) (.k (.bool false)))] (.cond (.t 181) (.feet [0,1,3,7,0,31,63,0,128,511,1023] [oM 182 10,o 183 (.nilc (.t 182)),oF 184 2 183,oL 185 184,oM 186 11,oX 187 185 186,oL 188 187,oF 189 3 2,oL 190 189,o 191 (.ixs 1 (.t 188) (qI 0)),oz (.store 1 (.t 191) (.t 190))]) (.skip))) Q t [] g:=by
 obtain ⟨h2,h3,h4,h10,h11,-⟩:=hS.st;obtain ⟨rows,hB⟩:=hS.bt;obtain ⟨rws,hW⟩:=hS.bw;have hK:=hS.hK;have hl:=hS.hl;rcases hS.hR with ⟨rfl,h0⟩ | ⟨r,rfl,hr⟩
 ·simp only[sz,simprocAttr,h11,show decide ((-1:Int) >= 0)=false from rfl];exact hS.fin0 fin (by simp[sx,h3]) (by simp[sx,h4])
 ·obtain ⟨y,hy⟩:∃y,x.rows[r]?=some y:=⟨_,List.getElem?_eq_getElem hr⟩;have hrw:=hW.at_ r y hy;have hkL:LS L (J+1,2+r):=LS.s hS.hx (by omega);have hyo:=hS.hp.own hkL (hB.nd.rr r y hy);have hyl:=hB.nd.len.2.2 y (List.mem_of_getElem? hy);have ly:=bZ hyo.rows;rw[List.length_map] at ly;have hrl:r<rws.length:=by have:=hW.len;omega
  have hryw:lT (V (J+1,1))=true:=eL hW.own (by omega);simp only[sz,simprocAttr,h10,h11,show decide ((r:Int) >= 0)=true from by simp,bz hB.ry,bE hB.ry,hB.own.rows,hB.hlt,hB.row,hW.own.rows,hrl,hrw,ly];refine ba (λhb=>?_) (λhb=>?_)
  ·have hpos:0<y.length:=by simpa using hb
   obtain ⟨z,hz⟩:∃z,y[0]?=some z:=⟨_,List.getElem?_eq_getElem hpos⟩;have u1:0<(y.map ci).length:=by simpa using hpos
   have u2:(y.map ci)[0]?=some (ci z):=by rw[List.getElem?_map,hz];rfl
   have u3:=hyo.rows;have hryy:lT (V (J+1,2+r))=true:=eL hyo u1;simp only[sz,simprocAttr,sf,h2,h10,h11,hS.f0,bz hB.ry,bE hB.ry,hB.own.rows,hB.hlt,hB.row,hW.own.rows,hrl,hrw,yL u3 u1];refine (hS.hp.same (g':=_) (by simp) (by simp<;>omega)).put (k:=(J+1,2+r)) (i:=0) (off:=0) (n:=1) (row:=ci z) (row':=ci bx.2.2.2) hkL (hB.nd.rr r y hy) u2 rfl rfl rfl λgb hHb nb frb fob=>?_;simp only[sy] at nb frb fob ⊢;refine ⟨?_,?_⟩
   ·simp only[List.reverse_cons,List.reverse_nil,List.nil_append,List.cons_append];exact aK [false,false,false,false,false,false,false,false,false,false,true] [] (by simp[All2,ap,aC]) (by decide) (by simp)
   have hnd:=Cu (r:=r) (V':=V) (E':=ups E (J+1,2+r) (.sl 1 ((y.map ci).set 0 (ci bx.2.2.2)))) (y':=y.set 0 bx.2.2.2) hB.nd hW.at_ hW.len hr (ae _ _ (by simp<;>omega)) (by rw[ae _ _ (by simp<;>omega),hW.e1,vS hrw]) (by rw[aq,List.map_set]) (λ_ _=>rfl) (λq hq=>ae _ _ (by simp<;>omega)) (by simpa using hyl);have hrd:=hnd.rd hHb (λq hq=>LS.s hS.hx (by simpa using hq)) (by omega);obtain ⟨nds,hn⟩:=uw (rows:=rows) (J:=J) hHb (λk hk=>hk) hB.oth.e (by rw[ae _ _ (by simp<;>omega),hB.e0];exact congrArg _ (vS hB.row).symm) rfl hrd (by omega) (by omega);exact fin _ _ gr _ nds (by simp[sx,h3]) (by simp[sx,h4]) (by simp only[bumpG_h];rw[frb 1 (by omega)];simpa using hS.f1) (by simp only[bumpG_h];rw[frb 2 (by omega)];simpa using hS.f2) (hn.heap (by simp))
  ·simp only[sx];exact hS.fin0 fin (by simp[sx,h3]) (by simp[sx,h4])
end
end
end Hx
end
section
namespace Hx
open Go
noncomputable section
section
variable {d K J:Nat}{L:List Node}{x:Node}{bx:kH}{gr Rw:Int}{t:T}{g:G}{V:Ky->AV}{E:Ky->En}{Q:QT}
theorem bc7 (hS:BS K J L x bx gr Rw t g V E)(fin:vy Q) :
  wp C0 d none (sQ [oM 194 11,o 195 (.bin .geq (.t 194) (qI 0))] (.cond (.t 195) (.feet [0,1,3,7,0,0,32,96,224,0,992,2016,0,8160,16383,32767] [oM 196 10,o 197 (.nilc (.t 196)),oF 198 2 197,oL 199 198,oM 200 11,oM 201 10,o 202 (.nilc (.t 201)),oF 203 2 202,oL 204 203,oM 205 11,oX 206 204 205,oL 207 206,o 208 (.bsl 1 1 [.int .i64 0] [0] [.k (.int .i64 0)]),o 209 (.app 1 8 (.t 207) (.t 208)),oX 210 199 200,oz (.store 1 (.t 210) (.t 209))]) (.skip))) Q t [] g:=by
 obtain ⟨h2,h3,h4,h10,h11,-⟩:=hS.st;obtain ⟨rows,hB⟩:=hS.bt;obtain ⟨rws,hW⟩:=hS.bw;have hK:=hS.hK;have hl:=hS.hl;have hnx:=hS.hp.nx;rcases hS.hR with ⟨rfl,h0⟩ | ⟨r,rfl,hr⟩
 ·simp only[sx,SO.run,↓reduceIte,h11];exact ⟨λh=>by simp at h,λ_=>hS.fin0 fin (by simp[sx,h3]) (by simp[sx,h4])⟩
 ·simp only[sx,SO.run,↓reduceIte,h11];refine ⟨λ_=>?_,λh=>by simp at h⟩;obtain ⟨y,hy⟩:∃y,x.rows[r]?=some y:=⟨_,List.getElem?_eq_getElem hr⟩;have hrw:=hW.at_ r y hy;have hkL:LS L (J+1,2+r):=LS.s hS.hx (by omega);have hE2:=hB.nd.rr r y hy;have hyo:=hS.hp.own hkL hE2;have hyl:=hB.nd.len.2.2 y (List.mem_of_getElem? hy);have hrl:r<rws.length:=by have:=hW.len;omega
  have hryw:lT (V (J+1,1))=true:=eL hW.own (by omega);simp only[sx,sy,sf,SO.run,↓reduceIte,Nat.reduceEqDiff,h10,h11,bz hB.ry,bE hB.ry,hB.own.rows,hB.hlt,hB.row,hW.own.rows,hrl,hrw,Option.isSome_some,Option.getD_some];refine (hS.hp.step (g':=_) (by simp<;>omega) (λi hi hi2=>?_)).app2 (k:=(J+1,2+r)) hkL hE2 (new:=[[.int .i64 0]]) (by simp[sx,sy]) (by simp[aM];omega) λv1 ga hHa na fra foa lga vca vta=>?_
  ·simp[H.get_put];omega
  simp only[sx,sy] at na fra foa lga;have e11:ups V (J+1,2+r) v1 (J+1,1)=V (J+1,1):=ae _ _ (by simp<;>omega);have hE1:ups E (J+1,2+r) (.sl 1 (y.map ci++[[.int .i64 0]])) (J+1,1)=.sl 1 rws:=by rw[ae _ _ (by simp<;>omega)];exact hW.e1
  have rwa:ak ga.h 1 (V (J+1,1))=some rws:=by rw[<-e11];exact (hHa.own (LS.s hS.hx (by omega)) hE1).rows
  simp only[sx,sy,sf,SO.run,↓reduceIte,Nat.reduceEqDiff,rwa,hrl,Option.isSome_some,Option.getD_some];refine (hHa.same (g':=_) (by simp) (by simp<;>omega)).putv (k:=(J+1,1)) (i:=r) (off:=0) (n:=1) (LS.s hS.hx (by omega)) e11 (row':=[v1]) hE1 hrw (by rw[vca];rfl) vta (by rw[vca];rfl) λgb hHb nb frb fob=>?_;simp only[sy] at nb frb fob ⊢;refine ⟨?_,?_⟩
  ·simp only[List.reverse_cons,List.reverse_nil,List.nil_append,List.cons_append];refine aK [false,false,false,false,false,false,false,false,false,false,false,false,true,true,false,true] [(0,12),(1,12),(2,12),(3,12),(4,12),(5,12),(6,12),(7,12),(8,12),(9,12),(10,12),(11,12),(0,13),(1,13),(2,13),(3,13),(4,13)] (by simp[All2,ap,aC]) (by decide) ?_;have ro1:=hB.own.refs_lt;have ro2:=hW.own.refs_lt;have lg0:∀i∈ga.lg,i ∉ an (V (0,0)):=λi hi hm=>by
    obtain ⟨id0,hv0⟩:∃id,eid (V (0,0))=some id/\an (V (0,0))=[id]:=by
     rcases hB.own with ⟨h,-⟩ | ⟨id,ep,lo,-,-,h,-⟩
     ·rw[h] at hm;simp[an] at hm
     ·rw[h];exact ⟨id,rfl,rfl⟩
    rw[hv0.2] at hm;have hm:=List.mem_singleton.1 hm;subst hm;rcases lga i hi with h | h | h
    ·simp at h
    ·exact hS.hp.sep (J+1,2+r) (0,0) hkL LS.z (by simp) i h hv0.1
    ·have:=ro1 i (by rw[hv0.2];simp);omega
   rintro p hp x y hx hy;simp only[List.mem_cons,List.not_mem_nil,or_false] at hp;rcases hp with rfl | rfl | rfl | rfl | rfl | rfl | rfl | rfl | rfl | rfl | rfl | rfl | rfl | rfl | rfl | rfl | rfl<;>(simp at hx hy;subst hx;subst hy;refine dK rfl rfl rfl rfl ?_ ?_ ?_<;>simp[ap,aC,gT hB.ry,gT hryw]<;>first | omega | (intro i' hi';have:=ro1 i' hi';omega) | (intro i' hi';have:=ro2 i' hi';omega) | exact lg0 | exact (λi hi h=>lg0 h hi) | exact (λi hi h=>lg0 i h hi) | (intro i' hi' hm;exact lg0 _ hi' hm) | exact (λi hi j hj e=>lg0 i hi (e ▸ hj)) | skip)
  have hnd:=Cu (r:=r) (V':=ups V (J+1,2+r) v1) (E':=ups (ups E (J+1,2+r) (.sl 1 (y.map ci++[[.int .i64 0]]))) (J+1,1) (.sl 1 (rws.set r [v1]))) (y':=y++[0]) (hB.nd.up (show K<=K+1 by omega)) hW.at_ hW.len hr (by rw[ae _ _ (by simp<;>omega),ae _ _ (by simp<;>omega)]) (by rw[aq,aq]) (by rw[ae _ _ (by simp<;>omega),aq];simp[ci]) (λq hq=>ae _ _ (by simp<;>omega)) (λq hq=>by rw[ae _ _ (by simp<;>omega),ae _ _ (by simp<;>omega)]) (by simp<;>omega);have hrd:=hnd.rd hHb (λq hq=>LS.s hS.hx (by simpa using hq)) (by omega);obtain ⟨nds,hn⟩:=uw (rows:=rows) (J:=J) hHb (λk hk=>hk) hB.oth.v.e.e (by rw[ae _ _ (by simp<;>omega),ae _ _ (by simp<;>omega),hB.e0];rw[ko,ae _ _ (by simp<;>omega),ae _ _ (by simp<;>omega)];exact congrArg _ (vS hB.row).symm) (ae _ _ (by simp<;>omega)) hrd (by omega) (by omega);have g1e:gb.h.get 1=.cells 2 [[.int .i64 gr,V (0,0)]] 0 false false:=by rw[frb 1 (by omega)];(try simp);rw[fra 1 (by omega),if_neg (by omega),hS.f1]
  have g2e:gb.h.get 2=.cells 2 [[.int .i64 0,.nils]] 0 false false:=by rw[frb 2 (by omega)];(try simp);rw[fra 2 (by omega),if_neg (by omega),hS.f2]
  exact fin _ _ gr _ nds (by simp[sx,h3]) (by simp[sx,h4]) (by simpa using g1e) (by simpa using g2e) (hn.heap (by simp))
theorem Pe (hS:BS K J L x bx gr Rw t g V E)(fin:vy Q) :
  wp C0 d none (.ops [oF 312 1 3,oL 313 312,oF 314 0 3,oL 315 314,o 316 (.bsl 1 1 [.int .i64 0] [0] [.t 315]),o 317 (.bsl 1 1 [.nils] [0] [.t 316]),o 318 (.build [.int .i64 0,.nils,.nils] [(0,1),(2,1)] [.k (.int .i64 1),.t 317]),o 319 (.bsl 3 1 [.int .i64 0,.nils,.nils] [0] [.t 318]),o 320 (.app 3 56 (.t 313) (.t 319)),oF 321 1 3,oz (.store 1 (.t 321) (.t 320))]) Q t [] g:=by
 obtain ⟨h2,h3,h4,h10,h11,-⟩:=hS.st;obtain ⟨rows,hB⟩:=hS.bt;have hK:=hS.hK;have hl:=hS.hl;have hnx:=hS.hp.nx;have hrl:=hB.oth.len;simp only[sz,simprocAttr,h3,hS.f1];refine (hS.hp.step (g':=_) (by simp<;>omega) (λi hi hi2=>?_)).app2 (k:=(0,0)) LS.z hB.e0 (new:=[[.int .i64 1,.nils,.hsl (g.nx+1) 0 0 1 none]]) (by simp[sx,sy]) (by simp[aM];omega) λv1 gb hHb nb frb fob _ vca vta=>?_
 ·simp[H.get_put];rw[if_neg (by omega),if_neg (by omega),if_neg (by omega)]
 simp only[sx,sy] at nb frb fob;have ne:∀i,g.nx<=i->eid (V (0,0))≠some i:=λi hi e=>by rw[bW hB.own] at e;have:=(hB.own.lt e).2;omega
 have k1:gb.h.get g.nx=.cells 1 [[.int .i64 gr]] 0 false false:=by rw[fob g.nx (by omega) (ne _ (Nat.le_refl _))];simp[H.get_put]<;>omega
 have k2:gb.h.get (g.nx+1)=.cells 1 [[.hsl g.nx 0 0 1 none]] 0 false false:=by rw[fob (g.nx+1) (by omega) (ne _ (by omega))];simp[H.get_put]<;>omega
 have hnew:Rp.rp P3 0 gb.h (⟨1,[],[[gr]]⟩:Node) [.int .i64 1,.nils,.hsl (g.nx+1) 0 0 1 none]:=by
  refine bN.2 ⟨_,_,rfl,⟨by show 0<9223372036854775808;decide,rfl⟩,⟨by show 1<9223372036854775808;decide,by show 3<=g.nx+1;omega,[[.hsl g.nx 0 0 1 none]],?_,di.2 ⟨_,rfl,by show 1<9223372036854775808;decide,hnx,[[.int .i64 gr]],?_,aV.2 rfl,trivial⟩,trivial⟩⟩
  ·show ak gb.h 1 _=_;simp only[ak,k2];rfl
  ·show ak gb.h 1 _=_;simp only[ak,k1];rfl
 have ho:=hHb.own LS.z (aq _ _ _);rw[aq] at ho;obtain ⟨nds,-,hn⟩:=Ep ho (by simp<;>omega) λi row hi=>by
  by_cases e:i<rows.length
  ·rw[List.getElem?_append_left e] at hi;obtain ⟨z,hz⟩:∃z,L[i]?=some z:=⟨_,List.getElem?_eq_getElem (by omega)⟩;have hnd:=(hS.bl.nd i z hz).congr (V':=ups V (0,0) v1) (E':=ups E (0,0) (.sl 3 (rows++[[.int .i64 1,.nils,.hsl (g.nx+1) 0 0 1 none]]))) (λq=>ae _ _ (by simp<;>omega)) (λq=>ae _ _ (by simp<;>omega));have hrd:=hnd.rd hHb (λq hq=>LS.s hz hq) (by omega);have hrow:rows[i]?=some (ko V i z.card):=by
    by_cases e2:i=J
    ·subst e2;rw[hS.hx] at hz;injection hz with hz;subst hz;exact hB.row
    ·exact hB.oth.ns i z e2 hz
   rw[hrow] at hi;injection hi with hi;subst hi;rw[ko,ae _ _ (by simp<;>omega),ae _ _ (by simp<;>omega)] at hrd;exact ⟨z,hrd⟩
  ·have hil:=(List.getElem?_eq_some_iff.1 hi).1;simp at hil;have e:i=rows.length:=by omega
   subst e;rw[List.getElem?_concat_length] at hi;injection hi with hi;subst hi;exact ⟨_,hnew⟩
 have g1e:gb.h.get 1=.cells 2 [[.int .i64 gr,V (0,0)]] 0 false false:=by rw[frb 1 (by omega),if_neg (by omega),if_neg (by omega),if_neg (by omega),hS.f1]
 have g2e:gb.h.get 2=.cells 2 [[.int .i64 0,.nils]] 0 false false:=by rw[frb 2 (by omega),if_neg (by omega),if_neg (by omega),if_neg (by omega),hS.f2]
 simp only[sz,simprocAttr,h3,g1e,vca,vta];exact fin _ _ gr _ nds (by simp[sx,h3]) (by simp[sx,h4]) (by simp[H.get_put]) (by simp[H.get_put,g2e]) (hn.far λi hi=>by simp[H.get_put,N8 hi])
theorem Pc (hS:BS K J L x bx gr Rw t g V E)(fin:vy Q) :
  wp C0 d none (.ops [oF 102 1 3,oL 103 102,oF 104 1 3,oL 105 104,oN 106 105,o 107 (.bin .sub (.t 106) (qI 1)),o 108 (.slc 3 (.t 103) [] [.t 107]),oF 109 1 3,oz (.store 1 (.t 109) (.t 108))]) Q t [] g:=by
 obtain ⟨h2,h3,h4,h10,h11,-⟩:=hS.st;obtain ⟨rows,hB⟩:=hS.bt;have hK:=hS.hK;have hl:=hS.hl;have hrl:=hB.oth.len;have hlt:=hB.hlt;have len1:=bZ hB.own.rows;have e1:((rows.length:Int) - 1)=((rows.length - 1:Nat):Int):=by omega
 obtain ⟨y,q1,q2,q3⟩:=GS (α:=Node) hB.own (n:=rows.length - 1) (by intro h;rw[h] at hlt;simp at hlt) (by omega);have w9:IntKind.wrap .i64 ((rows.length - 1:Nat):Int)=((rows.length - 1:Nat):Int):=ax (by omega) (by omega);have q1:pd 3 (V (0,0)) none (some (.int .i64 ((rows.length - 1:Nat):Int))) g=.val y:=q1;simp only[sz,simprocAttr,h3,hS.f1,len1,List.head?_nil,List.head?_cons,e1,w9,q1,q2.1,q2.2];have hn:=q3 P3 0 _ g.h (λ_ _=>rfl) hS.sl;exact fin _ _ gr _ _ (by simp[sx,h3]) (by simp[sx,h4]) (by simp[H.get_put]) (by simp[H.get_put,hS.f2]) (hn.far λi hi=>by simp[H.get_put,N8 hi])
end
end
end Hx
end
