/- A part of the proof: an interpreter over abstract values, shown right against the model, and what the functions of the chapter compute on it. -/
import Derived.Test.YteaikmdilmfbeaaGreatHx14
set_option linter.unusedVariables false
set_option linter.unusedSimpArgs false
set_option linter.unnecessarySimpa false
section
namespace Hx
open Go
noncomputable section
abbrev Sch:=Net×List Int×List Int×List Int×Int
theorem Ka {P:Nat->Prop}{k:Nat}{h:H}{n:Net}{v o w:List Int}{m:Int}{cs:List AV}:Rp.rp P k h ((n,v,o,w,m):Sch) cs↔∃a b c d,cs=[.int .i64 n.grain,a,b,c,d,.int .i64 m]/\SlR P k h n.nodes a/\SlR P k h v b/\SlR P k h o c/\SlR P k h w d:=by
 constructor
 ·rintro ⟨c1,c2,rfl,h1,c3,c4,rfl,h2,c5,c6,rfl,h3,c7,c8,rfl,h4,h5⟩;obtain ⟨a,rfl,ha⟩:=cg.1 h1;obtain ⟨b,rfl,hb⟩:=da.1 h2;obtain ⟨c,rfl,hc⟩:=da.1 h3;obtain ⟨d,rfl,hd⟩:=da.1 h4;rw[aL.1 h5];exact ⟨a,b,c,d,rfl,ha,hb,hc,hd⟩
 ·rintro ⟨a,b,c,d,rfl,ha,hb,hc,hd⟩;exact ⟨[.int .i64 n.grain,a],[b,c,d,.int .i64 m],rfl,cg.2 ⟨a,rfl,ha⟩,[b],[c,d,.int .i64 m],rfl,da.2 ⟨b,rfl,hb⟩,[c],[d,.int .i64 m],rfl,da.2 ⟨c,rfl,hc⟩,[d],[.int .i64 m],rfl,da.2 ⟨d,rfl,hd⟩,aL.2 rfl⟩
def S.Pz (vars:List Int)(j:Nat):List Int:=((List.range j).map λv:Nat=>(v:Int)).filter λv=>!decide (v∈vars)
def S.PL (n:Net)(vars:List Int):List Int:=S.Pz vars n.nodes.length
theorem AS (vars:List Int)(j:Nat):S.Pz vars (j+1)=S.Pz vars j++if (j:Int)∈vars then [] else [(j:Int)]:=by
 unfold S.Pz;rw[List.range_succ,List.map_append,List.filter_append];congr 1
 by_cases h:(j:Int)∈vars<;>simp[h]
theorem Do (vars:List Int)(j:Nat):(S.Pz vars j).length<=j:=by unfold S.Pz;exact Nat.le_trans (List.length_filter_le _ _) (by simp)
def S.Px (n:Net)(e:List Int)(j w:Nat):Int:=if w<j/\S.pe n e w=false then 0 else S.wt n w
def S.O1 (n:Net)(e:List Int)(j:Nat):List Int:=(List.range (S.OL n)).map (S.Px n e j)
def S.OM (n:Net)(e:List Int):List Int:=S.O1 n e (S.OL n)
theorem Jx (n:Net)(e:List Int):S.O1 n e 0=S.OU n (S.OL n):=by unfold S.O1 S.OU;exact List.map_congr_left λw _=>by simp[S.Px]
theorem jR (n:Net)(e:List Int)(j:Nat):(S.O1 n e j).length=S.OL n:=by simp[S.O1]
theorem LD (n:Net)(e:List Int)(j:Nat)(h:j<S.OL n):(S.O1 n e j)[j]?=some (S.wt n j):=by simp[S.O1,S.Px,h]
theorem Dc {n:Net}{e:List Int}{j:Nat}(h:j<S.OL n):S.O1 n e (j+1)=if S.pe n e j then S.O1 n e j else (S.O1 n e j).set j 0:=by
 apply List.ext_getElem?;intro i
 by_cases hi:i<S.OL n
 ·by_cases c:S.pe n e j=true
  ·rw[if_pos c];simp only[S.O1,List.getElem?_map,List.getElem?_range hi,Option.map_some,S.Px];congr 1
   by_cases e1:i=j
   ·subst e1;simp[c]
   ·have:(i<j+1)↔(i<j):=by omega
    simp[this]
  ·rw[if_neg c,List.getElem?_set]
   by_cases e1:j=i
   ·subst e1;rw[if_pos rfl,if_pos (by rw[jR];exact hi)];simp[S.O1,S.Px,hi,c]
   ·rw[if_neg e1];simp only[S.O1,List.getElem?_map,List.getElem?_range hi,Option.map_some,S.Px];congr 1;have:(i<j+1)↔(i<j):=by omega
    simp[this]
 ·have a:∀k,(S.O1 n e k)[i]?=none:=λk=>List.getElem?_eq_none (by rw[jR];omega);rw[a]
  split
  ·rw[a]
  ·rw[List.getElem?_eq_none];rw[List.length_set,jR];omega
def S.P6 (n:Net)(e vars:List Int):Sch:=(n,vars,S.PL n vars,S.OM n e,S.Pe n e)
def S.O_ (n:Net)(e vars:List Int):Int:=if S.OY n e=0 then (if S.OS vars (n.nodes.length:Int) then 0 else 2) else S.OY n e
def NW:VS:=λ_ _ _ v=>v=.nilp
theorem Ks:Snb NW 0:=⟨λ{P k h v n} d r hn=>⟨.nilp,by
  subst r;obtain ⟨n,rfl⟩:∃q,n=q+1:=⟨n - 1,by omega⟩
  rfl,rfl⟩,λ{k h v n} r hn=>⟨0,by
  subst r;obtain ⟨n,rfl⟩:∃q,n=q+1:=⟨n - 1,by omega⟩
  rfl,Nat.zero_le _⟩⟩
theorem Me {α:Type} [Rp α](x:α)(sz:Nat)(hd:Rp.dp α<=20:=by decide):Snb (Ec x sz) 1 :=
 ⟨λ{P k h v n} d r hn=>by
  obtain ⟨n,rfl⟩:∃q,n=q+1:=⟨n - 1,by omega⟩;exact Dw d r (by omega) hd,λ{k h v n} r hn=>by
  obtain ⟨n,rfl⟩:∃q,n=q+1:=⟨n - 1,by omega⟩;exact GA r⟩
def NsV (n:Net)(e vars:List Int):VS:=if S.O_ n e vars=0 then Bc (Ec (S.P6 n e vars) 6) (One (0:Int)) else Bc NW (One (S.O_ n e vars))
theorem NJ (n:Net)(e vars:List Int):Snb (NsV n e vars) 2:=by
 unfold NsV
 split
 ·exact jh (Me _ _) (aS _) (by decide) (by decide)
 ·exact jh Ks (aS _) (by decide) (by decide)
theorem uG (id ep i off:Nat):Dd (.hptr id ep i off)=.val (.hptr id ep i off):=rfl
def LNs (gr:Int)(vw:AV):List (Nat×AV):=[(2,vw),(3,.hptr 0 0 0 0),(4,.hptr 1 0 0 0),(9,.hptr 3 0 0 0)]
structure NsH (gr:Int) (b ev vw u wv:AV) (m:Int) (g:G):Prop where
 h0:g.h.get 0=.cells 2 [[.int .i64 gr,b]] 0 false false
 h1:g.h.get 1=.cells 1 [[ev]] 0 false false
 h2:g.h.get 2=.cells 6 [[.int .i64 gr,b,vw,u,wv,.int .i64 m]] 0 false false
 h3:g.h.get 3=.cells 1 [[.hptr 2 0 0 0]] 0 false false
 nx:4<=g.nx
theorem Oe {d k:Nat}{gr:Int}{b ev vw:AV}{vars:List Int}{m:Nat}{Q:QT}{t:T}{g:G}(hd:0<d)(hm:m<=8)(hv:∀h,SlR NoP k h vars vw)
  (hh:NsH gr b ev vw .nils .nils 0 g) (ht:St t (LNs gr vw)) (h49:tat t 49=.int .i64 0) (h48:tat t 48=.int .i64 (m:Int))
  (fin:∀t g u,St t (LNs gr vw)->NsH gr b ev vw u .nils 0 g->Own g 4 u 1 ((S.Pz vars m).map ci)->Q (.exit 2) t [] g):wpL (wp C0 d none dz) Q t [] g:=by
 simp only[dz];refine bj (m:=m) (by omega) (λj t df g=>df=[]/\St t (LNs gr vw)/\∃u,NsH gr b ev vw u .nils 0 g/\Own g 4 u 1 ((S.Pz vars j).map ci)) ⟨rfl,ht,.nils,hh,.inl ⟨rfl,rfl⟩⟩ h49 h48 (by decide)
  (by rintro j t df g v s (rfl | rfl | rfl) ⟨a1,⟨b1,b2,b3,b4,-⟩,c1⟩<;>exact ⟨a1,by simp[St,LNs,sx,b1,b2,b3,b4],c1⟩) ?_ ?_
 ·rintro j t df g hj ⟨rfl,⟨h2,h3,h4,h9,-⟩,u,⟨g0,g1,g2,g3,g4⟩,ho⟩ h49 h48;have kc:=λg:G=>Ce (d:=d) (g:=g) (x:=(j:Int)) hd (hv g.h);have hl:=Do vars j
  by_cases c:(j:Int)∈vars
  ·simp only[sz,simprocAttr,h2,h49,kc,c];refine ⟨⟨by simp[St,LNs,sx,h2,h3,h4,h9],u,⟨g0,g1,g2,g3,g4⟩,?_⟩,h48⟩;rw[AS,if_pos c,List.append_nil];exact ho
  ·simp only[sz,simprocAttr,h2,h49,kc,c,sf,h9,g3,g2,uG];refine qc (ho.fr (g':=_) (by simp<;>omega) (λi hi=>?_)) (new:=[[.int .i64 (j:Int)]]) ?_ (by simp<;>omega) (by simp[aP]<;>omega) λv5 g5 o5 n5 f5 w5 l5=>?_
   ·have:=ho.lt hi;simp[H.get_put];omega
   ·simp[ah,H.get_put];rfl
   have lu:=λi (h:vid u=some i)=>ho.lt h;simp only[sx,sy] at n5 f5 l5;have n5':g.nx<g5.nx:=by omega
   have f6:∀i,i<4->g5.h.get i=g.h.get i:=λi hi=>by rw[f5 i (by omega) λh=>by have:=lu i h;omega];simp;omega
   obtain ⟨vc,vt⟩:=o5.cell;simp only[sz,simprocAttr,sf,f6 3 (by omega),g3,f6 2 (by omega),g2,uG,vc,vt];refine ⟨?_,?_⟩
   ·simp only[List.reverse_cons,List.reverse_nil,List.nil_append,List.cons_append];refine aO [false,false,false,false,false,false,true,true,false,false,true] [(0,6),(1,6),(2,6),(3,6),(4,6),(0,7)] (by simp[All2,ap,aF]) (by decide) ?_;rintro p hp x y hx hy;simp only[List.mem_cons,List.not_mem_nil,or_false] at hp;rcases hp with rfl | rfl | rfl | rfl | rfl | rfl<;>(simp at hx hy;subst hx;subst hy;refine dI rfl rfl rfl rfl ?_ ?_ ?_<;>simp[ap,aF,wE]<;>first | omega | (intro i' hi';rcases l5 i' hi' with h | h | h<;>first | omega | (have:=lu i' h;omega) | simp at h) | skip)
   refine ⟨⟨by simp[St,LNs,sx,h2,h3,h4,h9],v5,⟨by simp[sy,f6 0 (by omega),g0],by simp[sy,f6 1 (by omega),g1],by simp[sy],by simp[sy,f6 3 (by omega),g3],by simp[sy]<;>omega⟩,?_⟩,by simp[sx,h49],by simp[sx,h48]⟩;rw[AS,if_neg c,List.map_append];exact o5.fr (by simp[sy]<;>omega) λi hi=>by have:=o5.lt hi;simp[sy];omega
 ·rintro t df g ⟨rfl,ht,u,hh,ho⟩;exact fin t g u ht hh ho
theorem Oc {d k:Nat}{gr:Int}{b ev vw:AV}{n:Net}{vars:List Int}{Q:QT}{t:T}{g:G}(hr:NR n)(hv:∀h,SlR NoP k h vars vw)(hN:∀h,SlR NoP 0 h n.nodes b)(h0:g.h.get 0=.cells 2 [[.int .i64 gr,b]] 0 false false)
  (ht:St t ((28,vw)::LNs gr vw)) (h10:tat t 10=.int .i64 (-1)) (h30:tat t 30=.int .i64 0) (h29:tat t 29=.int .i64 (vars.length:Int))
  (bad:∀t,S.OS vars (n.nodes.length:Int)=false->tat t 6=.nilp->tat t 7=.int .i64 2->Q .ret t [] g)
  (fin:∀t,S.OS vars (n.nodes.length:Int)=true->St t (LNs gr vw)->Q (.exit 0) t [] g):wpL (wp C0 d none cd) Q t [] g:=by
 have rv:=λh=>(hv h).ints;have lN:∀g:G,cV .slice b g=.val (.int .i64 (n.nodes.length:Int)):=λg=>(hN .nil).len g;have hl8:=hr.l2;simp only[cd];refine bj (m:=vars.length) (hv .nil).1 (λj t df g'=>df=[]/\g'=g/\St t ((28,vw)::LNs gr vw)/\tat t 10=.int .i64 (if j=0 then -1 else vars[j - 1]?.getD 0)/\(List.range j).all (S.O4 vars (n.nodes.length:Int))=true) ⟨rfl,rfl,ht,by simpa using h10,by simp⟩ h30 h29 (by decide)
  (by rintro j t df g v s (rfl | rfl | rfl) ⟨a1,a2,⟨b0,b1,b2,b3,b4,-⟩,c1,c2⟩<;>exact ⟨a1,a2,by simp[St,LNs,sx,b0,b1,b2,b3,b4],by simp[sx,c1],c2⟩) ?_ ?_
 ·rintro j t df g' hj ⟨rfl,rfl,⟨h28,h2,h3,h4,h9,-⟩,h10,hall⟩ h30 h29;obtain ⟨x,hx,-,hm⟩:=ae hj;have z1:j<(vars.map ci).length:=by simpa using hj
  have z2:(vars.map ci)[j]?=some (ci x):=by rw[List.getElem?_map,hx];rfl
  have hgx:vars[j]?.getD 0=x:=by rw[hx];rfl
  obtain ⟨bf,hbf⟩:∃bf,bf=(if j=0 then (-1:Int) else vars[j - 1]?.getD 0):=⟨_,rfl⟩;rw[<-hbf] at h10;have hbf1:-1<=bf:=by
   rw[hbf];split
   ·omega
   ·have:=List.all_eq_true.1 hall (j - 1) (List.mem_range.2 (by omega));simp only[S.O4,Bool.and_eq_true,decide_eq_true_eq] at this;omega
  have key:S.O4 vars (n.nodes.length:Int) j=true↔bf<x/\x<(n.nodes.length:Int):=by
   simp only[S.O4,Bool.and_eq_true,decide_eq_true_eq,hgx,Bool.or_eq_true,beq_iff_eq];rw[hbf]
   by_cases c:j=0
   ·simp only[c,if_true,true_or,and_true];omega
   ·rw[if_neg c] at hbf ⊢;rw[<-hbf];constructor
    ·rintro ⟨⟨a1,a2⟩,a3 | a3⟩
     ·exact absurd a3 c
     ·exact ⟨a3,a2⟩
    ·rintro ⟨a1,a2⟩;have:=List.all_eq_true.1 hall (j - 1) (List.mem_range.2 (by omega));simp only[S.O4,Bool.and_eq_true,decide_eq_true_eq,<-hbf] at this;exact ⟨⟨by omega,a2⟩,.inr a1⟩
  have fl:¬(bf<x/\x<(n.nodes.length:Int))->S.OS vars (n.nodes.length:Int)=false:=λhn=>by rw[Bool.eq_false_iff];intro h;exact hn (key.1 (List.all_eq_true.1 h j (List.mem_range.2 hj)))
  by_cases c1:x<=bf
  ·simp only[sz,simprocAttr,h28,h30,rv,z1,z2,ci,h10,c1];exact bad _ (fl (by omega)) (by simp[sx]) (by simp[sx])
  by_cases c2:(n.nodes.length:Int)<=x
  ·simp only[sz,simprocAttr,h28,h30,rv,z1,z2,ci,h10,c1,h3,h0,lN,c2];exact bad _ (fl (by omega)) (by simp[sx]) (by simp[sx])
  ·simp only[sz,simprocAttr,h28,h30,rv,z1,z2,ci,h10,c1,h3,h0,lN,c2];refine ⟨⟨by simp[St,LNs,sx,h28,h2,h3,h4,h9],?_,?_⟩,h29⟩
   ·simp[hx]
   ·rw[cx,hall,key.2 ⟨by omega,by omega⟩];rfl
 ·rintro t df g' ⟨rfl,rfl,⟨-,ht⟩,-,hall⟩;exact fin t hall ht
theorem Of {d j ke:Nat}{gr m:Int}{b ev vw u wv uu:AV}{e vals:List Int}{mw:List Int}{P:Nat->Prop}{rd:Option Nat}{Q:QT}{t:T}{g:G}(hl:e.length=vals.length)(he:∀h,SlR NoP ke h e ev)(hu:SlR P 0 g.h vals uu)
  (hh:NsH gr b ev vw u wv m g) (ho:Own g 4 wv 1 (mw.map ci)) (hj:j<mw.length)
  (ht:St t ((14,.int .i64 (j:Int))::(15,uu)::(78,ev)::LNs gr vw)) (h80:tat t 80=.int .i64 0) (h79:tat t 79=.int .i64 (e.length:Int))
  (fin:∀t,S.O8 vals e=true->St t ((14,.int .i64 (j:Int))::LNs gr vw)->Q (.exit 6) t [] g)
  (bad:∀t g',S.O8 vals e=false->St t (LNs gr vw)->Own g' 4 wv 1 ((mw.set j 0).map ci)->g'.nx=g.nx->(∀i,vid wv≠some i->g'.h.get i=g.h.get i)->Q (.exit 5) t [] g'):wpL (wp C0 d rd dA) Q t [] g:=by
 have re:=λh=>(he h).ints;have ru:=hu.ints;obtain ⟨g0,g1,g2,g3,g4⟩:=hh;simp only[dA];refine bj (m:=e.length) (he .nil).1 (λi t df g'=>df=[]/\g'=g/\St t ((14,.int .i64 (j:Int))::(15,uu)::(78,ev)::LNs gr vw)/\(List.range i).all (S.Pw vals e)=true) ⟨rfl,rfl,ht,by simp⟩ h80 h79 (by decide)
  (by rintro j t df g v s (rfl | rfl | rfl) ⟨a1,a2,⟨c1,c2,c3,b1,b2,b3,b4,-⟩,c⟩<;>exact ⟨a1,a2,by simp[St,LNs,sx,c1,c2,c3,b1,b2,b3,b4],c⟩) ?_ ?_
 ·rintro i t df g' hi ⟨rfl,rfl,⟨h14,h15,h78,h2,h3,h4,h9,-⟩,hall⟩ h80 h79;obtain ⟨x,hx,-,hm⟩:=ae hi;obtain ⟨y,hy,-,-⟩:=ae (l:=vals) (j:=i) (by omega);have z1:i<(e.map ci).length:=by simpa using hi
  have z2:(e.map ci)[i]?=some (ci x):=by rw[List.getElem?_map,hx];rfl
  have y1:i<(vals.map ci).length:=by rw[List.length_map];omega
  have y2:(vals.map ci)[i]?=some (ci y):=by rw[List.getElem?_map,hy];rfl
  have key:S.Pw vals e i=true↔x<0\/x=y:=by simp only[S.Pw,hx,hy,Option.getD_some,Bool.or_eq_true,decide_eq_true_eq]
  by_cases c1:(0:Int)<=x
  ·by_cases c2:x=y
   ·simp only[sz,simprocAttr,h78,h80,re,z1,z2,ci,c1,h15,ru,y1,y2,c2];have c1':(0:Int)<=y:=by omega
    simp only[sz,simprocAttr,c1',h15,ru,y1,y2,ci];refine ⟨⟨by simp[St,LNs,sx,h14,h15,h78,h2,h3,h4,h9],?_⟩,by simp[sx,h80],by simp[sx,h79]⟩;rw[cx,hall,key.2 (.inr c2)];rfl
   ·have q1:j<(mw.map ci).length:=by rw[List.length_map];exact hj
    obtain ⟨z,hz,-,-⟩:=ae hj;have q2:(mw.map ci)[j]?=some (ci z):=by rw[List.getElem?_map,hz];rfl
    simp only[sz,simprocAttr,h78,h80,re,z1,z2,ci,c1,h15,ru,y1,y2,c2,h9,g3,g2,uG,h14,ho.rows,q1];refine tR (v:=wv) (sz:=1) (n:=1) (i:=j) (off:=0) (x:=.int .i64 0) (row:=ci z) (row':=ci 0) ho q2 rfl rfl rfl λg5 o5 n5 f5 u5=>?_;rw[<-List.map_set] at o5;simp only[sz,simprocAttr];refine bad _ g5 ?_ (by simp[St,LNs,sx,h2,h3,h4,h9]) o5 n5 f5;rw[Bool.eq_false_iff];intro h;rcases key.1 (List.all_eq_true.1 h i (List.mem_range.2 hi)) with h | h
    ·omega
    ·exact c2 h
  ·simp only[sz,simprocAttr,h78,h80,re,z1,z2,ci,c1];refine ⟨⟨by simp[St,LNs,sx,h14,h15,h78,h2,h3,h4,h9],?_⟩,h79⟩;rw[cx,hall,key.2 (.inl (by omega))];rfl
 ·rintro t df g' ⟨rfl,rfl,⟨h14,-,-,ht⟩,hall⟩;exact fin t hall ⟨h14,ht⟩
theorem Kj {C:Cfg}{d:Nat}{rd:Option Nat}{a b:SC}{Q:QT}{t:T}{df:List ADf}{g:G}{P:PT}(h1:wp C d rd a (λe t df g=>e=.norm/\P t df g) t df g)(h2:∀t df g,P t df g->wp C d rd b Q t df g):wp C d rd (.seq a b) Q t df g:=by rw[dU];refine bQ _ h1 ?_;rintro e t df g ⟨rfl,h⟩;exact h2 t df g h
theorem Ed {x y:Foot}(hx:x.wr=[])(hb:x.lk.big=false)(hs:x.lk.sr=[])(h3:∀i∈y.wr,∀j∈x.lk.rd,i≠j):bU x y=true:=by
 have m3:=lD h3;have m5:∀l:List Nat,meets l []=false:=λl=>by simp[meets]
 simp only[bU,i_,ge,hx,hb,hs,m3,m5,fst1,List.map_nil,Bool.not_false,Bool.and_self,Bool.true_or]
 split<;>rfl
structure NsJ (gr:Int) (b ev vw u wv:AV) (n:Net) (e:List Int) (g0:G) (W j:Nat) (g:G):Prop where
 h2:g.h.get 2=.cells 6 [[.int .i64 gr,b,vw,u,wv,.int .i64 (S.OQ n (S.pe n e) j)]] 0 false false
 hw:∃lo,g.h.get W=.cells 1 ((S.O1 n e j).map ci) 0 lo false
 fr:∀i,i<g0.nx->i≠2->i≠W->g.h.get i=g0.h.get i
theorem Og {d ke:Nat}{b ev vw u:AV}{n:Net}{e:List Int}{Q:QT}{t:T}{g:G}(hd:0<d)(hr:NR n)(hN:∀h,SlR NoP 0 h n.nodes b)(hel:e.length=n.nodes.length)(he:∀h,SlR NoP ke h e ev)
  (hh:NsH n.grain b ev vw u .nils 0 g) (ht:St t (LNs n.grain vw))
  (fin:∀t g' W df,tat t 6=.hptr 2 0 0 0->tat t 7=.int .i64 0->g.nx<=W->W<g'.nx->(∃lo,g'.h.get W=.cells 1 ((S.OM n e).map ci) 0 lo false)->g'.h.get 2=.cells 6 [[.int .i64 n.grain,b,vw,u,.hsl W 0 0 (S.OL n) none,.int .i64 (S.Pe n e)]] 0 false false ->
   (∀i,i<g.nx->i≠2->g'.h.get i=g.h.get i)->g.nx<=df->df<g'.nx->df≠W->g'.h.get df=.dfr true->Q .ret t [.mark df] g'):wp C0 d none dB Q t [] g:=by
 obtain ⟨h2,h3,h4,h9,-⟩:=ht;obtain ⟨g0,e1,g2,g3',g4⟩:=hh;have hl8:=hr.l2;obtain ⟨W1,W2,W3⟩:=hr.wl;have hcs:CsOk (S.OG n):=⟨hr.cs,by rw[aG];omega⟩;have hnc:S.nc (S.OG n)=S.OL n:=rfl;have hA:∀h,Agg n NoP 0 h (.agg [.int .i64 n.grain,b]):=λh=>⟨_,rfl,cg.2 ⟨b,rfl,hN h⟩⟩;have le:∀g:G,cV .slice ev g=.val (.int .i64 (e.length:Int)):=λg=>(he .nil).len g;unfold dB;refine Kj (P:=λt' df g'=>df=[]/\∃W,g.nx<=W/\W<g'.nx/\NsJ n.grain b ev vw u (.hsl W 0 0 (S.OL n) none) n e g W 0 g'/\g.nx<=g'.nx/\St t' (LNs n.grain vw)) ?_ ?_
 ·simp only[sz,simprocAttr,sf,h9,g3',h3,g0];refine Fn hd hr (hA _) λg5 q5 n5 f5 u5=>?_;have f6:∀i,i<g.nx->g5.h.get i=g.h.get i:=λi hi=>by rw[f5.2 i (by simp;omega)];simp
  have u6:∀i∈g5.lg,g.nx<=i:=λi hi=>by
   rcases u5.2 i hi with h | h
   ·simp at h
   ·simp at h;omega
  simp only[sy] at q5 n5;simp only[sz,simprocAttr,sf,f6 2 (by omega),g2,uG];refine ⟨?_,?_⟩
  ·simp only[List.reverse_cons,List.reverse_nil,List.nil_append,List.cons_append];refine aO [false,false,true,false,false,true] [(0,2)] (by simp[All2,ap,aF,cC,tD]) (by decide) ?_;rintro p hp x y hx hy;simp only[List.mem_cons,List.not_mem_nil,or_false] at hp;subst hp;simp at hx hy;subst hx;subst hy;refine Ed rfl rfl rfl λi hi j hj=>?_;have hi:i∈g5.lg:=by simpa using hi
   have hj:j=3:=by simpa [ap,wE] using hj
   have:=u6 i hi;omega
  refine ⟨g.nx+3,by omega,by omega,⟨?_,?_,λi h1 h2 h3=>?_⟩,by omega,by simp[St,LNs,sx,h2,h3,h4,h9]⟩
  ·simp[sy,S.OQ]
  ·exact ⟨false,by rw[Jx];simp[sy,q5]⟩
  ·simp[sy,h2,f6 i h1]
 ·rintro t df g1 ⟨rfl,W,w1,w2,hJ,n1,h2,h3,h4,h9,-⟩;have z0:g1.h.get 0=.cells 2 [[.int .i64 n.grain,b]] 0 false false:=by rw[hJ.fr 0 (by omega) (by omega) (by omega),g0]
  rw[dU,xI,rP];rw[dU];simp only[sz,simprocAttr,h3,z0];refine a_ (A9 (n:=n) (by omega) (hN _) (by omega)) λrc hrc=>?_;simp only[sz,simprocAttr];obtain ⟨z,kz,hz⟩:=FO (d:=d) (g:=g1) (w:=rc) (cs:=S.OG n) hd (hrc.sl g1.h);simp only[sz,simprocAttr,kz];refine DM (cs:=S.OG n) (w:=z) hcs hz (by simp[sx]) (by decide) (by decide) (NsJ n.grain b ev vw u (.hsl W 0 0 (S.OL n) none) n e g W) (λ_=>False) ?_ (λ_ _ _ h=>h) hJ ?_ ?_ (λ_ h=>h.elim)
  ·rintro j g3 g4 hU ⟨a1,a2,a3⟩;exact ⟨by rw[hU.1 _ (by omega),a1],by rw[hU.1 _ (by omega)];exact a2,λi q1 q2 q3=>by rw[hU.1 i (by omega),a3 i q1 q2 q3]⟩
  ·rintro j uu g3 hj hJ3 hn3 hu;rw[hnc] at hj;simp only[sz,simprocAttr,gw];refine ⟨Fr.refl _,λg5 n5 f5 u5=>?_⟩;have hJ5:NsJ n.grain b ev vw u (.hsl W 0 0 (S.OL n) none) n e g W j g5:=by obtain ⟨a1,a2,a3⟩:=hJ3;exact ⟨by rw[u5.1 _ (by omega),a1],by rw[u5.1 _ (by omega)];exact a2,λi q1 q2 q3=>by rw[u5.1 i (by omega),a3 i q1 q2 q3]⟩
   have hu5:SlR (λi=>g1.nx+2<=i/\i<g3.nx) 0 g5.h (S.ON (S.OG n) (j:Int)) uu:=hu.far8 λi hi=>f5 i (by omega);have z1:g5.h.get 1=.cells 1 [[ev]] 0 false false:=by rw[hJ5.fr 1 (by omega) (by omega) (by omega),e1]
   simp only[sz,simprocAttr,gx,h4,z1,le];have hvl:=pq (S.OG n) (j:Int);rw[aG] at hvl;have hlW:((S.O1 n e j).map ci).length=S.OL n:=by rw[List.length_map,jR]
   have hin:=lK (λc hc=>(hr.cs c hc).1) (j:Int);have wb:=mZ hr hin;have hO:Own g5 4 (.hsl W 0 0 (S.OL n) none) 1 ((S.O1 n e j).map ci):=by obtain ⟨lo,h⟩:=hJ5.hw;exact .inr ⟨W,0,lo,by omega,by omega,by rw[hlW],h⟩
   have sb:=GO hr (p:=S.pe n e) (j:=j) (by omega);have sb2:=GO hr (p:=S.pe n e) (j:=j+1) (by omega);refine Of (e:=e) (vals:=S.ON (S.OG n) (j:Int)) (j:=j) (mw:=S.O1 n e j) (gr:=n.grain) (b:=b) (ev:=ev) (vw:=vw) (u:=u) (wv:=.hsl W 0 0 (S.OL n) none) (uu:=uu) (by omega) he hu5
    ⟨by rw[hJ5.fr 0 (by omega) (by omega) (by omega),g0],z1,hJ5.h2,by rw[hJ5.fr 3 (by omega) (by omega) (by omega),g3'],by omega⟩ hO (by rw[jR];exact hj) (by simp[St,LNs,sx,h2,h3,h4,h9]) (by simp[sx]) (by simp[sx]) ?_ ?_
   ·rintro t6 hmt ⟨h14,h2',h3',h4',h9',-⟩;have hpe:S.pe n e j=true:=hmt;have m1:j<((S.O1 n e j).map ci).length:=by omega
    have m2:((S.O1 n e j).map ci)[j]?=some (ci (S.wt n j)):=by rw[List.getElem?_map,LD n e j hj];rfl
    have hO:Own g5 4 (.hsl W 0 0 (S.OL n) none) 1 ((S.O1 n e j).map ci):=hO;have z3:g5.h.get 3=.cells 1 [[.hptr 2 0 0 0]] 0 false false:=by rw[hJ5.fr 3 (by omega) (by omega) (by omega),g3']
    have ss:S.OQ n (S.pe n e) (j+1)=S.OQ n (S.pe n e) j+S.wt n j:=by rw[S.OQ,if_pos hpe];rfl
    have w1:IntKind.wrap .i64 (S.OQ n (S.pe n e) j+S.wt n j)=S.OQ n (S.pe n e) (j+1):=by rw[<-ss,ay (by omega) (by omega)]
    simp only[sz,simprocAttr,sf,gy,h9',z3,hJ5.h2,uG,h14,hO.rows,m1,m2,ci,w1];refine ⟨?_,?_⟩
    ·simp only[List.reverse_cons,List.reverse_nil,List.nil_append,List.cons_append];exact aO [false,false,false,false,false,false,false,false,false,false,false,false,false,false,true] [] (by simp[All2,ap,aF]) (by decide) (by simp)
    refine ⟨by simp[sy]<;>omega,λi q1 q2=>?_,.inl ⟨rfl,?_,?_,λi q1 q2 q3=>?_⟩⟩
    ·simp[sy,show ¬i=2 by omega]
    ·simp[sy]
    ·obtain ⟨lo,h⟩:=hJ5.hw;exact ⟨lo,by rw[Dc hj,if_pos hpe];simp[sy,show ¬W=2 by omega,h]⟩
    ·simp[sy,q2,hJ5.fr i q1 q2 q3]
   ·rintro t6 g6 hmt ⟨h2',h3',h4',h9',-⟩ o6 n6 f6;have hpe:S.pe n e j=false:=hmt;simp only[sz,simprocAttr];have hne:∀i,i≠W->g6.h.get i=g5.h.get i:=λi hi=>f6 i (by simpa [vid] using λh:W=i=>hi h.symm);have hss:S.OQ n (S.pe n e) (j+1)=S.OQ n (S.pe n e) j:=by rw[S.OQ,hpe];simp
    refine ⟨by omega,λi q1 q2=>hne i (by omega),.inl ⟨rfl,?_,?_,λi q1 q2 q3=>?_⟩⟩
    ·rw[hne 2 (by omega),hJ5.h2,hss]
    ·rw[Dc hj,hpe];rcases o6 with ⟨h,-⟩ | ⟨id,ep,lo,-,-,h,hg⟩
     ·cases h
     ·injection h with h1 h2 h3 h4 h5;subst h1;subst h2;exact ⟨lo,by simpa using hg⟩
    ·rw[hne i q3,hJ5.fr i q1 q2 q3]
  ·rintro g' hJ' hn hdf;rw[hnc] at hJ';have z3:g'.h.get 3=.cells 1 [[.hptr 2 0 0 0]] 0 false false:=by rw[hJ'.fr 3 (by omega) (by omega) (by omega),g3']
   simp only[sz,simprocAttr,gz,h9,z3];exact fin _ g' W g1.nx (by simp[sx]) (by simp[sx]) w1 (by omega) hJ'.hw hJ'.h2 (λi q1 q2=>by
    by_cases q3:i=W
    ·omega
    ·rw[hJ'.fr i q1 q2 q3]) n1 (by omega) (by omega) hdf
theorem BP {d kv k1:Nat}{P1:Nat->Prop}{g:G}{n:Net}{e vars:List Int}{v w u:AV}(hd:kv<d)(hm:Agg n NoP 0 g.h v)(he:SlR P1 k1 g.h e w)(hv:SlR NoP kv g.h vars u) :
  ∃r,am C0 d N.Pf [v,w,u] g=.val r/\NsV n e vars NoP kv .nil r:=by
 obtain ⟨b,rows,rfl,e1,hm',hN,r1,r2,r3,r4⟩:=fj d hm;obtain ⟨w',e2,hw'⟩:=be he d;have e3:=iP d hv;have hv':∀h,SlR NoP kv h vars u:=λh=>hv.tree (Nat.le_refl _);have hN':∀h,SlR NoP 0 h n.nodes b:=λh=>hN.tree (Nat.le_refl 0);have lu:∀g:G,cV .slice u g=.val (.int .i64 (vars.length:Int)):=λg=>(hv' .nil).len g;have lN:∀g:G,cV .slice b g=.val (.int .i64 (n.nodes.length:Int)):=λg=>(hN' .nil).len g;have kc:=λg=>In (d:=d+1) (g:=g) (Nat.succ_pos d) (hm' g.h) (hw' g.h);rw[oE];refine aX qm (xs:=[.agg [.int .i64 n.grain,b],w',u]) (by simp only[aE,e1,e2,e3]) (by simp[cX]) (NJ n e vars) (by decide) hd ?_
 by_cases c:S.OY n e=0
 ·obtain ⟨hn,hev⟩:=mr.1 c;have hr:=fL.1 hn;have hel:=(IF hev).1;have hl8:=hr.l2;have hst:∀(g:G) (i m:Nat),iC (.cells 1 [[.nilp]] 0 false false) g i 0 0 1 0 (.hptr m 0 0 0)=.upd .undef (g.put i (.cells 1 [[.hptr m 0 0 0]] 0 false false)):=λg i m=>rfl;obtain ⟨FB,hFB⟩:∃F,F=cd:=⟨_,rfl⟩;simp only[sz,simprocAttr,cX,dR,kc,c,lu,Ek (hw' .nil),(hv' .nil).cell.1,(hv' .nil).cell.2,hst,<-hFB];subst hFB;refine Oc (k:=kv) (gr:=n.grain) (ev:=w') (n:=n) (vars:=vars) hr hv' hN' (by simp[H.get_put,show G.empty.nx=0 from rfl]) (by simp[St,LNs,sx]) (by simp[sx]) (by simp[sx]) (by simp[sx]) ?_ ?_
  ·intro t hp h6 h7;have hs:S.O_ n e vars=2:=by rw[S.O_,if_pos c,hp];rfl
   simp only[sz,simprocAttr,h6,h7];refine ⟨NoP,?_⟩;rw[NsV,hs];exact ⟨_,_,rfl,rfl,aL.2 rfl⟩
  ·rintro t hp ⟨h2,h3,h4,h9,-⟩;have hs:S.O_ n e vars=0:=by rw[S.O_,if_pos c,hp];rfl
   have hH:NsH n.grain b w' u .nils .nils 0 (((((G.empty.new (.cells 2 [[.int .i64 n.grain,b]] 0 false false)).new (.cells 1 [[w']] 0 false false)).new (.cells 6 [[.int .i64 n.grain,b,u,.nils,.nils,.int .i64 0]] 0 false false)).new (.cells 1 [[.nilp]] 0 false false)).put 3 (.cells 1 [[.hptr 2 0 0 0]] 0 false false)):=by constructor<;>simp[H.get_put,show G.empty.nx=0 from rfl]
   generalize ((((G.empty.new (.cells 2 [[.int .i64 n.grain,b]] 0 false false)).new (.cells 1 [[w']] 0 false false)).new (.cells 6 [[.int .i64 n.grain,b,u,.nils,.nils,.int .i64 0]] 0 false false)).new (.cells 1 [[.nilp]] 0 false false)).put 3 (.cells 1 [[.hptr 2 0 0 0]] 0 false false)=g1 at hH ⊢;simp only[sz,simprocAttr,gC,h3,hH.h0,lN];refine Oe (k:=kv) (m:=n.nodes.length) (Nat.succ_pos d) hl8 hv' hH (by simp[St,LNs,sx,h2,h3,h4,h9]) (by simp[sx]) (by simp[sx]) λt g2 uo ht hH2 hO=>?_;simp only[kB,sz,simprocAttr];refine Og (Nat.succ_pos d) hr hN' hel hw' hH2 ht λt g3 W df h6 h7 w1 w2 gW g2' hf d1 d2 d3 hdf=>?_;show Bn C0 (d+1) [.tm 6,.tm 7] t [.mark df] g3 λv g'=>∃P,NsV n e vars P kv g'.h v;refine rN hdf ?_;simp only[sz,simprocAttr,h6,h7];have hne:=λi (h:vid uo=some i)=>hO.lt h;obtain ⟨lo,gW⟩:=gW;have q1:∀i,i≠df->(g3.h.put df (.dfr false)).get i=g3.h.get i:=λi hi=>by rw[aq _ _ _ hi]
   have q2:=(hO.fr (g':=g3.put df (.dfr false)) (by simp;omega) λi hi=>by
    have:=hne i hi;rw[G.put_h,q1 i (by omega),hf i (by omega) (by omega)])
   have hlo:(S.PL n vars).length<=_:=Do vars n.nodes.length;have hH4:=hH2.nx;have hlw:(S.OM n e).length=S.OL n:=jR _ _ _;have hW2:=hr.wl.2.1;refine ⟨λ_=>True,?_⟩;rw[NsV,if_pos hs];refine ⟨_,_,rfl,.inl ⟨2,_,rfl,trivial,by rw[q1 2 (by omega),g2'],?_⟩,aL.2 rfl⟩;refine Ka.2 ⟨b,u,uo,_,rfl,hN.wide (Nat.zero_le _),?_,q2.sl (α:=Int) (by omega) (All2.of_map (λa=>aL.2 rfl) _) λ_ _=>trivial,?_⟩
   ·exact hv.wide (Nat.le_refl _)
   ·have gW':(g3.put df (.dfr false)).h.get W=.cells 1 ((S.OM n e).map ci) 0 lo false:=by rw[G.put_h,q1 W (by omega),gW]
    have o3:Own (g3.put df (.dfr false)) 0 (.hsl W 0 0 (S.OL n) none) 1 ((S.OM n e).map ci):=.inr ⟨W,0,lo,Nat.zero_le _,by simp;omega,by rw[List.length_map,hlw],gW'⟩;exact o3.sl (α:=Int) (by omega) (All2.of_map (λa=>aL.2 rfl) _) λ_ _=>trivial
 ·simp only[sz,simprocAttr,cX,dR,kc,c,Ek (hw' .nil)];refine ⟨NoP,?_⟩;have hs:S.O_ n e vars=S.OY n e:=by rw[S.O_,if_neg c]
  rw[NsV,hs,if_neg c];exact ⟨_,_,rfl,rfl,aL.2 rfl⟩
def KX (n:Net)(vars oth mw:List Int)(m:Int)(k:Nat)(v:AV):Prop:=∃t b vw ow ww,v=.tptr t 6 [[.int .i64 n.grain,b,vw,ow,ww,.int .i64 m]] 0 0/\t<=k/\SlR NoP k .nil n.nodes b/\SlR NoP k .nil vars vw/\SlR NoP k .nil oth ow/\SlR NoP k .nil mw ww
theorem L6 {n:Net}{vars oth mw:List Int}{m:Int}{k:Nat}{h:H}{v:AV}(r:Ec ((n,vars,oth,mw,m):Sch) 6 NoP k h v):KX n vars oth mw m k v:=by
 rcases r with ⟨id,cs,rfl,hP,-⟩ | ⟨t,cs,rfl,ht,r⟩
 ·exact hP.elim
 ·obtain ⟨a,b,c,d,rfl,ha,hb,hc,hd⟩:=Ka.1 r;exact ⟨t,a,b,c,d,rfl,ht,ha,hb,hc,hd⟩
theorem xy (t sz:Nat)(rows:List (List AV))(i off:Nat):Dd (.tptr t sz rows i off)=.val (.tptr t sz rows i off):=rfl
theorem IE {d k k2:Nat}{P P2:Nat->Prop}{g:G}{v w:AV}{l l2:List Int}(hd:0<d)(hl:SlR P k g.h l v)(hl2:SlR P2 k2 g.h l2 w):am C0 d N.PI [v,w] g=.val (.bool (decide (l=l2))):=by
 obtain ⟨v',ev,hv⟩:=be hl d;obtain ⟨w',ew,hw⟩:=be hl2 d;have rv:=λh=>(hv h).ints;have rw':=λh=>(hw h).ints;have lv:=(hv .nil).len;have lw:=(hw .nil).len;have hn:=hl.1;rw[nq];refine ej pT (xs:=[v',w']) (by simp only[aE,ev,ew]) (by simp[cR]) hd ?_
 by_cases c:l.length=l2.length
 ·have c':(l.length:Int)=(l2.length:Int):=by omega
  simp only[sz,simprocAttr,cR,lv,lw,c'];simp only[fY];refine bj (m:=l.length) (by omega) (λj t df g=>df=[]/\St t [(0,v'),(1,w'),(11,v')]/\l.take j=l2.take j) ⟨rfl,by simp[St,sx],by simp⟩ (by simp[sx]) (by simp[sx,c']) (by decide) (by rintro j t df g v s (rfl | rfl | rfl)<;>simp[St,sx]) ?_ ?_
  ·rintro j t df g hj ⟨rfl,⟨h0,h1,h11,-⟩,hjj⟩ h13 h12;obtain ⟨y,hy,hty,-⟩:=ae hj;obtain ⟨z,hz,htz,-⟩:=ae (l:=l2) (j:=j) (by omega);have u1:j<(l.map ci).length:=by simpa using hj
   have u2:(l.map ci)[j]?=some (ci y):=by rw[List.getElem?_map,hy];rfl
   have v1:j<(l2.map ci).length:=by rw[List.length_map];omega
   have v2:(l2.map ci)[j]?=some (ci z):=by rw[List.getElem?_map,hz];rfl
   by_cases e:y=z
   ·simp only[sz,simprocAttr,h0,h1,h11,h13,rv,rw',u1,u2,v1,v2,ci,e];simp[St,sx,h0,h1,h11,h12,h13,hty,htz,hjj,e]
   ·have hne:l≠l2:=λh=>e (by rw[h,hz] at hy;injection hy with hy;exact hy.symm);simp only[sz,simprocAttr,h0,h1,h11,h13,rv,rw',u1,u2,v1,v2,ci,e,hne,decide_false]
  ·rintro t df g ⟨rfl,-,hjj⟩;rw[List.take_length,c,List.take_length] at hjj;simp only[sz,simprocAttr,fZ,hjj,decide_true]
 ·have c':¬(l.length:Int)=(l2.length:Int):=by omega
  have hne:l≠l2:=λh=>c (by rw[h]);simp only[sz,simprocAttr,cR,lv,lw,c',hne,decide_false]
theorem Ma {g:G}{b:Nat}{u:AV}{l:List Int}(hu:Own g b u 1 (l.map ci)){n:Nat}(hn:n<=l.length)(hl:l.length<9223372036854775808) :
  ∃y,lR 1 u none (some (.int .i64 (n:Int))) g=.val y/\∀(h':H),(∀i,vid u=some i->h'.get i=g.h.get i)->SlR (λi=>vid u=some i) 0 h' (l.take n) y:=by
 by_cases hne:l=[]
 ·subst hne;have:n=0:=by simpa using hn
  subst this;rcases hu with ⟨rfl,-⟩ | ⟨id,ep,lo,h1,h2,rfl,h3⟩
  ·exact ⟨.nils,rfl,λh' _=>⟨hl,rfl⟩⟩
  ·simp only[lR,iI,h3,Nat.beq_refl,Bool.true_and,aw,Nat.zero_add,aa,Nat.ble_eq,Nat.le_refl,if_true,aQ,Option.getD_none,Nat.sub_zero];simp only[bZ];cases lo
   ·exact ⟨.esl,rfl,λh' _=>⟨hl,rfl⟩⟩
   ·exact ⟨.tsl 0 1 [],rfl,λh' _=>⟨hl,by decide,.inl rfl,trivial⟩⟩
 ·obtain ⟨y,h1,-,h2⟩:=B3 (α:=Int) hu (by simpa using hne) (n:=n) (by simpa using hn);refine ⟨y,h1,λh' hh=>h2 _ 0 l h' hh ?_⟩;have:=hu.sl (α:=Int) (P:=λi=>vid u=some i) (k:=0) hl (All2.of_map (λa=>aL.2 rfl) l) λi hi=>hi;exact this.far8 λi hi=>hh i hi
def S.Qa (l:List Int)(i x:Int):List Int:=l.set i.toNat (max (l[i.toNat]?.getD 0) x)
theorem JE {n:Net}{e vars:List Int}{kv:Nat}{r:AV}(h:NsV n e vars NoP kv .nil r):(S.O_ n e vars=0/\∃p,r=.tup [p,.int .i64 0]/\KX n vars (S.PL n vars) (S.OM n e) (S.Pe n e) kv p)\/(S.O_ n e vars≠0/\r=.tup [.nilp,.int .i64 (S.O_ n e vars)]):=by
 unfold NsV at h
 split at h
 ·rename_i c;obtain ⟨p,q,rfl,h1,h2⟩:=h;have h2:=aL.1 h2;injection h2 with h2;exact .inl ⟨c,p,by rw[h2],L6 h1⟩
 ·rename_i c;obtain ⟨p,q,rfl,h1,h2⟩:=h;have h2:=aL.1 h2;injection h2 with h2;have h1:p=.nilp:=h1;exact .inr ⟨c,by rw[h2,h1]⟩
theorem Kh {n:Net}{e vars:List Int}:S.O_ n e vars=0↔(NR n/\S.O0 n e=true)/\S.OS vars (n.nodes.length:Int)=true:=by
 unfold S.O_
 split
 ·rename_i c;rw[mr,fL] at c;cases S.OS vars (n.nodes.length:Int)<;>simp[c]
 ·rename_i c;constructor
  ·intro h;exact absurd h c
  ·rintro ⟨⟨h1,h2⟩,-⟩;exact absurd (mr.2 ⟨fL.2 h1,h2⟩) c
theorem D_ {n:Net}(hr:NR n)(w:Nat):0<=S.wt n w/\S.wt n w<=167961600000000:=mZ hr (lK (λc hc=>(hr.cs c hc).1) (w:Int))
theorem Hz {n:Net}(hr:NR n)(e:List Int):∀x∈S.OM n e,0<=x/\x<=167961600000000:=by
 intro x hx;obtain ⟨w,-,rfl⟩:=List.mem_map.1 hx;unfold S.Px
 split
 ·omega
 ·exact D_ hr w
theorem Gq {n:Net}{e:List Int}{w:Nat}(h:w<S.OL n):(S.OM n e)[w]?=some (if S.pe n e w then S.wt n w else 0):=by simp only[S.OM,S.O1,List.getElem?_map,List.getElem?_range h,Option.map_some,S.Px];cases c:S.pe n e w<;>simp[h,c]
end
end Hx
end
section
namespace Hx
open Go
def S.wW (mw:List Int)(a:Int):Int:=mw[a.toNat]?.getD 0
def S.Po (mw:List Int)(a b:Int):Prop:=S.wW mw b<S.wW mw a\/(S.wW mw a=S.wW mw b/\a<b)
def S.Pt (mw:List Int)(j:Nat):List Int:=((List.range j).map λi:Nat=>(i:Int)).filter λi=>decide (0<S.wW mw i)
def S.OT (mw:List Int):List Int:=S.Pt mw mw.length
theorem HG (mw:List Int)(j:Nat):S.Pt mw (j+1)=S.Pt mw j++if 0<S.wW mw (j:Int) then [(j:Int)] else []:=by
 unfold S.Pt;rw[List.range_succ,List.map_append,List.filter_append];congr 1
 by_cases h:0<S.wW mw (j:Int)<;>simp[h]
theorem y_ (mw:List Int)(j:Nat):(S.Pt mw j).length<=j:=by unfold S.Pt;exact Nat.le_trans (List.length_filter_le _ _) (by simp)
theorem pf {mw:List Int}{x:Int}:x∈S.OT mw↔∃i:Nat,x=(i:Int)/\i<mw.length/\0<S.wW mw (i:Int):=by
 unfold S.OT S.Pt;rw[List.mem_filter,List.mem_map];constructor
 ·rintro ⟨⟨i,h1,rfl⟩,h2⟩;exact ⟨i,rfl,List.mem_range.1 h1,of_decide_eq_true h2⟩
 ·rintro ⟨i,rfl,h1,h2⟩;exact ⟨⟨i,List.mem_range.2 h1,rfl⟩,decide_eq_true h2⟩
structure IsSrt (mw R:List Int):Prop where
 mem:∀x,x∈R↔x∈S.OT mw
 ord:R.Pairwise (S.Po mw)
theorem Cf {mw:List Int}{a:Int}:¬S.Po mw a a:=by rintro (h | ⟨-,h⟩)<;>omega
theorem IsSrt.at {mw R:List Int}(h:IsSrt mw R){i j:Nat}{x y:Int}(hij:i<j)(hx:R[i]?=some x)(hy:R[j]?=some y):S.Po mw x y:=by obtain ⟨h1,e1⟩:=List.getElem?_eq_some_iff.1 hx;obtain ⟨h2,e2⟩:=List.getElem?_eq_some_iff.1 hy;have:=List.pairwise_iff_getElem.1 h.ord i j h1 h2 hij;rw[e1,e2] at this;exact this
def S.OV (mw:List Int)(us:Nat->Bool):Nat->Int×Int
 | 0=>(0,-1)
 | w+1=>if us w=false/\(S.OV mw us w).1<S.wW mw (w:Int) then (S.wW mw (w:Int),(w:Int)) else S.OV mw us w
theorem LP {mw R:List Int}(h:IsSrt mw R){us:Nat->Bool}{j:Nat}{r:Int}(hr:R[j]?=some r)(hu:∀w,w<mw.length->us w=decide ((w:Int)∈R.take j)):S.OV mw us mw.length=(S.wW mw r,r):=by
 obtain ⟨i,rfl,hi,hp⟩:=pf.1 ((h.mem r).1 (List.mem_of_getElem? hr));have hui:us i=false:=by
  rw[hu i hi,decide_eq_false_iff_not];intro hm;obtain ⟨k,hk⟩:=List.getElem?_of_mem hm;have hkj:k<j:=by have:=(List.getElem?_eq_some_iff.1 hk).1;rw[List.length_take] at this;omega
  rw[List.getElem?_take_of_lt hkj] at hk;exact Cf (h.at hkj hk hr)
 have hle:∀w,w<mw.length->us w=false->w≠i->0<S.wW mw (w:Int)->S.Po mw (i:Int) (w:Int):=by
  intro w hw hf hne hpw;have hmem:(w:Int)∈R:=(h.mem _).2 (pf.2 ⟨w,rfl,hw,hpw⟩);obtain ⟨k,hk⟩:=List.getElem?_of_mem hmem;have hkj:¬k<j:=λhkj=>by rw[hu w hw,decide_eq_false_iff_not] at hf;exact hf (List.mem_of_getElem? (by rw[List.getElem?_take_of_lt hkj];exact hk))
  have hkj2:k≠j:=λe=>by rw[e,hr] at hk;injection hk with hk;omega
  exact h.at (by omega) hr hk
 have key:∀m,m<=mw.length->(i<m->S.OV mw us m=(S.wW mw (i:Int),(i:Int)))/\(m<=i->0<=(S.OV mw us m).1/\(S.OV mw us m).1<S.wW mw (i:Int)):=by
  intro m
  induction m with
  | zero=>exact λ_=>⟨λh=>absurd h (Nat.not_lt_zero _),λ_=>⟨Int.le_refl _,hp⟩⟩
  | succ m ih =>
   intro hm;obtain ⟨i1,i2⟩:=ih (by omega);refine ⟨λhlt=>?_,λhle'=>?_⟩
   ·rw[S.OV]
    by_cases c:i=m
    ·subst c;rw[if_pos ⟨hui,(i2 (Nat.le_refl _)).2⟩]
    ·have e:=i1 (by omega);rw[if_neg,e];rintro ⟨f1,f2⟩;rw[e] at f2;have:=hle m (by omega) f1 (Ne.symm c) (by omega);rcases this with q | q<;>omega
   ·obtain ⟨p1,p2⟩:=i2 (by omega);rw[S.OV]
    split
    ·rename_i hc;have:=hle m (by omega) hc.1 (by omega) (by omega);refine ⟨by dsimp only;omega,?_⟩;dsimp only;rcases this with q | q<;>omega
    ·exact ⟨p1,p2⟩
 exact (key mw.length (Nat.le_refl _)).1 hi
theorem LO {mw R:List Int}(h:IsSrt mw R){us:Nat->Bool}{j:Nat}(hr:R.length<=j)(hu:∀w,w<mw.length->us w=decide ((w:Int)∈R.take j)):S.OV mw us mw.length=(0,-1):=by
 have key:∀m,m<=mw.length->S.OV mw us m=(0,-1):=by
  intro m
  induction m with
  | zero=>exact λ_=>rfl
  | succ m ih =>
   intro hm;have e:=ih (by omega);rw[S.OV,if_neg,e];rintro ⟨f1,f2⟩;rw[e] at f2;rw[hu m (by omega),decide_eq_false_iff_not,List.take_of_length_le hr] at f1;exact f1 ((h.mem _).2 (pf.2 ⟨m,rfl,by omega,f2⟩))
 exact key mw.length (Nat.le_refl _)
end Hx
end
section
namespace Hx
open Go
noncomputable section
def S.Pj (x y:Int):Int:=if x<y then -1 else if y<x then 1 else 0
def S.PI (a b:Int):Int:=if a≠0 then a else b
def S.Pu (mw:List Int)(x y:Int):Int:=S.PI (S.Pj (S.wW mw y) (S.wW mw x)) (S.Pj x y)
theorem GR {mw:List Int}{x y:Int}:S.Pu mw x y<0↔S.Po mw x y:=by
 unfold S.Pu S.PI S.Pj S.Po
 repeat' split
 all_goals omega
theorem qk:nFn CS N.OO=some fB:=by kernel_rfl
theorem tf:nFn CS N.ON=some dh:=by kernel_rfl
theorem zJ:nFn CS N.O0=some qr:=by kernel_rfl
theorem vH:nFn CS N.O1=some ko:=by kernel_rfl
theorem qf (d:Nat)(xs:List AV)(g:G):am CS d N.ON xs g=af (I CS) d g N.ON xs:=by kernel_rfl
theorem wN (d:Nat)(xs:List AV)(g:G):am CS d N.O0 xs g=af (I CS) d g N.O0 xs:=by kernel_rfl
theorem sW (d:Nat)(xs:List AV)(g:G):am CS d N.O1 xs g=af (I CS) d g N.O1 xs:=by kernel_rfl
theorem q9 (t:T)(g:G)(xs:List Od):SO.foot CS t g (.call N.ON xs)=ap ((gR t xs).flatMap (aA g.h aB)):=by kernel_rfl
theorem xh (t:T)(g:G)(xs:List Od):SO.foot CS t g (.call N.O0 xs)=ap ((gR t xs).flatMap (aA g.h aB)):=by kernel_rfl
theorem Gr {d:Nat}(hd:0<d)(x:Int)(g:G):am CS d N.O1 [.int .i64 x] g=.val (.bool false):=by rw[sW];refine ej vH (xs:=[.int .i64 x]) (by simp only[aE,bD 0]) (by simp[ko]) hd ?_;simp only[sz,simprocAttr,ko]
theorem FN {d:Nat}(hd:0<d)(x y:Int)(g:G):am CS d N.ON [.int .i64 x,.int .i64 y] g=.val (.int .i64 (S.Pj x y)):=by
 rw[qf];refine dE tf (xs:=[.int .i64 x,.int .i64 y]) (by simp only[aE,bD 0]) (by simp[dh]) hd ?_;have k1:=λg=>Gr (Nat.succ_pos d) x g;have k2:=λg=>Gr (Nat.succ_pos d) y g
 by_cases h1:x<y
 ·have e:S.Pj x y = -1:=if_pos h1;rw[e];simp only[sz,simprocAttr,dh,k1,k2,h1]
 ·by_cases h2:y<x
  ·have e:S.Pj x y=1:=by rw[S.Pj,if_neg h1,if_pos h2]
   rw[e];simp only[sz,simprocAttr,dh,k1,k2,h1,h2]
  ·have e:S.Pj x y=0:=by rw[S.Pj,if_neg h1,if_neg h2]
   rw[e];simp only[sz,simprocAttr,dh,k1,k2,h1,h2]
theorem Ns {d k:Nat}{P:Nat->Prop}{a b:Int}{v:AV}{g:G}(hd:0<d)(hv:SlR P k g.h [a,b] v):am CS d N.O0 [v] g=.val (.int .i64 (S.PI a b)):=by
 obtain ⟨v',e1,hv'⟩:=be hv d;have vl:=λg=>(hv' .nil).len g;have va:=λh=>(hv' h).ints;rw[wN];refine dE zJ (xs:=[v']) (by simp only[aE,e1]) (by simp[qr]) hd ?_;simp only[sz,simprocAttr,qr,vl,qt];refine bj (m:=2) (by decide) (λj t df g=>df=[]/\St t [(3,.int .i64 0),(6,v')]/\(0<j->a=0)/\(1<j->b=0)) ⟨rfl,by simp[St,sx],by omega,by omega⟩ (by simp[sx]) (by simp[sx]) (by decide)
  (by rintro j t df g v s (rfl | rfl | rfl)<;>simp[sx,St]) ?_ ?_
 ·rintro j t df g hj ⟨rfl,⟨h3,h6,-⟩,ha,hb⟩ h8 h7;obtain ⟨x,hx,-,-⟩:=ae (l:=[a,b]) (j:=j) (by simpa using hj);have z1:j<([a,b].map ci).length:=by simpa using hj
  have z2:([a,b].map ci)[j]?=some (ci x):=by rw[List.getElem?_map,hx];rfl
  have hj2:j=0\/j=1:=by omega
  by_cases c:x=0
  ·subst c;simp only[sz,simprocAttr,h3,h6,h8,va,z1,z2,ci];refine ⟨⟨by simp[St,sx,h3,h6],λ_=>?_,λh=>?_⟩,by simp[sx,h7]⟩
   ·rcases hj2 with rfl | rfl
    ·simpa using hx
    ·exact ha (by omega)
   ·rcases hj2 with rfl | rfl
    ·omega
    ·simpa using hx
  ·have e:S.PI a b=x:=by
    rcases hj2 with rfl | rfl
    ·have:a=x:=by simpa using hx
     subst this;exact if_pos c
    ·have h1:b=x:=by simpa using hx
     have h2:=ha (by omega);subst h1;subst h2;exact if_neg (by simp)
   rw[e];simp only[sz,simprocAttr,h3,h6,h8,va,z1,z2,ci,c]
 ·rintro t df g ⟨rfl,⟨h3,h6,-⟩,ha,hb⟩;have ha:=ha (by omega);have hb:=hb (by omega);subst ha;subst hb;simp only[sz,simprocAttr,qu,h3]
  rfl
theorem Mo {d k q:Nat}{n:Net}{vars oth mw:List Int}{m:Int}{qv:AV}{g:G}{i j:Nat}(hd:0<d)(hq:KX n vars oth mw m k qv)(hg:g.h.get q=.cells 1 [[qv]] 0 false false)(hi:i<mw.length)(hj:j<mw.length) :
  af (I CS) d g N.OO [.int .i64 (i:Int),.int .i64 (j:Int),.hptr q 0 0 0]=.val (.int .i64 (S.Pu mw (i:Int) (j:Int))):=by
 obtain ⟨t0,b,vw,ow,ww,rfl,-,-,-,-,hw⟩:=hq;obtain ⟨tg,hs⟩:∃tg,Hx.snap g.h d aB (.hptr q 0 0 0)=some (.tptr tg 1 [[.tptr t0 6 [[.int .i64 n.grain,b,vw,ow,ww,.int .i64 m]] 0 0]] 0 0):=by
  refine ⟨Nat.max d (Nat.max (Nat.max t0 0) 0),?_⟩;show Hx.snap g.h d (21+3) _=_;simp only[Hx.snap,hg,show Nat.beq 0 0=true from rfl,aE]
  rfl
 have wr:=λh=>(hw.tree (h':=h) (Nat.le_refl k)).ints;have u1:i<(mw.map ci).length:=by simpa using hi
 have u2:(mw.map ci)[i]?=some (ci (S.wW mw (i:Int))):=by rw[List.getElem?_map,S.wW,Int.toNat_natCast,List.getElem?_eq_getElem hi];rfl
 have u3:j<(mw.map ci).length:=by simpa using hj
 have u4:(mw.map ci)[j]?=some (ci (S.wW mw (j:Int))):=by rw[List.getElem?_map,S.wW,Int.toNat_natCast,List.getElem?_eq_getElem hj];rfl
 refine dE qk (xs:=[.int .i64 (i:Int),.int .i64 (j:Int),.tptr tg 1 [[.tptr t0 6 [[.int .i64 n.grain,b,vw,ow,ww,.int .i64 m]] 0 0]] 0 0]) (by simp only[aE,bD 0,hs]) (by simp[fB]) hd ?_;have c1:=λg=>FN (Nat.succ_pos d) (S.wW mw (j:Int)) (S.wW mw (i:Int)) g;have c2:=λg=>FN (Nat.succ_pos d) (i:Int) (j:Int) g;simp only[sz,simprocAttr,sf,fB,xy,qU,eJ,wr,u1,u2,u3,u4,ci,c1,c2,K7];refine a_ (Q:=λr=>r=.int .i64 (S.Pu mw (i:Int) (j:Int))) ⟨_,Ns (P:=λi=>i=18) (k:=0) (a:=S.Pj (S.wW mw (j:Int)) (S.wW mw (i:Int))) (b:=S.Pj (i:Int) (j:Int)) (Nat.succ_pos d) ⟨by show 2<9223372036854775808;decide,rfl,[[.int .i64 (S.Pj (S.wW mw (j:Int)) (S.wW mw (i:Int)))],[.int .i64 (S.Pj (i:Int) (j:Int))]],rfl,aL.2 rfl,aL.2 rfl,trivial⟩,rfl⟩ ?_;rintro r rfl;simp only[sz,simprocAttr,sf,q9,xh];simp only[List.reverse_cons,List.reverse_nil,List.nil_append,List.cons_append];exact aO [false,false,false,false,false,false,false,false,false,false,false,false,false,false,false,false,false,false,true,false,false] [] (by simp[All2,ap,aF]) (by decide) (by simp)
end
end Hx
end
section
namespace Hx
open Go Go.Proofs Go.Sort
noncomputable section
theorem HH (mw:List Int):(S.OT mw).Nodup:=by unfold S.OT S.Pt;refine List.Pairwise.filter _ ?_;rw[List.pairwise_map];exact List.Pairwise.imp (λ{a b} (h:a≠b)=>by omega) List.nodup_range
theorem Mp {mw L:List Int}{cf:El L->El L->Int}(h:∀x y:El L,cf x y=S.Pu mw x.1 y.1):SWO (ltOf cf):=by
 have e:∀x y:El L,ltOf cf x y=true↔S.Po mw x.1 y.1:=λx y=>by unfold ltOf;rw[h,decide_eq_true_eq];exact GR
 refine ⟨λx=>?_,λx y z h1 h2=>?_,λx y z h1 h2=>?_⟩
 ·rw[<-Bool.not_eq_true,e];exact Cf
 ·rw[e] at *;unfold S.Po at *;omega
 ·rw[<-Bool.not_eq_true,e] at *;unfold S.Po at *;omega
theorem HX {C:Cfg}{d:Nat}{g:G}{id len f:Nat}{cap:List AV}{mw R:List Int}(hc:∀x∈S.OT mw,∀y∈S.OT mw,af (I C) d g f (.int .i64 x::.int .i64 y::cap)=.val (.int .i64 (S.Pu mw x y)))
  (h:uU C d g id len ((S.OT mw).map ci) f cap R):IsSrt mw R:=by
 obtain ⟨L,hI,cf,q1,q2,q3,q4,q5,q6,q7⟩:=h;have hL:L=S.OT mw:=by have h2:(S.OT mw).map ci=L.map ci:=q1;have h3:=congrArg (List.map λr:List AV=>match r with | [.int _ x]=>x | _=>(0:Int)) h2;simpa [List.map_map,Function.comp_def,ci] using h3.symm
 have hcf:∀x y:El L,cf x y=S.Pu mw x.1 y.1:=λx y=>by have h1:=hc x.1 (by rw[<-hL];exact x.2) y.1 (by rw[<-hL];exact y.2);have h2:=q6 x y;rw[h1] at h2;injection h2 with h2;injection h2 with _ h2;exact h2.symm
 obtain ⟨D,hD⟩:∃D,D=pdq (ltOf cf) (jm L) 0 L.length (Lib.bitLen L.length) true true:=⟨_,rfl⟩;have hps:=pdq_sorts (ltOf cf) q5 (jm L) 0 L.length (Lib.bitLen L.length) true true (Nat.zero_le _) (by rw[cp];exact Nat.le_refl _) (Or.inl rfl);rw[<-hD] at hps q7;obtain ⟨⟨p1,-,p2⟩,p3⟩:=hps;rw[cp] at p1;have hperm:R.Perm L:=by
  have e1:(D.extract 0 L.length)=D:=by rw[<-p1];simp
  have e2:((jm L).extract 0 L.length)=jm L:=by rw[<-cp L];simp
  rw[e1,e2] at p2;have:=p2.map (λx:El L=>x.1);rw[q7];refine this.trans ?_;simp[jm]
 have hnd:R.Nodup:=hperm.nodup_iff.2 (by rw[hL];exact HH mw);refine ⟨λx=>by rw[<-hL];exact hperm.mem_iff,?_⟩;rw[List.pairwise_iff_getElem];intro i j hi hj hij;have hRl:R.length=D.size:=by rw[q7];simp
 have hiD:i<D.size:=by omega
 have hjD:j<D.size:=by omega
 have e1:R[i]=(D[i]!).1:=by
  have:R[i]?=some (D[i]!).1:=by rw[q7,List.getElem?_map];simp[hiD]
  rw[List.getElem?_eq_getElem hi] at this;injection this
 have e2:R[j]=(D[j]!).1:=by
  have:R[j]?=some (D[j]!).1:=by rw[q7,List.getElem?_map];simp[hjD]
  rw[List.getElem?_eq_getElem hj] at this;injection this
 have hlt:=p3 i j (Nat.zero_le _) hij (by omega);unfold ltOf at hlt;rw[decide_eq_false_iff_not,hcf,GR,<-e1,<-e2] at hlt;have hne:R[i]≠R[j]:=λh=>by have:=(List.pairwise_iff_getElem.1 hnd) i j hi hj hij;exact this h
 unfold S.Po at *;omega
theorem Kv {C:Cfg}{d:Nat}{g:G}{id ep len f:Nat}{lim:Option Nat}{cap:List AV}{rows:List (List AV)}{lo:Bool}(h3:g.h.get id=.cells 1 rows ep lo false)(hex:∃R,uU C d g id len rows f cap R) :
  ∃R,uU C d g id len rows f cap R/\rE C d [.hsl id ep 0 len lim,.clo f [] cap] g=.upd (.tup []) (g.put id (.cells 1 (R.map λx=>[.int .i64 x]) ep lo false)):=by
 refine ⟨hex.choose,hex.choose_spec,?_⟩;simp only[rE,h3];rw[dif_pos ⟨rfl,hex⟩]
theorem KS {d k b q:Nat}{n:Net}{vars oth mw:List Int}{m:Int}{qv u:AV}{g:G}{K:AV->G->Prop}{D:ADf->Prop}(hd:0<d)(hq:KX n vars oth mw m k qv)(hg:g.h.get q=.cells 1 [[qv]] 0 false false)(hu:Own g b u 1 ((S.OT mw).map ci))(hne:S.OT mw≠[])(hml:mw.length<=65536)(huq:vid u≠some q)
  (kk:∀R g',IsSrt mw R->Own g' b u 1 (R.map ci)->g.nx<=g'.nx->(∀i,vid u≠some i->g'.h.get i=g.h.get i)->K (.tup []) g') :
  (am C0 d N.PN [u,.clo N.OO [] [.hptr q 0 0 0]] g).sat K g D:=by
 have hc:∀x∈S.OT mw,∀y∈S.OT mw,af (I CS) d g N.OO [.int .i64 x,.int .i64 y,.hptr q 0 0 0]=.val (.int .i64 (S.Pu mw x y)):=λx hx y hy=>by obtain ⟨i,rfl,hi,-⟩:=pf.1 hx;obtain ⟨j,rfl,hj,-⟩:=pf.1 hy;exact Mo hd hq hg hi hj
 have hsid:([AV.hptr q 0 0 0].flatMap (aA g.h aB))=[q]/\aA g.h aB (.clo N.OO [] [.hptr q 0 0 0])=[q]:=by
  obtain ⟨t0,b0,vw,ow,ww,rfl,-⟩:=hq;have e1:aA g.h 23 (.hptr q 0 0 0)=[q]:=by show aA g.h (21+2) _=_;simp only[aA,hg,List.flatMap_cons,List.flatMap_nil,List.append_nil]
  have e2:aA g.h aB (.hptr q 0 0 0)=[q]:=by show aA g.h (22+2) _=_;simp only[aA,hg,List.flatMap_cons,List.flatMap_nil,List.append_nil]
  refine ⟨by rw[List.flatMap_cons,e2];rfl,?_⟩;show aA g.h (23+1) _=_;rw[aA];simp[e1]
 rcases hu with ⟨-,h0⟩ | ⟨id,ep,lo,h1,h2,rfl,h3⟩
 ·exact absurd (List.map_eq_nil_iff.1 h0) hne
 have hidq:id≠q:=λe=>huq (by rw[e];rfl);have hlen:(S.OT mw).length<=65536:=Nat.le_trans (y_ mw mw.length) hml;have hI:Inhabited (El (S.OT mw)):=⟨⟨(S.OT mw).head hne,List.head_mem hne⟩⟩;have hex:∃R,uU CS d g id ((S.OT mw).map ci).length ((S.OT mw).map ci) N.OO [.hptr q 0 0 0] R :=
  ⟨_,S.OT mw,hI,λx y=>S.Pu mw x.1 y.1,rfl,by simp,by omega,⟨by rw[hsid.1];simpa using hidq,λk hk=>by rw[hsid.2,<-hsid.1];exact hk⟩,Mp (mw:=mw) λ_ _=>rfl,λx y=>hc x.1 x.2 y.1 y.2,rfl⟩
 rw[j9];obtain ⟨R,hsp,hse⟩:=Kv (lim:=none) h3 hex;rw[hse];have hsr:=HX hc hsp;have hRl:R.length=(S.OT mw).length:=by obtain ⟨L,hI,cf,q1,q2,q3,q4,q5,q6,q7⟩:=hsp;have:=(pdq_sorts (ltOf cf) q5 (jm L) 0 L.length (Lib.bitLen L.length) true true (Nat.zero_le _) (by rw[cp];exact Nat.le_refl _) (Or.inl rfl)).1.1;rw[q7,List.length_map,Array.length_toList,this,cp,<-q2,List.length_map]
 refine kk R _ hsr (.inr ⟨id,ep,lo,h1,by simpa using h2,?_,?_⟩) (by simp) λi hi=>?_
 ·simp[hRl]
 ·rw[G.put_h,aR];rfl
 ·rw[G.put_h,aq _ _ _ (λe=>hi (by rw[e];rfl))]
def Sl1 (v:AV):Prop:=∀t s rows,v=.tsl t s rows->s=1
theorem Kp {P:Nat->Prop}{k d n:Nat}{h:H}{l:List Int}{v v':AV}(r:SlR P k h l v)(h1:Sl1 v)(e:Hx.snap h d (n+1) v=some v'):Sl1 v':=by
 have r:=r.2;unfold SlV at r
 split at r
 ·injection e with e;subst e;exact λ_ _ _ h=>by cases h
 ·injection e with e;subst e;exact λ_ _ _ h=>by cases h
 ·injection e with e;subst e;exact h1
 ·rename_i id ep off len lim;obtain ⟨-,rows,q2,-⟩:=r;simp only[ah] at q2;simp only[Hx.snap] at e
  split at q2
  ·rename_i sz' rows' ep' lo fz hg;rw[hg] at e;rw[aa] at q2
   split at q2
   ·rename_i hc;simp only[Bool.and_eq_true] at hc;obtain ⟨⟨hc1,hc2⟩,hc3⟩:=hc;have e1:=Nat.eq_of_beq_eq_true hc2;dsimp only at e;rw[aa] at e
    split at e
    ·split at e
     ·split at e
      ·injection e with e;subst e;intro t s rows h;injection h with a1 a2 a3;have:Rp.sz Int=1:=rfl;omega
      ·cases e
     ·cases e
    ·cases e
   ·cases q2
  ·cases q2
 ·exact r.elim
def G3 (l:List Int):VS:=λP k h v=>SlR P k h l v/\Sl1 v
theorem rC (l:List Int):Snb (G3 l) 0:=by
 refine ⟨λ{P k h v n} d r hn=>?_,λ{k h v n} r hn=>?_⟩
 ·obtain ⟨r,r1⟩:=r;obtain ⟨v',e,r'⟩:=(aS l).snap d (show One l P k h v from ⟨v,rfl,r⟩) hn;obtain ⟨n,rfl⟩:∃q,n=q+1:=⟨n - 1,by omega⟩;obtain ⟨w,hw,q⟩:=r';injection hw with hw;subst hw;exact ⟨v',e,q,Kp r r1 e⟩
 ·exact (aS l).tag (show One l NoP k h v from ⟨v,rfl,r.1⟩) hn
theorem NG {w:AV}{l:List Int}{k:Nat}(hw:SlR NoP k .nil l w)(h1:Sl1 w){c:Nat}(hc:c<=l.length) :
  ∃w',(∀g,lR 1 w none (some (.int .i64 (c:Int))) g=.val w')/\SlR NoP k .nil (l.take c) w':=by
 by_cases hne:l=[]
 ·subst hne;have:c=0:=by simpa using hc
  subst this;have hl:=hw.1;have h:=hw.2;unfold SlV at h
  split at h
  ·exact ⟨.nils,λg=>rfl,hl,rfl⟩
  ·exact ⟨.esl,λg=>rfl,hl,rfl⟩
  ·rename_i t s rows;obtain ⟨h0,-,h2⟩:=h;have hs:=h1 t s rows rfl;subst hs;have:rows=[]:=by have:=h2.len;simpa using this.symm
   subst this;exact ⟨.tsl t 1 [],λg=>rfl,hl,h0,.inl rfl,trivial⟩
  ·exact h.1.elim
  ·exact h.elim
 ·exact On hw hne hc
theorem HK {d k2:Nat}{P2:Nat->Prop}{g:G}{n:Net}{e:List Int}{v w:AV}(hd:0<d)(hm:Agg n NoP 0 g.h v)(he:SlR P2 k2 g.h e w) :
  am C0 d N.Pz [v,w] g=.val (.int .i64 (S.OY n e)):=by
 obtain ⟨b,rows,rfl,e1,hm',hN,-⟩:=fj d hm;obtain ⟨w',e2,hw'⟩:=be he d;have k1:=λg:G=>HR (d:=d+1) (g:=g) (Nat.succ_pos d) (hm' g.h);have k2:=λg:G=>J3 (d:=d+1) (g:=g) (P:=NoP) (k:=0) (Nat.succ_pos d) (hm' g.h) (hw' g.h);rw[vy];refine dE yx (xs:=[.agg [.int .i64 n.grain,b],w']) (by simp only[aE,e1,e2]) (by simp[fc]) hd ?_;rw[S.OY];cases c1:S.O2 n with
 | false=>simp only[sz,simprocAttr,fc,fu,k1,c1]
 | true=>cases c2:S.O0 n e with
  | false=>simp only[sz,simprocAttr,fc,fu,k1,c1,k2,c2]
  | true=>simp only[sz,simprocAttr,fc,fu,k1,c1,k2,c2]
section
variable {α:Type} [DecidableEq α]
def mgt (L:List (α×Int))(k:α):Int:=match L with
 | []=>0
 | (a,v)::r=>if k=a then v else mgt r k
def mcl (kf:α->AV)(L:List (α×Int)):List (AV×AV):=L.map λp=>(kf p.1,.int .i64 p.2)
end
def ik (a:Int):AV:=.int .i64 a
end
end Hx
end
section
namespace Hx
open Go
noncomputable section
structure BeJ (g0:G) (w m b:Int) (h:H):Prop where
 fr:∀i,i<g0.nx->i≠1->i≠5->i≠6->h.get i=g0.h.get i
 h1:h.get 1=.cells 1 [[.int .i64 w]] 0 false false
 h5:h.get 5=.cells 1 [[.int .i64 m]] 0 false false
 h6:h.get 6=.cells 1 [[.int .i64 b]] 0 false false
def LT0 (w z:AV):List (Nat×AV):=[(1,w),(2,z),(3,.hptr 0 0 0 0),(6,.hptr 1 0 0 0),(7,.int .i64 0),(8,.hptr 3 0 0 0),(11,.hptr 4 0 0 0)]
structure TbA (g0:G) (vars:List Int) (K:Int) (w z:AV) (j:Nat) (t:T) (g:G):Prop where
 st:St t (LT0 w z)
 h10:tat t 10=.int .i64 (gT vars j)
 h32:tat t 32=z
 pl:PlI vars K K.toNat j
 nx:g0.nx<=g.nx
 fr:∀i,i<g0.nx->i≠4->g.h.get i=g0.h.get i
 h4:g.h.get 4=.cells 1 [[.int .u64 (S.OP (vars.take j):Int)]] 0 false false
theorem uN {α:Type}{l:List α}{i:Nat}{a:α}(h:l[i]?=some a):l.set i a=l:=by
 refine List.ext_getElem? λj=>?_;rw[List.getElem?_set]
 by_cases e:i=j
 ·subst e;rw[if_pos rfl,if_pos (List.getElem?_eq_some_iff.1 h).1,h]
 ·rw[if_neg e]
theorem BS.fin0 {K J:Nat}{L:List Node}{x:Node}{bx:jA}{gr Rw:Int}{t t':T}{g:G}{V:Ky->AV}{E:Ky->En}{Q:QT}(hS:BS K J L x bx gr Rw t g V E)(fin:tV Q)(h3:tat t' 3=.hptr 1 0 0 0)(h4:tat t' 4=.hptr 2 0 0 0):Q .norm t' [] g :=
 fin _ _ gr _ L h3 h4 hS.f1 hS.f2 hS.sl
theorem C4 {g:G}{v:AV}{rows:List (List AV)}(h:ah g.h 1 v=some rows)(hl:0<rows.length):∀g':G,g'.h=g.h->BC 1 v (.int .i64 0) g'=.val (iH 1 v 0 0):=λg' e =>
 C3 (by rw[e,h];rfl) (by decide) (by rw[e,h];simpa using hl)
structure BW (x:Node) (J:Nat) (g:G) (V:Ky->AV) (E:Ky->En) (rws:List (List AV)):Prop where
 own:Own g 3 (V (J+1,1)) 1 rws
 e1:E (J+1,1)=.sl 1 rws
 len:rws.length=x.rows.length
 at_:∀(r:Nat) (y:List Int),x.rows[r]?=some y->rws[r]?=some [V (J+1,2+r)]
theorem BS.bw {K J:Nat}{L:List Node}{x:Node}{bx:jA}{gr Rw:Int}{t:T}{g:G}{V:Ky->AV}{E:Ky->En}(hS:BS K J L x bx gr Rw t g V E):∃rws,BW x J g V E rws:=by obtain ⟨rws,q1,q2,q3⟩:=(hS.bl.nd J x hS.hx).rs;exact ⟨rws,hS.hp.own (LS.s hS.hx (by omega)) q1,q1,q2,q3⟩
theorem BO {K r:Nat}{J:Nat}{x:Node}{V V':Ky->AV}{E E':Ky->En}{rws:List (List AV)}{y':List Int}(h:NdOk K V E J x)(hq:∀r y,x.rows[r]?=some y->rws[r]?=some [V (J+1,2+r)])(hl:rws.length=x.rows.length)(hr:r<x.rows.length)
  (hp:E' (J+1,0)=E (J+1,0)) (h1:E' (J+1,1)=.sl 1 (rws.set r [V' (J+1,2+r)])) (h2:E' (J+1,2+r)=.sl 1 (y'.map ci)) (hv:∀q,q≠r->V' (J+1,2+q)=V (J+1,2+q)) (he:∀q,q≠r->E' (J+1,2+q)=E (J+1,2+q)) (hy:y'.length<=K):NdOk K V' E' J ⟨x.card,x.parents,x.rows.set r y'⟩:=by
 refine ⟨by rw[hp];exact h.ps,⟨_,h1,by simp[hl],λq z hz=>?_⟩,λq z hz=>?_,h.len.1,by simpa using h.len.2.1,λz hz=>?_⟩
 ·have hz:(x.rows.set r y')[q]?=some z:=hz
  by_cases e:r=q
  ·subst e;rw[List.getElem?_set_self (by omega)]
  ·rw[List.getElem?_set_ne e] at hz ⊢;rw[hv q (Ne.symm e)];exact hq q z hz
 ·have hz:(x.rows.set r y')[q]?=some z:=hz
  by_cases e:r=q
  ·subst e;rw[List.getElem?_set_self (by omega)] at hz;injection hz with hz;subst hz;exact h2
  ·rw[List.getElem?_set_ne e] at hz;rw[he q (Ne.symm e)];exact h.rr q z hz
 ·rcases List.mem_or_eq_of_mem_set hz with h' | rfl
  ·exact h.len.2.2 z h'
  ·exact hy
section
variable {d K J:Nat}{L:List Node}{x:Node}{bx:jA}{gr Rw:Int}{t:T}{g:G}{V:Ky->AV}{E:Ky->En}{Q:QT}
theorem bc4 (hS:BS K J L x bx gr Rw t g V E)(fin:tV Q) :
  wp C0 d none (.feet [0,0,2,6,14,0,32,96,224,510,1023,2047,4095] [oM 142 10,oM 143 10,o 144 (.nilc (.t 143)),oF 145 2 144,oL 146 145,oF 147 3 2,oL 148 147,o 149 (.bsl 1 1 [.int .i64 0] [0] [.t 148]),o 150 (.bsl 1 1 [.nils] [0] [.t 149]),o 151 (.app 1 24 (.t 146) (.t 150)),o 152 (.nilc (.t 142)),oF 153 2 152,oz (.store 1 (.t 153) (.t 151))]) Q t [] g:=by
 obtain ⟨h2,h3,h4,h10,h11,-⟩:=hS.st;obtain ⟨rows,hB⟩:=hS.bt;obtain ⟨rws,hW⟩:=hS.bw;have hK:=hS.hK;have hl:=hS.hl;have hnx:=hS.hp.nx;have hlen:=hB.nd.len;simp only[sz,simprocAttr,sf,h2,h10,hS.f0,bo hB.ry,bu hB.ry,hB.own.rows,hB.hlt,hB.row];refine (hS.hp.step (g':=_) (by simp<;>omega) (λi hi hi2=>?_)).app2 (k:=(J+1,1)) (LS.s hS.hx (by omega)) hW.e1 (new:=[[.hsl (g.nx+1+1+1+1+1+1+1) 0 0 1 none]]) (by simp[sx,sy]) (by have:=hW.len;simp[aP];omega) λv1 ga hHa na fra foa lga vca vta=>?_
 ·simp[H.get_put];rw[if_neg (by omega),if_neg (by omega)]
 simp only[sx,sy] at na fra foa lga;have e00:ups V (J+1,1) v1 (0,0)=V (0,0):=ac _ _ (by simp<;>omega);have kn:ga.h.get (g.nx+1+1+1+1+1+1+1)=.cells 1 [[.int .i64 bx.2.2.2]] 0 false false:=by rw[foa (g.nx+1+1+1+1+1+1+1) (by omega) (λe=>by rw[bH hW.own] at e;have:=(hW.own.lt e).2;omega)];simp[H.get_put]
 simp only[sz,simprocAttr,sf,bo hB.ry,bu hB.ry];refine (hHa.same (g':=_) (by simp) (by simp<;>omega)).putv (k:=(0,0)) LS.z e00 (row':=[.int .i64 x.card,V (J+1,0),v1]) (by rw[ac _ _ (by simp<;>omega)];exact hB.e0) hB.row (by rw[vca];rfl) vta (by rw[vca];rfl) λgb hHb nb frb fob=>?_;simp only[sy] at nb frb fob ⊢;refine ⟨?_,?_⟩
 ·simp only[List.reverse_cons,List.reverse_nil,List.nil_append,List.cons_append];refine aO [false,false,false,false,false,false,false,true,true,true,false,false,true] [(0,7),(1,7),(2,7),(3,7),(4,7),(0,8),(1,8),(2,8),(3,8),(4,8),(0,9)] (by simp[All2,ap,aF]) (by decide) ?_;rintro p hp x y hx hy;simp only[List.mem_cons,List.not_mem_nil,or_false] at hp;have ro1:=hB.own.refs_lt;rcases hp with rfl | rfl | rfl | rfl | rfl | rfl | rfl | rfl | rfl | rfl | rfl<;>(simp at hx hy;subst hx;subst hy;refine dI rfl rfl rfl rfl ?_ ?_ ?_<;>simp[ap,aF,je hB.ry]<;>first | omega | (intro i' hi';have:=ro1 i' hi';omega) | skip)
 have knb:gb.h.get (g.nx+1+1+1+1+1+1+1)=.cells 1 [[.int .i64 bx.2.2.2]] 0 false false:=by rw[fob (g.nx+1+1+1+1+1+1+1) (λe=>by rw[e00,bH hB.own] at e;have:=(hB.own.lt e).2;omega)];simpa using kn
 have hpar:SlR P3 0 gb.h x.parents (V (J+1,0)):=by have:=hHb.own (k:=(J+1,0)) (LS.s hS.hx (by omega)) (by rw[ac _ _ (by simp<;>omega),ac _ _ (by simp<;>omega)];exact hB.nd.ps);rw[ac _ _ (by simp<;>omega)] at this;exact sg this (by omega) λ_ h=>h
 have hrws:SlR P3 0 gb.h (x.rows++[[bx.2.2.2]]) v1:=by
  have ho:=hHb.own (k:=(J+1,1)) (LS.s hS.hx (by omega)) (by rw[ac _ _ (by simp<;>omega),an]);rw[an] at ho;refine Own.sl (α:=List Int) ho (by simp<;>omega) (All2.append (tY hW.len.symm λr y row hy hr=>?_) ⟨?_,trivial⟩) λi hi=>(ho.lt hi).1
  ·rw[hW.at_ r y hy] at hr;injection hr with hr;subst hr;have hrl:=(List.getElem?_eq_some_iff.1 hy).1;have:=hHb.own (k:=(J+1,2+r)) (LS.s hS.hx (by omega)) (by rw[ac _ _ (by simp<;>omega),ac _ _ (by simp<;>omega)];exact hB.nd.rr r y hy);rw[ac _ _ (by simp<;>omega)] at this;exact da.2 ⟨_,rfl,sg this (by have:=hlen.2.2 y (List.mem_of_getElem? hy);omega) λ_ h=>h⟩
  ·refine da.2 ⟨_,rfl,by show 1<9223372036854775808;decide,(by show 3<=(g.nx+1+1+1+1+1+1+1);omega),[[.int .i64 bx.2.2.2]],?_,aL.2 rfl,trivial⟩;show ah gb.h 1 _=_;simp only[ah,knb];rfl
 obtain ⟨nds,hn⟩:=tA (x':=⟨x.card,x.parents,x.rows++[[bx.2.2.2]]⟩) hHb (λk hk=>hk) hB.oth.v.e.z (an _ _ _) e00 (bI.2 ⟨_,_,rfl,hpar,hrws⟩) (by omega) (by omega);have g1e:gb.h.get 1=.cells 2 [[.int .i64 gr,V (0,0)]] 0 false false:=by rw[frb 1 (by omega)];(try simp);rw[fra 1 (by omega),if_neg (by omega),if_neg (by omega),hS.f1]
 have g2e:gb.h.get 2=.cells 2 [[.int .i64 0,.nils]] 0 false false:=by rw[frb 2 (by omega)];(try simp);rw[fra 2 (by omega),if_neg (by omega),if_neg (by omega),hS.f2]
 exact fin _ _ gr _ nds (by simp[sx,h3]) (by simp[sx,h4]) (by simpa using g1e) (by simpa using g2e) (hn.heap (by simp))
theorem bc5 (hS:BS K J L x bx gr Rw t g V E)(fin:tV Q) :
  wp C0 d none (sQ [oM 156 11,o 157 (.bin .geq (.t 156) (qI 0))] (.cond (.t 157) (.ops [oM 158 10,oM 159 10,o 160 (.nilc (.t 159)),oF 161 2 160,oL 162 161,oM 163 11,o 164 (.slc 1 (.t 162) [] [.t 163]),o 165 (.nilc (.t 158)),oF 166 2 165,oz (.store 1 (.t 166) (.t 164))]) (.skip))) Q t [] g:=by
 obtain ⟨h2,h3,h4,h10,h11,-⟩:=hS.st;obtain ⟨rows,hB⟩:=hS.bt;obtain ⟨rws,hW⟩:=hS.bw;have hK:=hS.hK;have hl:=hS.hl;rcases hS.hR with ⟨rfl,h0⟩ | ⟨r,rfl,hr⟩
 ·simp only[sx,SO.run,↓reduceIte,h11];exact ⟨λh=>by simp at h,λ_=>hS.fin0 fin (by simp[sx,h3]) (by simp[sx,h4])⟩
 ·simp only[sx,SO.run,↓reduceIte,h11];refine ⟨λ_=>?_,λh=>by simp at h⟩;obtain ⟨y,q1,q2,q3⟩:=B3 (α:=List Int) hW.own (n:=r) (by intro h;have:=hW.len;rw[h] at this;simp at this;omega) (by have:=hW.len;omega);have q1:lR 1 (V (J+1,1)) none (some (.int .i64 (r:Int))) g=.val y:=q1;simp only[sx,sy,SO.run,↓reduceIte,Nat.reduceEqDiff,h10,h11,bo hB.ry,bu hB.ry,hB.own.rows,hB.hlt,hB.row,q1,List.head?_nil,List.head?_cons,Option.isSome_some,Option.getD_some];refine hS.hp.put LS.z (off:=2) (n:=1) (row':=[.int .i64 x.card,V (J+1,0),y]) hB.e0 hB.row (by simp[q2.1]) q2.2 (by rw[q2.1];rfl) λgb hHb nb frb fob=>?_;simp only[sx];have hnd:=hB.nd.congr (V':=V) (E':=ups E (0,0) (.sl 3 (rows.set J [.int .i64 x.card,V (J+1,0),y]))) (λ_=>rfl) (λq=>ac _ _ (by simp<;>omega));have hrd:Rp.rp P3 0 gb.h (⟨x.card,x.parents,x.rows.take r⟩:Node) [.int .i64 x.card,V (J+1,0),y]:=by refine bI.2 ⟨_,_,rfl,hnd.pars hHb (LS.s hS.hx (by omega)) (by omega),q3 P3 0 _ gb.h (λi hi=>fob i λe=>?_) (hnd.rows hHb (λq hq=>LS.s hS.hx hq) (by omega))⟩;exact hS.hp.sep (0,0) (J+1,1) LS.z (LS.s hS.hx (by omega)) (by simp) i e (by rw[bH hW.own];exact hi)
  obtain ⟨nds,hn⟩:=tA hHb (λk hk=>hk) hB.oth.z (an _ _ _) rfl hrd (by omega) (by omega);exact fin _ _ gr _ nds (by simp[sx,h3]) (by simp[sx,h4]) (by rw[frb 1 (by omega),hS.f1]) (by rw[frb 2 (by omega),hS.f2]) hn
theorem bc6 (hS:BS K J L x bx gr Rw t g V E)(fin:tV Q) :
  wp C0 d none (sQ [oM 169 11,o 170 (.bin .geq (.t 169) (qI 0)),oM 171 170,og 172 171 true (.mv (.t 10)),og 173 171 true (.nilc (.t 172)),og 174 171 true (.fad 2 (.t 173)),og 175 171 true (.load false 1 (.t 174)),og 176 171 true (.mv (.t 11)),og 177 171 true (.ixs 1 (.t 175) (.t 176)),og 178 171 true (.load false 1 (.t 177)),og 179 171 true (.len .slice (.t 178)),og 180 171 true (.bin .gtr (.t 179) (qI 0)),o 181 (.pick (.t 171) (.t 180) (.k (.bool false)))] (.cond (.t 181) (.feet [0,1,3,7,0,31,63,0,128,511,1023] [oM 182 10,o 183 (.nilc (.t 182)),oF 184 2 183,oL 185 184,oM 186 11,oX 187 185 186,oL 188 187,oF 189 3 2,oL 190 189,o 191 (.ixs 1 (.t 188) (qI 0)),oz (.store 1 (.t 191) (.t 190))]) (.skip))) Q t [] g:=by
 obtain ⟨h2,h3,h4,h10,h11,-⟩:=hS.st;obtain ⟨rows,hB⟩:=hS.bt;obtain ⟨rws,hW⟩:=hS.bw;have hK:=hS.hK;have hl:=hS.hl;rcases hS.hR with ⟨rfl,h0⟩ | ⟨r,rfl,hr⟩
 ·simp only[sz,simprocAttr,h11,show decide ((-1:Int) >= 0)=false from rfl];exact hS.fin0 fin (by simp[sx,h3]) (by simp[sx,h4])
 ·obtain ⟨y,hy⟩:∃y,x.rows[r]?=some y:=⟨_,List.getElem?_eq_getElem hr⟩;have hrw:=hW.at_ r y hy;have hkL:LS L (J+1,2+r):=LS.s hS.hx (by omega);have hyo:=hS.hp.own hkL (hB.nd.rr r y hy);have hyl:=hB.nd.len.2.2 y (List.mem_of_getElem? hy);have ly:=cL hyo.rows;rw[List.length_map] at ly;have hrl:r<rws.length:=by have:=hW.len;omega
  have hryw:jS (V (J+1,1))=true:=eo hW.own (by omega);simp only[sz,simprocAttr,h10,h11,show decide ((r:Int) >= 0)=true from by simp,bo hB.ry,bu hB.ry,hB.own.rows,hB.hlt,hB.row,hW.own.rows,hrl,hrw,ly];refine aZ (λhb=>?_) (λhb=>?_)
  ·have hpos:0<y.length:=by simpa using hb
   obtain ⟨z,hz⟩:∃z,y[0]?=some z:=⟨_,List.getElem?_eq_getElem hpos⟩;have u1:0<(y.map ci).length:=by simpa using hpos
   have u2:(y.map ci)[0]?=some (ci z):=by rw[List.getElem?_map,hz];rfl
   have u3:=hyo.rows;have hryy:jS (V (J+1,2+r))=true:=eo hyo u1;simp only[sz,simprocAttr,sf,h2,h10,h11,hS.f0,bo hB.ry,bu hB.ry,hB.own.rows,hB.hlt,hB.row,hW.own.rows,hrl,hrw,C4 u3 u1];refine (hS.hp.same (g':=_) (by simp) (by simp<;>omega)).put (k:=(J+1,2+r)) (i:=0) (off:=0) (n:=1) (row:=ci z) (row':=ci bx.2.2.2) hkL (hB.nd.rr r y hy) u2 rfl rfl rfl λgb hHb nb frb fob=>?_;simp only[sy] at nb frb fob ⊢;refine ⟨?_,?_⟩
   ·simp only[List.reverse_cons,List.reverse_nil,List.nil_append,List.cons_append];exact aO [false,false,false,false,false,false,false,false,false,false,true] [] (by simp[All2,ap,aF]) (by decide) (by simp)
   have hnd:=BO (r:=r) (V':=V) (E':=ups E (J+1,2+r) (.sl 1 ((y.map ci).set 0 (ci bx.2.2.2)))) (y':=y.set 0 bx.2.2.2) hB.nd hW.at_ hW.len hr (ac _ _ (by simp<;>omega)) (by rw[ac _ _ (by simp<;>omega),hW.e1,uN hrw]) (by rw[an,List.map_set]) (λ_ _=>rfl) (λq hq=>ac _ _ (by simp<;>omega)) (by simpa using hyl);have hrd:=hnd.rd hHb (λq hq=>LS.s hS.hx (by simpa using hq)) (by omega);obtain ⟨nds,hn⟩:=tA (rows:=rows) (J:=J) hHb (λk hk=>hk) hB.oth.e (by rw[ac _ _ (by simp<;>omega),hB.e0];exact congrArg _ (uN hB.row).symm) rfl hrd (by omega) (by omega);exact fin _ _ gr _ nds (by simp[sx,h3]) (by simp[sx,h4]) (by simp only[bumpG_h];rw[frb 1 (by omega)];simpa using hS.f1) (by simp only[bumpG_h];rw[frb 2 (by omega)];simpa using hS.f2) (hn.heap (by simp))
  ·simp only[sx];exact hS.fin0 fin (by simp[sx,h3]) (by simp[sx,h4])
end
end
end Hx
end
section
namespace Hx
open Go
noncomputable section
section
variable {d K J:Nat}{L:List Node}{x:Node}{bx:jA}{gr Rw:Int}{t:T}{g:G}{V:Ky->AV}{E:Ky->En}{Q:QT}
theorem bc7 (hS:BS K J L x bx gr Rw t g V E)(fin:tV Q) :
  wp C0 d none (sQ [oM 194 11,o 195 (.bin .geq (.t 194) (qI 0))] (.cond (.t 195) (.feet [0,1,3,7,0,0,32,96,224,0,992,2016,0,8160,16383,32767] [oM 196 10,o 197 (.nilc (.t 196)),oF 198 2 197,oL 199 198,oM 200 11,oM 201 10,o 202 (.nilc (.t 201)),oF 203 2 202,oL 204 203,oM 205 11,oX 206 204 205,oL 207 206,o 208 (.bsl 1 1 [.int .i64 0] [0] [.k (.int .i64 0)]),o 209 (.app 1 8 (.t 207) (.t 208)),oX 210 199 200,oz (.store 1 (.t 210) (.t 209))]) (.skip))) Q t [] g:=by
 obtain ⟨h2,h3,h4,h10,h11,-⟩:=hS.st;obtain ⟨rows,hB⟩:=hS.bt;obtain ⟨rws,hW⟩:=hS.bw;have hK:=hS.hK;have hl:=hS.hl;have hnx:=hS.hp.nx;rcases hS.hR with ⟨rfl,h0⟩ | ⟨r,rfl,hr⟩
 ·simp only[sx,SO.run,↓reduceIte,h11];exact ⟨λh=>by simp at h,λ_=>hS.fin0 fin (by simp[sx,h3]) (by simp[sx,h4])⟩
 ·simp only[sx,SO.run,↓reduceIte,h11];refine ⟨λ_=>?_,λh=>by simp at h⟩;obtain ⟨y,hy⟩:∃y,x.rows[r]?=some y:=⟨_,List.getElem?_eq_getElem hr⟩;have hrw:=hW.at_ r y hy;have hkL:LS L (J+1,2+r):=LS.s hS.hx (by omega);have hE2:=hB.nd.rr r y hy;have hyo:=hS.hp.own hkL hE2;have hyl:=hB.nd.len.2.2 y (List.mem_of_getElem? hy);have hrl:r<rws.length:=by have:=hW.len;omega
  have hryw:jS (V (J+1,1))=true:=eo hW.own (by omega);simp only[sx,sy,sf,SO.run,↓reduceIte,Nat.reduceEqDiff,h10,h11,bo hB.ry,bu hB.ry,hB.own.rows,hB.hlt,hB.row,hW.own.rows,hrl,hrw,Option.isSome_some,Option.getD_some];refine (hS.hp.step (g':=_) (by simp<;>omega) (λi hi hi2=>?_)).app2 (k:=(J+1,2+r)) hkL hE2 (new:=[[.int .i64 0]]) (by simp[sx,sy]) (by simp[aP];omega) λv1 ga hHa na fra foa lga vca vta=>?_
  ·simp[H.get_put];omega
  simp only[sx,sy] at na fra foa lga;have e11:ups V (J+1,2+r) v1 (J+1,1)=V (J+1,1):=ac _ _ (by simp<;>omega);have hE1:ups E (J+1,2+r) (.sl 1 (y.map ci++[[.int .i64 0]])) (J+1,1)=.sl 1 rws:=by rw[ac _ _ (by simp<;>omega)];exact hW.e1
  have rwa:ah ga.h 1 (V (J+1,1))=some rws:=by rw[<-e11];exact (hHa.own (LS.s hS.hx (by omega)) hE1).rows
  simp only[sx,sy,sf,SO.run,↓reduceIte,Nat.reduceEqDiff,rwa,hrl,Option.isSome_some,Option.getD_some];refine (hHa.same (g':=_) (by simp) (by simp<;>omega)).putv (k:=(J+1,1)) (i:=r) (off:=0) (n:=1) (LS.s hS.hx (by omega)) e11 (row':=[v1]) hE1 hrw (by rw[vca];rfl) vta (by rw[vca];rfl) λgb hHb nb frb fob=>?_;simp only[sy] at nb frb fob ⊢;refine ⟨?_,?_⟩
  ·simp only[List.reverse_cons,List.reverse_nil,List.nil_append,List.cons_append];refine aO [false,false,false,false,false,false,false,false,false,false,false,false,true,true,false,true] [(0,12),(1,12),(2,12),(3,12),(4,12),(5,12),(6,12),(7,12),(8,12),(9,12),(10,12),(11,12),(0,13),(1,13),(2,13),(3,13),(4,13)] (by simp[All2,ap,aF]) (by decide) ?_;have ro1:=hB.own.refs_lt;have ro2:=hW.own.refs_lt;have lg0:∀i∈ga.lg,i ∉ ak (V (0,0)):=λi hi hm=>by
    obtain ⟨id0,hv0⟩:∃id,eid (V (0,0))=some id/\ak (V (0,0))=[id]:=by
     rcases hB.own with ⟨h,-⟩ | ⟨id,ep,lo,-,-,h,-⟩
     ·rw[h] at hm;simp[ak] at hm
     ·rw[h];exact ⟨id,rfl,rfl⟩
    rw[hv0.2] at hm;have hm:=List.mem_singleton.1 hm;subst hm;rcases lga i hi with h | h | h
    ·simp at h
    ·exact hS.hp.sep (J+1,2+r) (0,0) hkL LS.z (by simp) i h hv0.1
    ·have:=ro1 i (by rw[hv0.2];simp);omega
   rintro p hp x y hx hy;simp only[List.mem_cons,List.not_mem_nil,or_false] at hp;rcases hp with rfl | rfl | rfl | rfl | rfl | rfl | rfl | rfl | rfl | rfl | rfl | rfl | rfl | rfl | rfl | rfl | rfl<;>(simp at hx hy;subst hx;subst hy;refine dI rfl rfl rfl rfl ?_ ?_ ?_<;>simp[ap,aF,je hB.ry,je hryw]<;>first | omega | (intro i' hi';have:=ro1 i' hi';omega) | (intro i' hi';have:=ro2 i' hi';omega) | exact lg0 | exact (λi hi h=>lg0 h hi) | exact (λi hi h=>lg0 i h hi) | (intro i' hi' hm;exact lg0 _ hi' hm) | exact (λi hi j hj e=>lg0 i hi (e ▸ hj)) | skip)
  have hnd:=BO (r:=r) (V':=ups V (J+1,2+r) v1) (E':=ups (ups E (J+1,2+r) (.sl 1 (y.map ci++[[.int .i64 0]]))) (J+1,1) (.sl 1 (rws.set r [v1]))) (y':=y++[0]) (hB.nd.up (show K<=K+1 by omega)) hW.at_ hW.len hr (by rw[ac _ _ (by simp<;>omega),ac _ _ (by simp<;>omega)]) (by rw[an,an]) (by rw[ac _ _ (by simp<;>omega),an];simp[ci]) (λq hq=>ac _ _ (by simp<;>omega)) (λq hq=>by rw[ac _ _ (by simp<;>omega),ac _ _ (by simp<;>omega)]) (by simp<;>omega);have hrd:=hnd.rd hHb (λq hq=>LS.s hS.hx (by simpa using hq)) (by omega);obtain ⟨nds,hn⟩:=tA (rows:=rows) (J:=J) hHb (λk hk=>hk) hB.oth.v.e.e (by rw[ac _ _ (by simp<;>omega),ac _ _ (by simp<;>omega),hB.e0];rw[jz,ac _ _ (by simp<;>omega),ac _ _ (by simp<;>omega)];exact congrArg _ (uN hB.row).symm) (ac _ _ (by simp<;>omega)) hrd (by omega) (by omega);have g1e:gb.h.get 1=.cells 2 [[.int .i64 gr,V (0,0)]] 0 false false:=by rw[frb 1 (by omega)];(try simp);rw[fra 1 (by omega),if_neg (by omega),hS.f1]
  have g2e:gb.h.get 2=.cells 2 [[.int .i64 0,.nils]] 0 false false:=by rw[frb 2 (by omega)];(try simp);rw[fra 2 (by omega),if_neg (by omega),hS.f2]
  exact fin _ _ gr _ nds (by simp[sx,h3]) (by simp[sx,h4]) (by simpa using g1e) (by simpa using g2e) (hn.heap (by simp))
theorem OA (hS:BS K J L x bx gr Rw t g V E)(fin:tV Q) :
  wp C0 d none (.ops [oF 312 1 3,oL 313 312,oF 314 0 3,oL 315 314,o 316 (.bsl 1 1 [.int .i64 0] [0] [.t 315]),o 317 (.bsl 1 1 [.nils] [0] [.t 316]),o 318 (.build [.int .i64 0,.nils,.nils] [(0,1),(2,1)] [.k (.int .i64 1),.t 317]),o 319 (.bsl 3 1 [.int .i64 0,.nils,.nils] [0] [.t 318]),o 320 (.app 3 56 (.t 313) (.t 319)),oF 321 1 3,oz (.store 1 (.t 321) (.t 320))]) Q t [] g:=by
 obtain ⟨h2,h3,h4,h10,h11,-⟩:=hS.st;obtain ⟨rows,hB⟩:=hS.bt;have hK:=hS.hK;have hl:=hS.hl;have hnx:=hS.hp.nx;have hrl:=hB.oth.len;simp only[sz,simprocAttr,h3,hS.f1];refine (hS.hp.step (g':=_) (by simp<;>omega) (λi hi hi2=>?_)).app2 (k:=(0,0)) LS.z hB.e0 (new:=[[.int .i64 1,.nils,.hsl (g.nx+1) 0 0 1 none]]) (by simp[sx,sy]) (by simp[aP];omega) λv1 gb hHb nb frb fob _ vca vta=>?_
 ·simp[H.get_put];rw[if_neg (by omega),if_neg (by omega),if_neg (by omega)]
 simp only[sx,sy] at nb frb fob;have ne:∀i,g.nx<=i->eid (V (0,0))≠some i:=λi hi e=>by rw[bH hB.own] at e;have:=(hB.own.lt e).2;omega
 have k1:gb.h.get g.nx=.cells 1 [[.int .i64 gr]] 0 false false:=by rw[fob g.nx (by omega) (ne _ (Nat.le_refl _))];simp[H.get_put]<;>omega
 have k2:gb.h.get (g.nx+1)=.cells 1 [[.hsl g.nx 0 0 1 none]] 0 false false:=by rw[fob (g.nx+1) (by omega) (ne _ (by omega))];simp[H.get_put]<;>omega
 have hnew:Rp.rp P3 0 gb.h (⟨1,[],[[gr]]⟩:Node) [.int .i64 1,.nils,.hsl (g.nx+1) 0 0 1 none]:=by
  refine bI.2 ⟨_,_,rfl,⟨by show 0<9223372036854775808;decide,rfl⟩,⟨by show 1<9223372036854775808;decide,by show 3<=g.nx+1;omega,[[.hsl g.nx 0 0 1 none]],?_,da.2 ⟨_,rfl,by show 1<9223372036854775808;decide,hnx,[[.int .i64 gr]],?_,aL.2 rfl,trivial⟩,trivial⟩⟩
  ·show ah gb.h 1 _=_;simp only[ah,k2];rfl
  ·show ah gb.h 1 _=_;simp only[ah,k1];rfl
 have ho:=hHb.own LS.z (an _ _ _);rw[an] at ho;obtain ⟨nds,-,hn⟩:=De ho (by simp<;>omega) λi row hi=>by
  by_cases e:i<rows.length
  ·rw[List.getElem?_append_left e] at hi;obtain ⟨z,hz⟩:∃z,L[i]?=some z:=⟨_,List.getElem?_eq_getElem (by omega)⟩;have hnd:=(hS.bl.nd i z hz).congr (V':=ups V (0,0) v1) (E':=ups E (0,0) (.sl 3 (rows++[[.int .i64 1,.nils,.hsl (g.nx+1) 0 0 1 none]]))) (λq=>ac _ _ (by simp<;>omega)) (λq=>ac _ _ (by simp<;>omega));have hrd:=hnd.rd hHb (λq hq=>LS.s hz hq) (by omega);have hrow:rows[i]?=some (jz V i z.card):=by
    by_cases e2:i=J
    ·subst e2;rw[hS.hx] at hz;injection hz with hz;subst hz;exact hB.row
    ·exact hB.oth.ns i z e2 hz
   rw[hrow] at hi;injection hi with hi;subst hi;rw[jz,ac _ _ (by simp<;>omega),ac _ _ (by simp<;>omega)] at hrd;exact ⟨z,hrd⟩
  ·have hil:=(List.getElem?_eq_some_iff.1 hi).1;simp at hil;have e:i=rows.length:=by omega
   subst e;rw[List.getElem?_concat_length] at hi;injection hi with hi;subst hi;exact ⟨_,hnew⟩
 have g1e:gb.h.get 1=.cells 2 [[.int .i64 gr,V (0,0)]] 0 false false:=by rw[frb 1 (by omega),if_neg (by omega),if_neg (by omega),if_neg (by omega),hS.f1]
 have g2e:gb.h.get 2=.cells 2 [[.int .i64 0,.nils]] 0 false false:=by rw[frb 2 (by omega),if_neg (by omega),if_neg (by omega),if_neg (by omega),hS.f2]
 simp only[sz,simprocAttr,h3,g1e,vca,vta];exact fin _ _ gr _ nds (by simp[sx,h3]) (by simp[sx,h4]) (by simp[H.get_put]) (by simp[H.get_put,g2e]) (hn.far λi hi=>by simp[H.get_put,Nu hi])
theorem OB (hS:BS K J L x bx gr Rw t g V E)(fin:tV Q) :
  wp C0 d none (.ops [oF 102 1 3,oL 103 102,oF 104 1 3,oL 105 104,oN 106 105,o 107 (.bin .sub (.t 106) (qI 1)),o 108 (.slc 3 (.t 103) [] [.t 107]),oF 109 1 3,oz (.store 1 (.t 109) (.t 108))]) Q t [] g:=by
 obtain ⟨h2,h3,h4,h10,h11,-⟩:=hS.st;obtain ⟨rows,hB⟩:=hS.bt;have hK:=hS.hK;have hl:=hS.hl;have hrl:=hB.oth.len;have hlt:=hB.hlt;have len1:=cL hB.own.rows;have e1:((rows.length:Int) - 1)=((rows.length - 1:Nat):Int):=by omega
 obtain ⟨y,q1,q2,q3⟩:=B3 (α:=Node) hB.own (n:=rows.length - 1) (by intro h;rw[h] at hlt;simp at hlt) (by omega);have w9:IntKind.wrap .i64 ((rows.length - 1:Nat):Int)=((rows.length - 1:Nat):Int):=ay (by omega) (by omega);have q1:lR 3 (V (0,0)) none (some (.int .i64 ((rows.length - 1:Nat):Int))) g=.val y:=q1;simp only[sz,simprocAttr,h3,hS.f1,len1,List.head?_nil,List.head?_cons,e1,w9,q1,q2.1,q2.2];have hn:=q3 P3 0 _ g.h (λ_ _=>rfl) hS.sl;exact fin _ _ gr _ _ (by simp[sx,h3]) (by simp[sx,h4]) (by simp[H.get_put]) (by simp[H.get_put,hS.f2]) (hn.far λi hi=>by simp[H.get_put,Nu hi])
end
end
end Hx
end
section
namespace Hx
open Go
noncomputable section
theorem LS.upd {L:List Node}{J:Nat}{x x':Node}(hx:L[J]?=some x)(hl:x'.rows.length=x.rows.length){k:Ky}(h:LS (L.set J x') k):LS L k:=by
 rcases h with h | ⟨i,q,z,h,hz,hq⟩
 ·exact .inl h
 ·rw[List.getElem?_set] at hz
  by_cases e:J=i
  ·subst e;rw[if_pos rfl] at hz
   split at hz
   ·injection hz with hz;subst hz;exact .inr ⟨J,q,x,h,hx,by omega⟩
   ·cases hz
  ·rw[if_neg e] at hz;exact .inr ⟨i,q,z,h,hz,hq⟩
theorem BLs.upd {K J:Nat}{L:List Node}{V:Ky->AV}{E:Ky->En}{rows:List (List AV)}{x':Node}(hO:Oth K L J V E rows)(e0:E (0,0)=.sl 3 rows)(hrow:rows[J]?=some (jz V J x'.card))(hnd:NdOk K V E J x'):BLs K V E (L.set J x'):=by
 refine ⟨⟨rows,e0,by simp[hO.len],λi z hz=>?_⟩,λi z hz=>?_⟩
 ·rw[List.getElem?_set] at hz
  by_cases e:J=i
  ·subst e;rw[if_pos rfl] at hz
   split at hz
   ·injection hz with hz;subst hz;exact hrow
   ·cases hz
  ·rw[if_neg e] at hz;exact hO.ns i z (Ne.symm e) hz
 ·rw[List.getElem?_set] at hz
  by_cases e:J=i
  ·subst e;rw[if_pos rfl] at hz
   split at hz
   ·injection hz with hz;subst hz;exact hnd
   ·cases hz
  ·rw[if_neg e] at hz;exact hO.nd i z (Ne.symm e) hz
def Node.wr (x:Node)(r:Nat)(y:List Int):Node:=⟨x.card,x.parents,x.rows.set r y⟩
abbrev LBS (W:AV)(J:Nat)(Rw:Int):List (Nat×AV):=[(2,.hptr 0 0 0 0),(3,.hptr 1 0 0 0),(4,.hptr 2 0 0 0),(10,iH 3 W J 0),(11,.int .i64 Rw)]
section
variable {d K J r:Nat}{L:List Node}{x:Node}{bx:jA}{gr Rw:Int}{t t':T}{g gb:G}{V:Ky->AV}{E:Ky->En}{Q:QT}{y y':List Int}
theorem BS.put (hS:BS K J L x bx gr (r:Int) t g V E)(hy:x.rows[r]?=some y)(hHb:Hp gb 3 (LS L) V (ups E (J+1,2+r) (.sl 1 (y'.map ci))))(frb:∀i,i<3->gb.h.get i=g.h.get i)(hyl:y'.length<=K)(st:St t' (LBS (V (0,0)) J (r:Int))) :
  BS K J (L.set J (x.wr r y')) (x.wr r y') bx gr (r:Int) t' gb V (ups E (J+1,2+r) (.sl 1 (y'.map ci))):=by
 obtain ⟨rows,hB⟩:=hS.bt;obtain ⟨rws,hW⟩:=hS.bw;have hr:=(List.getElem?_eq_some_iff.1 hy).1;have hrw:=hW.at_ r y hy;have hJ:=(List.getElem?_eq_some_iff.1 hS.hx).1;have hnd:=BO (r:=r) (V':=V) (E':=ups E (J+1,2+r) (.sl 1 (y'.map ci))) (y':=y') hB.nd hW.at_ hW.len hr (ac _ _ (by simp<;>omega)) (by rw[ac _ _ (by simp<;>omega),hW.e1,uN hrw]) (an _ _ _) (λ_ _=>rfl) (λq hq=>ac _ _ (by simp<;>omega)) hyl;have hl:(x.wr r y').rows.length=x.rows.length:=by simp[Node.wr]
 refine ⟨st,hHb.sub λk hk=>LS.upd hS.hx hl hk,by rw[frb 0 (by omega)];exact hS.f0,by rw[frb 1 (by omega)];exact hS.f1,by rw[frb 2 (by omega)];exact hS.f2,BLs.upd hB.oth.e (by rw[ac _ _ (by simp<;>omega)];exact hB.e0) hB.row hnd,by rw[List.getElem?_set_self hJ],.inr ⟨r,rfl,by omega⟩,hS.hK,by simpa using hS.hl⟩
theorem BS.mv (hS:BS K J L x bx gr Rw t g V E)(hh:gb.h=g.h)(hn:g.nx<=gb.nx)(st:St t' (LBS (V (0,0)) J Rw)):BS K J L x bx gr Rw t' gb V E :=
 ⟨st,hS.hp.same hh hn,by rw[hh];exact hS.f0,by rw[hh];exact hS.f1,by rw[hh];exact hS.f2,hS.bl,hS.hx,hS.hR,hS.hK,hS.hl⟩
structure BR (x:Node) (J r:Nat) (y:List Int) (g:G) (V:Ky->AV) (E:Ky->En) (rws:List (List AV)):Prop where
 wr:ah g.h 1 (V (J+1,1))=some rws
 rl:r<rws.length
 rw_:rws[r]?=some [V (J+1,2+r)]
 ry:jS (V (J+1,1))=true
 yr:ah g.h 1 (V (J+1,2+r))=some (y.map ci)
 ye:E (J+1,2+r)=.sl 1 (y.map ci)
 yl:y.length<=K
theorem BS.br (hS:BS K J L x bx gr (r:Int) t g V E)(hy:x.rows[r]?=some y):∃rws,BR (K:=K) x J r y g V E rws:=by
 obtain ⟨rows,hB⟩:=hS.bt;obtain ⟨rws,hW⟩:=hS.bw;have hr:=(List.getElem?_eq_some_iff.1 hy).1;have hrl:r<rws.length:=by have:=hW.len;omega
 have hye:=hB.nd.rr r y hy;exact ⟨rws,hW.own.rows,hrl,hW.at_ r y hy,eo hW.own (by omega),(hS.hp.own (LS.s hS.hx (by omega)) hye).rows,hye,hB.nd.len.2.2 y (List.mem_of_getElem? hy)⟩
theorem bc8 (hS:BS K J L x bx gr Rw t g V E)(fin:tV Q) :
  wp C0 d none (sQ [oM 213 11,o 214 (.bin .geq (.t 213) (qI 0)),oM 215 214,og 216 215 true (.mv (.t 10)),og 217 215 true (.nilc (.t 216)),og 218 215 true (.fad 2 (.t 217)),og 219 215 true (.load false 1 (.t 218)),og 220 215 true (.mv (.t 11)),og 221 215 true (.ixs 1 (.t 219) (.t 220)),og 222 215 true (.load false 1 (.t 221)),og 223 215 true (.len .slice (.t 222)),og 224 215 true (.bin .gtr (.t 223) (qI 0)),o 225 (.pick (.t 215) (.t 224) (.k (.bool false)))] (.cond (.t 225) (.seq (.feet [0,1,3,7,0,0,32,96,224,0,992,2016,4064,8160,16383,32767] [oM 226 10,o 227 (.nilc (.t 226)),oF 228 2 227,oL 229 228,oM 230 11,oM 231 10,o 232 (.nilc (.t 231)),oF 233 2 232,oL 234 233,oM 235 11,oX 236 234 235,oL 237 236,oN 238 237,o 239 (.mks 1 8 [.int .i64 0] (.t 238) (.t 238)),oX 240 229 230,oz (.store 1 (.t 240) (.t 239))]) (.feet [0,1,3,7,0,31,63,0,128,511,1023] [oM 241 10,o 242 (.nilc (.t 241)),oF 243 2 242,oL 244 243,oM 245 11,oX 246 244 245,oL 247 246,oF 248 0 3,oL 249 248,o 250 (.ixs 1 (.t 247) (qI 0)),oz (.store 1 (.t 250) (.t 249))])) (.skip))) Q t [] g:=by
 obtain ⟨h2,h3,h4,h10,h11,-⟩:=hS.st;obtain ⟨rows,hB⟩:=hS.bt;obtain ⟨rws,hW⟩:=hS.bw;have hK:=hS.hK;have hl:=hS.hl;have hnx:=hS.hp.nx;rcases hS.hR with ⟨rfl,h0⟩ | ⟨r,rfl,hr⟩
 ·simp only[sz,simprocAttr,h11,show decide ((-1:Int) >= 0)=false from rfl];exact hS.fin0 fin (by simp[sx,h3]) (by simp[sx,h4])
 ·obtain ⟨y,hy⟩:∃y,x.rows[r]?=some y:=⟨_,List.getElem?_eq_getElem hr⟩;have hrw:=hW.at_ r y hy;have hkL:LS L (J+1,2+r):=LS.s hS.hx (by omega);have hyo:=hS.hp.own hkL (hB.nd.rr r y hy);have hyl:=hB.nd.len.2.2 y (List.mem_of_getElem? hy);have ly:=cL hyo.rows;rw[List.length_map] at ly;have hrl:r<rws.length:=by have:=hW.len;omega
  have hryw:jS (V (J+1,1))=true:=eo hW.own (by omega);simp only[sz,simprocAttr,h10,h11,show decide ((r:Int) >= 0)=true from by simp,bo hB.ry,bu hB.ry,hB.own.rows,hB.hlt,hB.row,hW.own.rows,hrl,hrw,ly];refine aZ (λhb=>?_) (λhb=>?_)
  ·have hpos:0<y.length:=by simpa using hb
   obtain ⟨A,hA⟩:∃A,A=SC.feet [0,1,3,7,0,31,63,0,128,511,1023] [oM 241 10,o 242 (.nilc (.t 241)),oF 243 2 242,oL 244 243,oM 245 11,oX 246 244 245,oL 247 246,oF 248 0 3,oL 249 248,o 250 (.ixs 1 (.t 247) (qI 0)),oz (.store 1 (.t 250) (.t 249))]:=⟨_,rfl⟩;rw[<-hA];refine jN (P:=λt' df g'=>df=[]/\∃L' x' V' E',BS K J L' x' bx gr (r:Int) t' g' V' E'/\x'.rows[r]?=some (List.replicate y.length 0)) ?_ ?_
   ·simp only[sz,simprocAttr,sf,h10,h11,bo hB.ry,bu hB.ry,hB.own.rows,hB.hlt,hB.row,hW.own.rows,hrl,hrw,ly];refine oo (b:=3) (n:=y.length) (by unfold aP;omega) (by unfold aP;omega) (by first | (simp;done) | (simp;omega)) λW ga hWo na fra vW lga=>?_;simp only[sy] at na fra vW lga;have hHa:=(hS.hp.step (g':=G.mk g.h g.nx []) (Nat.le_refl _) (λ_ _ _=>rfl)).set (g':=ga) (k:=(J+1,2+r)) (v':=W) (e':=.sl 1 ((List.replicate y.length (0:Int)).map ci)) hkL (by rw[List.map_replicate];exact hWo) (by show g.nx<=ga.nx;omega) (λi _ hi _=>fra i (by have hi:i<g.nx:=hi;omega)) (.inr ⟨_,by rw[bH hWo];exact vW,by show g.nx<=_;omega⟩);have e11:ups V (J+1,2+r) W (J+1,1)=V (J+1,1):=ac _ _ (by simp<;>omega);have hE1:ups E (J+1,2+r) (.sl 1 ((List.replicate y.length (0:Int)).map ci)) (J+1,1)=.sl 1 rws:=by rw[ac _ _ (by simp<;>omega)];exact hW.e1
    have rwa:ah ga.h 1 (V (J+1,1))=some rws:=by rw[<-e11];exact (hHa.own (LS.s hS.hx (by omega)) hE1).rows
    simp only[sz,simprocAttr,sf,rwa,hrl];refine (hHa.same (g':=_) (by simp) (by simp<;>omega)).putv (k:=(J+1,1)) (i:=r) (off:=0) (n:=1) (LS.s hS.hx (by omega)) e11 (row':=[W]) hE1 hrw (by rw[hWo.cell.1];rfl) hWo.cell.2 (by rw[hWo.cell.1];rfl) λgb hHb nb frb fob=>?_;simp only[sy] at nb frb fob ⊢;refine ⟨?_,L.set J (x.wr r (List.replicate y.length 0)),x.wr r (List.replicate y.length 0),_,_,⟨?_,(hHb.same (g':=_) (by simp) (by simp<;>omega)).sub λk hk=>LS.upd hS.hx (by simp[Node.wr]) hk,?_,?_,?_,BLs.upd hB.oth.v.e.e ?_ ?_ ?_,by rw[List.getElem?_set_self (List.getElem?_eq_some_iff.1 hS.hx).1],.inr ⟨r,rfl,by simpa [Node.wr] using hr⟩,hK,by simpa using hl⟩,by simp[Node.wr,hr]⟩
    ·simp only[List.reverse_cons,List.reverse_nil,List.nil_append,List.cons_append];refine aO [false,false,false,false,false,false,false,false,false,false,false,false,false,true,false,true] [(0,13),(1,13),(2,13),(3,13),(4,13)] (by simp[All2,ap,aF]) (by decide) ?_;have ro1:=hB.own.refs_lt;rintro p hp x y hx hy;simp only[List.mem_cons,List.not_mem_nil,or_false] at hp;rcases hp with rfl | rfl | rfl | rfl | rfl<;>(simp at hx hy;subst hx;subst hy;refine dI rfl rfl rfl rfl ?_ ?_ ?_<;>simp[ap,aF,je hB.ry,lga]<;>first | omega | (intro h;have:=ro1 _ h;omega) | (intro i' hi' e;have:=ro1 i' hi';omega) | (intro i' hi';have:=ro1 i' hi';omega) | skip)
    ·simp[St,sx,h2,h3,h4,h10,h11,ac]
    ·simp only[bumpG_h];rw[frb 0 (by omega)];(try simp);rw[fra 0 (by omega),hS.f0]
    ·simp only[bumpG_h];rw[frb 1 (by omega),ac _ _ (by simp<;>omega)];(try simp);rw[fra 1 (by omega),hS.f1]
    ·simp only[bumpG_h];rw[frb 2 (by omega)];(try simp);rw[fra 2 (by omega),hS.f2]
    ·rw[ac _ _ (by simp<;>omega),ac _ _ (by simp<;>omega),hB.e0]
    ·rw[jz,ac _ _ (by simp<;>omega),ac _ _ (by simp<;>omega)];exact hB.row
    ·exact BO (r:=r) (y':=List.replicate y.length 0) hB.nd hW.at_ hW.len hr (by rw[ac _ _ (by simp<;>omega),ac _ _ (by simp<;>omega)]) (by rw[an,an]) (by rw[ac _ _ (by simp<;>omega),an]) (λq hq=>ac _ _ (by simp<;>omega)) (λq hq=>by rw[ac _ _ (by simp<;>omega),ac _ _ (by simp<;>omega)]) (by simpa using hyl)
   clear h2 h3 h4 h10 h11 hB hW hkL hyo hS hrw hrl hryw;rintro t df g2 ⟨rfl,L',x',V',E',hS,hy'⟩;rw[hA];obtain ⟨h2,h3,h4,h10,h11,-⟩:=hS.st;obtain ⟨rows,hB⟩:=hS.bt;obtain ⟨rws,hR⟩:=hS.br hy';have u1:0<((List.replicate y.length (0:Int)).map ci).length:=by simpa using hpos
   have u2:((List.replicate y.length (0:Int)).map ci)[0]?=some (ci 0):=by simp[hpos]
   have u3:=hR.yr;have u4:=hR.rl;simp only[sz,simprocAttr,sf,h3,h10,h11,hS.f1,bo hB.ry,bu hB.ry,hB.own.rows,hB.hlt,hB.row,hR.wr,u4,hR.rw_,C4 u3 u1];refine (hS.hp.same (g':=_) (by simp) (by simp<;>omega)).put (k:=(J+1,2+r)) (i:=0) (off:=0) (n:=1) (row:=ci 0) (row':=ci gr) (LS.s hS.hx (by have:=(List.getElem?_eq_some_iff.1 hy').1;omega)) hR.ye u2 rfl rfl rfl λgb hHb nb frb fob=>?_;simp only[sy] at nb frb fob ⊢;refine ⟨?_,?_⟩
   ·simp only[List.reverse_cons,List.reverse_nil,List.nil_append,List.cons_append];exact aO [false,false,false,false,false,false,false,false,false,false,true] [] (by simp[All2,ap,aF]) (by decide) (by simp)
   rw[<-List.map_set] at hHb;have hS2:=hS.put (t':=t) hy' (hHb.same (g':=G.mk gb.h gb.nx []) rfl (Nat.le_refl _)) (λi hi=>by have:=frb i hi;simpa using this) (by simpa using hR.yl) (by simp[St,h2,h3,h4,h10,h11]);exact fin _ _ gr _ _ (by simp[sx,h3]) (by simp[sx,h4]) (by simpa using hS2.f1) (by simpa using hS2.f2) (hS2.sl.heap (by simp))
  ·simp only[sx];exact hS.fin0 fin (by simp[sx,h3]) (by simp[sx,h4])
theorem K0 {n:Nat}(hn:n<=1000000)(hy0:y.length=n)(hyr:x.rows[r]?=some y)(hS:BS K J L x bx gr (r:Int) t g V E)(h12:tat t 12=.int .i64 0)(h13:tat t 13=.int .i64 ((n:Int) - 1))
  (fin:∀t g L x E,BS K J L x bx gr (r:Int) t g V E->Q (.exit 5) t [] g):wpL (wp C0 d none dC) Q t [] g:=by
 obtain ⟨FR,hFR⟩:∃FR,FR=SC.feet [0,1,3,7,0,31,63,0,0,256,768,1792,0,7936,16128,0,65280,130816,262143,524287] [oM 279 10,o 280 (.nilc (.t 279)),oF 281 2 280,oL 282 281,oM 283 11,oX 284 282 283,oL 285 284,oM 286 12,oM 287 10,o 288 (.nilc (.t 287)),oF 289 2 288,oL 290 289,oM 291 11,oX 292 290 291,oL 293 292,oM 294 13,oX 295 293 294,oL 296 295,oX 297 285 286,oz (.store 1 (.t 297) (.t 296))]:=⟨_,rfl⟩;simp only[dC];rw[<-hFR];refine bp (n / 2) (by omega) (λj t df g=>df=[]/\∃L x y E,BS K J L x bx gr (r:Int) t g V E/\x.rows[r]?=some y/\y.length=n/\tat t 13=.int .i64 ((n:Int) - 1 - (j:Int)))
  ⟨rfl,L,x,y,E,hS,hyr,hy0,by simp[h13]⟩ h12 (by decide) ?_ ?_ ?_ ?_
 ·rintro j t df g v s (rfl | rfl | rfl) ⟨rfl,L,x,y,E,hS,h⟩<;>exact ⟨rfl,L,x,y,E,⟨by have:=hS.st;simpa [St,sx] using this,hS.hp,hS.f0,hS.f1,hS.f2,hS.bl,hS.hx,hS.hR,hS.hK,hS.hl⟩,by simpa [sx] using h⟩
 ·rintro j t df g hj ⟨rfl,L,x,y,E,hS,hyr,hyn,h13⟩ h12;simp only[sz,simprocAttr,h12,h13];refine ⟨by congr 1;exact decide_eq_decide.2 (by omega),⟨L,x,y,E,⟨by have:=hS.st;simpa [St,sx] using this,hS.hp,hS.f0,hS.f1,hS.f2,hS.bl,hS.hx,hS.hR,hS.hK,hS.hl⟩,hyr,hyn⟩⟩
 ·rintro j t df g hj ⟨rfl,L,x,y,E,hS,hyr,hyn,h13⟩ h12;have hk:((n:Int) - 1 - (j:Int))=((n - 1 - j:Nat):Int):=by omega
  rw[hk] at h13;obtain ⟨z,hz⟩:∃z,y[j]?=some z:=⟨_,List.getElem?_eq_getElem (by omega)⟩;obtain ⟨z',hz'⟩:∃z,y[n - 1 - j]?=some z:=⟨_,List.getElem?_eq_getElem (by omega)⟩;refine jN (P:=λt' df g'=>df=[]/\g'=g/\BS K J L x bx gr (r:Int) t' g V E/\St t' [(12,.int .i64 (j:Int)),(13,.int .i64 ((n - 1 - j:Nat):Int)),(14,.int .i64 z)]) ?_ ?_
  ·obtain ⟨h2,h3,h4,h10,h11,-⟩:=hS.st;obtain ⟨rows,hB⟩:=hS.bt;obtain ⟨rws,hR⟩:=hS.br hyr;have u1:j<(y.map ci).length:=by simp;omega
   have u2:(y.map ci)[j]?=some (ci z):=by rw[List.getElem?_map,hz];rfl
   have hryy:=rZ hR.yr u1;simp only[sz,simprocAttr,h10,h11,h12,bo hB.ry,bu hB.ry,hB.own.rows,hB.hlt,hB.row,hR.wr,hR.rl,hR.rw_,hR.yr,u1,u2,ci];exact ⟨⟨by simp[St,sx,h2,h3,h4,h10,h11],hS.hp,hS.f0,hS.f1,hS.f2,hS.bl,hS.hx,hS.hR,hS.hK,hS.hl⟩,by simp[St,sx,h12,h13]⟩
  clear hS h12 h13;rintro t df g1 ⟨rfl,rfl,hS,h12,h13,h14,-⟩;rw[hFR];refine jN (P:=λt' df g'=>df=[]/\∃L x E,BS K J L x bx gr (r:Int) t' g' V E/\x.rows[r]?=some (y.set j z')/\St t' [(12,.int .i64 (j:Int)),(13,.int .i64 ((n - 1 - j:Nat):Int)),(14,.int .i64 z)]) ?_ ?_
  ·obtain ⟨h2,h3,h4,h10,h11,-⟩:=hS.st;obtain ⟨rows,hB⟩:=hS.bt;obtain ⟨rws,hR⟩:=hS.br hyr;have u1:j<(y.map ci).length:=by simp;omega
   have u2:(y.map ci)[j]?=some (ci z):=by rw[List.getElem?_map,hz];rfl
   have u3:n - 1 - j<(y.map ci).length:=by simp;omega
   have u4:(y.map ci)[n - 1 - j]?=some (ci z'):=by rw[List.getElem?_map,hz'];rfl
   have hryy:=rZ hR.yr u1;have hrl:=hR.rl;simp only[sz,simprocAttr,sf,h10,h11,h12,h13,bo hB.ry,bu hB.ry,hB.own.rows,hB.hlt,hB.row,hR.wr,hrl,hR.rw_,hR.yr,u1,u3,u4,ci];refine (hS.hp.same (g':=_) (by simp) (by simp;omega)).put (k:=(J+1,2+r)) (i:=j) (off:=0) (n:=1) (row:=ci z) (row':=ci z') (LS.s hS.hx (by have:=(List.getElem?_eq_some_iff.1 hyr).1;omega)) hR.ye u2 rfl rfl rfl λgb hHb nb frb fob=>?_;simp only[sy] at nb frb fob ⊢;rw[<-List.map_set] at hHb;have hS2:=hS.put (t':=t) hyr (hHb.same (g':=G.mk gb.h gb.nx []) rfl (Nat.le_refl _)) (λi hi=>by have:=frb i hi;simpa using this) (by simpa using hR.yl) (by simp[St,h2,h3,h4,h10,h11]);refine ⟨?_,_,_,_,hS2.mv (by simp) (by simp) (by simp[St,sx,h2,h3,h4,h10,h11]),by simp[Node.wr,(List.getElem?_eq_some_iff.1 hyr).1],by simp[St,sx,h12,h13,h14]⟩;simp only[List.reverse_cons,List.reverse_nil,List.nil_append,List.cons_append];exact aO [false,false,false,false,false,false,false,false,false,false,false,false,false,false,false,false,false,false,false,true] [] (by simp[All2,ap,aF]) (by decide) (by simp)
  clear hS h12 h13 h14 hyr;rintro t df g2 ⟨rfl,L,x,E,hS,hyr,h12,h13,h14,-⟩;refine jN (P:=λt' df g'=>df=[]/\∃L x E,BS K J L x bx gr (r:Int) t' g' V E/\x.rows[r]?=some ((y.set j z').set (n - 1 - j) z)/\St t' [(12,.int .i64 (j:Int)),(13,.int .i64 ((n - 1 - j:Nat):Int))]) ?_ ?_
  ·obtain ⟨h2,h3,h4,h10,h11,-⟩:=hS.st;obtain ⟨rows,hB⟩:=hS.bt;obtain ⟨rws,hR⟩:=hS.br hyr;have u3:n - 1 - j<((y.set j z').map ci).length:=by simp;omega
   obtain ⟨w,hw⟩:∃w,(y.set j z')[n - 1 - j]?=some w:=⟨_,List.getElem?_eq_getElem (by simp;omega)⟩;have u4:((y.set j z').map ci)[n - 1 - j]?=some (ci w):=by rw[List.getElem?_map,hw];rfl
   have hryy:=rZ hR.yr u3;have hrl:=hR.rl;have hyr':=hR.yr;simp only[sz,simprocAttr,h10,h11,h13,h14,bo hB.ry,bu hB.ry,hB.own.rows,hB.hlt,hB.row,hR.wr,hrl,hR.rw_,hyr',u3];refine hS.hp.put (k:=(J+1,2+r)) (i:=n - 1 - j) (off:=0) (n:=1) (row:=ci w) (row':=ci z) (LS.s hS.hx (by have:=(List.getElem?_eq_some_iff.1 hyr).1;omega)) hR.ye u4 rfl rfl rfl λgb hHb nb frb fob=>?_;simp only[sx,sy];rw[<-List.map_set] at hHb;have hS2:=hS.put (t':=t) hyr hHb frb (by simpa using hR.yl) (by simp[St,h2,h3,h4,h10,h11]);exact ⟨_,_,_,⟨by simp[St,sx,h2,h3,h4,h10,h11],hS2.hp,hS2.f0,hS2.f1,hS2.f2,hS2.bl,hS2.hx,hS2.hR,hS2.hK,hS2.hl⟩,by simp[Node.wr,(List.getElem?_eq_some_iff.1 hyr).1],by simp[St,sx,h12,h13]⟩
  clear hS h12 h13 h14 hyr;rintro t df g3 ⟨rfl,L,x,E,hS,hyr,h12,h13,-⟩;simp only[sz,simprocAttr,h12,h13];refine ⟨L,x,(y.set j z').set (n - 1 - j) z,E,hS.mv rfl (Nat.le_refl _) (by have:=hS.st;simpa [St,sx] using this),hyr,by simp[hyn],?_⟩;rw[ay (by omega) (by omega)];congr 1;omega
 ·rintro t df g ⟨rfl,L,x,y,E,hS,-⟩;exact fin t g L x E hS
theorem bc9 (hS:BS K J L x bx gr Rw t g V E)(fin:tV λe t df g=>Q e t df g) :
  wp C0 d none (sQ [oM 253 11,o 254 (.bin .geq (.t 253) (qI 0))] (.cond (.t 254) (.seq (.quiet [oM 255 10,o 256 (.nilc (.t 255)),oF 257 2 256,oL 258 257,oM 259 11,oX 260 258 259,oL 261 260,oN 262 261,o 263 (.bin .sub (.t 262) (qI 1)),oK 12 0,oM 13 263]) (.blk 5 (.loop dC))) (.skip))) Q t [] g:=by
 obtain ⟨h2,h3,h4,h10,h11,-⟩:=hS.st;obtain ⟨rows,hB⟩:=hS.bt;rcases hS.hR with ⟨rfl,h0⟩ | ⟨r,rfl,hr⟩
 ·simp only[sx,SO.run,↓reduceIte,h11];exact ⟨λh=>by simp at h,λ_=>hS.fin0 fin (by simp[sx,h3]) (by simp[sx,h4])⟩
 ·simp only[sx,SO.run,↓reduceIte,h11];refine ⟨λ_=>?_,λh=>by simp at h⟩;obtain ⟨y,hy⟩:∃y,x.rows[r]?=some y:=⟨_,List.getElem?_eq_getElem hr⟩;obtain ⟨rws,hR⟩:=hS.br hy;have ly:=cL hR.yr;rw[List.length_map] at ly;have hyl:=hR.yl;have hK:=hS.hK;have w9:IntKind.wrap .i64 ((y.length:Int) - 1)=(y.length:Int) - 1:=ay (by omega) (by omega);simp only[sx,sy,SO.run,↓reduceIte,Nat.reduceEqDiff,h10,h11,bo hB.ry,bu hB.ry,hB.own.rows,hB.hlt,hB.row,hR.wr,hR.rl,hR.rw_,ly,w9,Option.isSome_some,Option.getD_some];refine K0 (n:=y.length) (L:=L) (x:=x) (y:=y) (E:=E) (by omega) rfl hy ⟨by simp[St,sx,h2,h3,h4,h10,h11],hS.hp,hS.f0,hS.f1,hS.f2,hS.bl,hS.hx,hS.hR,hS.hK,hS.hl⟩ (by simp[sx]) (by simp[sx]) ?_;intro t g L x E hS;obtain ⟨h2,h3,h4,h10,h11,-⟩:=hS.st;simp only[sx,↓reduceIte];exact hS.fin0 fin h3 h4
end
end
end Hx
end
section
namespace Hx
open Go
noncomputable section
def KV:VS:=λP k h v=>∃m:Net,True/\Agg m P k h v
theorem Mc:Snb KV 1:=jV λm=>ch _
theorem bk5 {d:Nat}{t:T}{g:G}{gr:Int}{nv:AV}{nds:List Node}(h3:tat t 3=.hptr 1 0 0 0)(h4:tat t 4=.hptr 2 0 0 0)(e1:g.h.get 1=.cells 2 [[.int .i64 gr,nv]] 0 false false)(e2:g.h.get 2=.cells 2 [[.int .i64 0,.nils]] 0 false false)
  (hn:SlR P3 0 g.h nds nv):wp C0 d none dD (fnQ C0 d [SR.cell true 2 4] λv g'=>∃P,KV P 0 g'.h v) t [] g:=by
 simp only[sz,simprocAttr,dD,h3,h4,e1,e2];refine ⟨P3,⟨gr,nds⟩,trivial,_,rfl,?_⟩;exact Rp.mono (P:=P3) (h:=g.h) (cg.2 ⟨nv,rfl,hn⟩) (λi hi=>⟨hi,by rw[aq _ _ _ (by have:3<=i:=hi;omega)]⟩) (Nat.le_refl _)
theorem bk6 {d K J:Nat}{L:List Node}{x:Node}{bx:jA}{gr Rw:Int}{t:T}{g:G}{V:Ky->AV}{E:Ky->En}{Q:QT}(hS:BS K J L x bx gr Rw t g V E)
  (last:tV (kB 4 (kS (wp C0 d none dD Q) Q))):wp C0 d none fE Q t [] g:=by
 have w8:bx.1.toNat<256:=bx.1.toNat_lt;obtain ⟨h2,h3,h4,h10,h11,-⟩:=hS.st;have mv:∀{t':T},St t' (LBS (V (0,0)) J Rw)->BS K J L x bx gr Rw t' g V E:=λh=>hS.mv rfl (Nat.le_refl _) h;simp only[sz,simprocAttr,fE,h2,hS.f0,u8v,gk .u8 (show (0:Int)<=(bx.1.toNat:Int) by omega) (show (0:Int)<12 by decide)];refine aZ (λhb=>?_) (λhb=>?_)
 ·exact bc0 (mv (by simp[St,sx,h2,h3,h4,h10,h11])) last
 simp only[sz,simprocAttr];refine aZ (λhb=>?_) (λhb=>?_)
 ·exact bc1 (mv (by simp[St,sx,h2,h3,h4,h10,h11])) last
 simp only[sz,simprocAttr];refine aZ (λhb=>?_) (λhb=>?_)
 ·exact bc2 (mv (by simp[St,sx,h2,h3,h4,h10,h11])) last
 simp only[sz,simprocAttr];refine aZ (λhb=>?_) (λhb=>?_)
 ·exact bc3 (mv (by simp[St,sx,h2,h3,h4,h10,h11])) last
 simp only[sz,simprocAttr];refine aZ (λhb=>?_) (λhb=>?_)
 ·exact bc4 (mv (by simp[St,sx,h2,h3,h4,h10,h11])) last
 simp only[sz,simprocAttr];refine aZ (λhb=>?_) (λhb=>?_)
 ·exact bc5 (mv (by simp[St,sx,h2,h3,h4,h10,h11])) last
 simp only[sz,simprocAttr];refine aZ (λhb=>?_) (λhb=>?_)
 ·exact bc6 (mv (by simp[St,sx,h2,h3,h4,h10,h11])) last
 simp only[sz,simprocAttr];refine aZ (λhb=>?_) (λhb=>?_)
 ·exact bc7 (mv (by simp[St,sx,h2,h3,h4,h10,h11])) last
 simp only[sz,simprocAttr];refine aZ (λhb=>?_) (λhb=>?_)
 ·exact bc8 (mv (by simp[St,sx,h2,h3,h4,h10,h11])) last
 simp only[sz,simprocAttr];refine aZ (λhb=>?_) (λhb=>?_)
 ·exact bc9 (mv (by simp[St,sx,h2,h3,h4,h10,h11])) last
 simp only[sz,simprocAttr];refine aZ (λhb=>?_) (λhb=>?_)
 ·exact OA (mv (by simp[St,sx,h2,h3,h4,h10,h11])) last
 exact OB (mv (by simp[St,sx,h2,h3,h4,h10,h11])) last
theorem bk7 {d K:Nat}{bx:jA}{gr:Int}{b:AV}{L:List Node}{t:T}{g:G}{V:Ky->AV}{E:Ky->En}(hK:K<=1000000)(hl:L.length<=K)
  (ht:St t [(2,.hptr 0 0 0 0),(3,.hptr 1 0 0 0),(4,.hptr 2 0 0 0)]) (h5:tat t 5=V (0,0)) (hH:Hp g 3 (LS L) V E) (hB:BBn g [u8v bx.1,u8v bx.2.1,u8v bx.2.2.1,.int .i64 bx.2.2.2] gr b) (hD:BLs K V E L) :
  wp C0 d none fF (fnQ C0 d [SR.cell true 2 4] λv g'=>∃P,KV P 0 g'.h v) t [] g:=by
 obtain ⟨h2,h3,h4,-⟩:=ht;obtain ⟨b0,b1,b2⟩:=hB;obtain ⟨rows,e1,e2,e3⟩:=hD.ns;have o1:=hH.own LS.z e1;have len1:=cL o1.rows;rw[e2] at len1;have hnx:=hH.nx;unfold fF;refine iO (P:=λt df g'=>df=[]/\Hp g' 3 (LS L) V E/\St t [(2,.hptr 0 0 0 0),(3,.hptr 1 0 0 0),(4,.hptr 2 0 0 0),(5,V (0,0))]/\g'.h.get 0=.cells 4 [[u8v bx.1,u8v bx.2.1,u8v bx.2.2.1,.int .i64 bx.2.2.2]] 0 false false/\g'.h.get 1=.cells 2 [[.int .i64 gr,V (0,0)]] 0 false false/\g'.h.get 2=.cells 2 [[.int .i64 0,.nils]] 0 false false) ?_ ?_
 ·simp only[sz,simprocAttr,h3,h5,b1,o1.cell.1,o1.cell.2];exact ⟨hH.step (by simp) λi hi _=>by simp[H.get_put];omega,by simp[St,sx,h2,h3,h4,h5],by simp[b0],by simp[b2]⟩
 clear b0 b1 b2 h2 h3 h4 h5 hH o1 hnx;rintro t df g1 hg;obtain ⟨rfl,hH,⟨h2,h3,h4,h5,-⟩,f0,f1,f2⟩:=hg;have o1:=hH.own LS.z e1;have hsl:=hD.sl hH (by omega) (by omega);simp only[sz,simprocAttr,h5,len1];refine aZ (λhb=>?_) (λhb=>?_)
 ·simp only[sz,simprocAttr,h3,h4,f1,f2];refine ⟨P3,⟨gr,L⟩,trivial,_,rfl,?_⟩;exact Rp.mono (P:=P3) (h:=g1.h) (cg.2 ⟨_,rfl,hsl⟩) (λi hi=>⟨hi,by rw[aq _ _ _ (by have:3<=i:=hi;omega)]⟩) (Nat.le_refl _)
 have hn0:0<L.length:=by have:=of_decide_eq_false hb;omega
 have at8:bx.2.1.toNat<256:=bx.2.1.toNat_lt;have em:((bx.2.1.toNat:Int) % (L.length:Int))=((bx.2.1.toNat % L.length:Nat):Int):=by omega
 have hJ:bx.2.1.toNat % L.length<L.length:=Nat.mod_lt _ hn0;obtain ⟨J,hJe⟩:∃J,J=bx.2.1.toNat % L.length:=⟨_,rfl⟩;rw[<-hJe] at em hJ;obtain ⟨x,hx⟩:∃x,L[J]?=some x:=⟨_,List.getElem?_eq_getElem hJ⟩;have hJr:J<rows.length:=by omega
 have hrow:rows[J]?=some [.int .i64 x.card,V (J+1,0),V (J+1,1)]:=e3 J x hx;have hry:jS (V (0,0))=true:=eo o1 (by omega);obtain ⟨rws,q1,q2,q3⟩:=(hD.nd J x hx).rs;have hlen:=(hD.nd J x hx).len;have o2:=hH.own (LS.s hx (by omega)) q1;have len2:=cL o2.rows;rw[q2] at len2;rw[xI,rP];refine iO (P:=λt df g'=>df=[]/\g'=g1/\St t [(2,.hptr 0 0 0 0),(3,.hptr 1 0 0 0),(4,.hptr 2 0 0 0),(10,iH 3 (V (0,0)) J 0)]) ?_ ?_
 ·simp only[sz,simprocAttr,h2,h3,h4,h5,f0,len1,u8v,ay (show -9223372036854775808<=(bx.2.1.toNat:Int) by omega) (show (bx.2.1.toNat:Int)<9223372036854775808 by omega),gk .i64 (show (0:Int)<=(bx.2.1.toNat:Int) by omega) (show 0<(L.length:Int) by omega),em,o1.rows,hJr,St]
 clear h2 h3 h4 h5;rintro t df g' ⟨rfl,rfl,h2,h3,h4,h10,-⟩;have r8:bx.2.2.1.toNat<256:=bx.2.2.1.toNat_lt;refine iO (P:=λt df g''=>df=[]/\g''=g'/\St t (LBS (V (0,0)) J (-1))) ?_ ?_
 ·simp only[sz,simprocAttr,h2,h3,h4,h10,St]
 clear h2 h3 h4 h10;rintro t df g'' ⟨rfl,rfl,h2,h3,h4,h10,h11,-⟩;refine jN (P:=λt df g3=>df=[]/\g3=g''/\∃Rw:Int,((Rw = -1/\x.rows.length=0)\/∃r:Nat,Rw=(r:Int)/\r<x.rows.length)/\St t (LBS (V (0,0)) J Rw)) ?_ ?_
 ·simp only[sz,simprocAttr,h10,bo hry,bu hry,o1.rows,hJr,hrow,len2];refine aZ (λhb=>?_) (λhb=>?_)
  ·have hpos:0<x.rows.length:=by simpa using hb
   have em2:((bx.2.2.1.toNat:Int) % (x.rows.length:Int))=((bx.2.2.1.toNat % x.rows.length:Nat):Int):=by omega
   have hm:=Nat.mod_lt bx.2.2.1.toNat hpos;simp only[sz,simprocAttr,h2,h10,f0,u8v,ay (show -9223372036854775808<=(bx.2.2.1.toNat:Int) by omega) (show (bx.2.2.1.toNat:Int)<9223372036854775808 by omega),bo hry,bu hry,o1.rows,hJr,hrow,len2,gk .i64 (show (0:Int)<=(bx.2.2.1.toNat:Int) by omega) (show 0<(x.rows.length:Int) by omega),em2];exact ⟨_,.inr ⟨_,rfl,hm⟩,by simp[St,sx,h2,h3,h4,h10]⟩
  ·have h0:x.rows.length=0:=by have:=of_decide_eq_false hb;omega
   simp only[sx,sy];exact ⟨-1,.inl ⟨rfl,h0⟩,by simp[St,sx,h2,h3,h4,h10,h11]⟩
 clear h2 h3 h4 h10 h11;rintro t df g3 ⟨rfl,rfl,Rw,hR,ht⟩;refine bk6 (K:=K) (L:=L) (x:=x) (bx:=bx) (gr:=gr) ⟨ht,hH,f0,f1,f2,hD,hx,hR,hK,hl⟩ ?_;intro t g gr nv nds h3 h4 e1 e2 s1;rw[BF,rP];exact bk5 h3 h4 e1 e2 s1
theorem K1 {d K:Nat}{g:G}{x:jA}{m:Net}{v w:AV}(hd:0<d)(hx:Agg x NoP 0 g.h v)(hm:Agg m NoP 0 g.h w)(hK:K<=1000000)(hl:m.nodes.length<=K)
  (hb:∀y∈m.nodes,y.parents.length<=K/\y.rows.length<=K/\∀r∈y.rows,r.length<=K):∃r,am C0 d N.O8 [v,w] g=.val r/\KV NoP 0 .nil r:=by
 have e0:=iS d hx;have e1:=iS d hm;obtain ⟨cs,rfl,hc⟩:=hx;have hc:=ze.1 hc;subst hc;obtain ⟨cs,rfl,hc⟩:=hm;obtain ⟨b,rfl,hN⟩:=cg.1 hc;rw[sZ];refine aX vK (xs:=[.agg [u8v x.1,u8v x.2.1,u8v x.2.2.1,.int .i64 x.2.2.2],.agg [.int .i64 m.grain,b]]) (by simp only[aE,e0,e1]) (by simp[jt]) Mc (by decide) hd ?_;clear e0 e1 hc;have hN:=hN.tree (h':=.nil) (Nat.le_refl _);simp only[sz,simprocAttr,jt];obtain ⟨g0,hg0⟩:∃g0,g0=((G.empty.new (.cells 4 [[u8v x.1,u8v x.2.1,u8v x.2.2.1,.int .i64 x.2.2.2]] 0 false false)).new (.cells 2 [[.int .i64 m.grain,b]] 0 false false)).new (.cells 2 [[.int .i64 0,.nils]] 0 false false):=⟨_,rfl⟩;rw[<-hg0];have f0:BBn g0 [u8v x.1,u8v x.2.1,u8v x.2.2.1,.int .i64 x.2.2.2] m.grain b:=by rw[hg0];exact ⟨by simp[sx,H.get_put],by simp[sx,H.get_put],by simp[sx]⟩
 have f3:g0.nx=3:=by rw[hg0];simp[sx]
 clear hg0;have hH:Hp g0 3 (LS []) (λ_=>.nils) (λk=>.sl 3 []):=⟨λk _=>.inl ⟨rfl,rfl⟩,λk l _ _ _ id h=>(by cases h),by omega⟩;simp only[sz,simprocAttr,ma];refine N1 (V:=λ_=>.nils) hK hN hl hb (by simp[St,sx]) (by simp[sx]) (by simp[sx]) hH f0 ⟨⟨[],rfl,rfl,λi y hy=>by simp at hy⟩,λi y hy=>by simp at hy⟩ ?_;clear hH;intro t g V E ht h5 hH hB hD;simp only[sx,↓reduceIte];exact bk7 hK hl ht h5 hH hB hD
theorem iK {α:Type} [Rp α]{x:α}{P:Nat->Prop}{cs:List AV}(h:Rp.rp NoP 0 .nil x cs)(h':H):Agg x P 0 h' (.agg cs):=⟨_,rfl,Rp.tree h (Nat.le_refl _)⟩
def K3:Nat->Prop:=λk=>k<=2
def LT1 (w z:AV)(p:Nat):List (Nat×AV):=[(1,w),(2,z),(6,.hptr 1 0 0 0),(8,.hptr 3 0 0 0),(11,.hptr 4 0 0 0),(14,.hptr p 0 0 0)]
structure TbH (l cl:List Int) (p:Nat) (V:Nat->AV) (E:Nat->En) (g:G):Prop where
 hp:Hp g 5 K3 V E
 v0:V 0=.hptr p 0 0 0
 e0:E 0=.bx [V 1,V 2,.nils]
 e1:E 1=.sl 1 (l.map ci)
 e2:E 2=.sl 1 (cl.map ci)
structure TbB (g0:G) (cs vars:List Int) (w z:AV) (p j:Nat) (t:T) (g:G):Prop where
 st:St t (LT1 w z p)
 h15:tat t 15=.int .i64 (S.OH (S.OJ cs (vars.take j)))
 h57:tat t 57=z
 hd:∃V E,TbH (vars.take j) (S.OJ cs (vars.take j)) p V E g
 fr:∀i,i<5->g.h.get i=g0.h.get i
def K4:Nat->Prop:=λk=>k<=3
structure TbW (g0:G) (l cl W:List Int) (p r m:Nat) (V:Nat->AV) (E:Nat->En) (g:G):Prop where
 hp:Hp g 5 K4 V E
 v0:V 0=.hptr p 0 0 0
 e0:E 0=.bx [V 1,V 2,V 3]
 e1:E 1=.sl 1 (l.map ci)
 e2:E 2=.sl 1 (cl.map ci)
 e3:E 3=.sl 1 (W.map ci)
 nw:∀i,eid (V 3)=some i->g0.nx<=i
 fr:∀i,i<g0.nx->i≠p->g.h.get i=g0.h.get i
def S.pk (n:Net)(e vars:List Int)(i:Int)(w:Nat):Bool:=S.pe n e w&&decide (S.OK (S.OJ (S.OG n) vars) (S.OJ (S.ON (S.OG n) (w:Int)) vars)=i)
structure TbJ (g0:G) (n:Net) (e vars:List Int) (m j:Nat) (h:H):Prop where
 fr:∀i,i<g0.nx->i≠m->h.get i=g0.h.get i
 hm:∃L:List (Int×Int),h.get m=.map (mcl ik L)/\∀k,mgt L k=S.OQ n (S.pk n e vars k) j
set_option maxRecDepth 20000 in
structure RtH (l W:List Int) (C:AV) (V:Nat->AV) (E:Nat->En) (g:G):Prop where
 hp:Hp g 2 K4 V E
 v0:V 0=.hptr 2 0 0 0
 e0:E 0=.bx [V 1,C,V 3]
 e1:E 1=.sl 1 (l.map ci)
 e3:E 3=.sl 1 (W.map ci)
theorem Hc {d k:Nat}{P:Nat->Prop}{g:G}{l:List Int}{v:AV}{K:AV->G->Prop}{D:ADf->Prop}(hv:SlR P k g.h l v)(hP:∀i,P i->i<g.nx)(hl2:l.length<=1000)(kk:∀u g',Own g' g.nx u 1 (l.map ci)->Fr g g'->(∀i∈g'.lg,i∈g.lg\/g.nx<=i)->K u g') :
  (am C0 d N.PD [v] g).sat K g D:=by
 rw[np];refine Bm pS (by simp[cQ]) ?_
 by_cases hn:v=.nils
 ·subst hn;have hl:l=[]:=by have h:=hv.2;unfold SlV at h;exact h
  have hne:CO false .slice .nils .nils=.val (.bool true):=rfl;simp only[sz,simprocAttr,cQ,hne];exact kk _ _ (.inl ⟨rfl,by rw[hl];rfl⟩) (Fr.refl g) λi hi=>.inl hi
 ·have hne:CO false .slice v .nils=.val (.bool false):=by
   have h:=hv.2;unfold SlV at h
   split at h
   ·exact absurd rfl hn
   ·rfl
   ·rfl
   ·rfl
   ·exact h.elim
  simp only[sz,simprocAttr,cQ,hne];refine aU (b:=g.nx) (v:=.hsl g.nx 0 0 0 none) (rows:=[]) (new:=l.map ci) (.inr ⟨g.nx,0,false,Nat.le_refl _,by simp,rfl,by simp[H.get_put]⟩) ?_ (by simp) (by simp[aP];omega) λu g1 hu n1 f1 _ l1=>?_
  ·refine SlR.ints (P:=P) (k:=k) (hv.far8 λi hi=>?_);have:=hP i hi;simp[H.get_put,show ¬i=g.nx by omega]
  ·simp only[sz,simprocAttr];refine kk u g1 (by simpa using hu) ⟨by simp at n1;omega,λi hi=>by rw[f1 i (by simp;omega) (by simp[vid];omega)];simp[H.get_put,show ¬i=g.nx by omega]⟩ λi hi=>?_;rcases l1 i hi with h | h
   ·simp at h;rcases h with rfl | h
    ·exact .inr (Nat.le_refl _)
    ·exact .inl h
   ·exact .inr h
end
end Hx
end
