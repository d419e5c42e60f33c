/- A part of the proof: an interpreter over abstract values, shown right against the model, and what the functions of the chapter compute on it. -/
import Derived.Test.YteaikmdilmfbeaaGreatHx13
set_option linter.unusedVariables false
set_option linter.unusedSimpArgs false
set_option linter.unnecessarySimpa false
section
namespace Hx
open Go
noncomputable section
abbrev Sch:=Net×List Int×List Int×List Int×Int
theorem G_ {P:Nat->Prop}{k:Nat}{h:H}{n:Net}{v o w:List Int}{m:Int}{cs:List AV}:Rp.rp P k h ((n,v,o,w,m):Sch) cs↔∃a b c d,cs=[.int .i64 n.grain,a,b,c,d,.int .i64 m]/\SlR P k h n.nodes a/\SlR P k h v b/\SlR P k h o c/\SlR P k h w d:=by
 constructor
 ·rintro ⟨c1,c2,rfl,h1,c3,c4,rfl,h2,c5,c6,rfl,h3,c7,c8,rfl,h4,h5⟩;obtain ⟨a,rfl,ha⟩:=gf.1 h1;obtain ⟨b,rfl,hb⟩:=dL.1 h2;obtain ⟨c,rfl,hc⟩:=dL.1 h3;obtain ⟨d,rfl,hd⟩:=dL.1 h4;rw[aF.1 h5];exact ⟨a,b,c,d,rfl,ha,hb,hc,hd⟩
 ·rintro ⟨a,b,c,d,rfl,ha,hb,hc,hd⟩;exact ⟨[.int .i64 n.grain,a],[b,c,d,.int .i64 m],rfl,gf.2 ⟨a,rfl,ha⟩,[b],[c,d,.int .i64 m],rfl,dL.2 ⟨b,rfl,hb⟩,[c],[d,.int .i64 m],rfl,dL.2 ⟨c,rfl,hc⟩,[d],[.int .i64 m],rfl,dL.2 ⟨d,rfl,hd⟩,aF.2 rfl⟩
def S.br (vars:List Int)(j:Nat):List Int:=((List.range j).map λv:Nat=>(v:Int)).filter λv=>!decide (v∈vars)
def S.ax (n:Net)(vars:List Int):List Int:=S.br vars n.nodes.length
theorem xX (vars:List Int)(j:Nat):S.br vars (j+1)=S.br vars j++if (j:Int)∈vars then [] else [(j:Int)]:=by
 unfold S.br;rw[List.range_succ,List.map_append,List.filter_append];congr 1
 by_cases h:(j:Int)∈vars<;>simp[h]
theorem vY (vars:List Int)(j:Nat):(S.br vars j).length<=j:=by unfold S.br;exact Nat.le_trans (List.length_filter_le _ _) (by simp)
def S.bp (n:Net)(e:List Int)(j w:Nat):Int:=if w<j/\S.pe n e w=false then 0 else S.wt n w
def S.aI (n:Net)(e:List Int)(j:Nat):List Int:=(List.range (S.ah n)).map (S.bp n e j)
def S.a8 (n:Net)(e:List Int):List Int:=S.aI n e (S.ah n)
theorem GD (n:Net)(e:List Int):S.aI n e 0=S.aC n (S.ah n):=by unfold S.aI S.aC;exact List.map_congr_left λw _=>by simp[S.bp]
theorem nO (n:Net)(e:List Int)(j:Nat):(S.aI n e j).length=S.ah n:=by simp[S.aI]
theorem Iq (n:Net)(e:List Int)(j:Nat)(h:j<S.ah n):(S.aI n e j)[j]?=some (S.wt n j):=by simp[S.aI,S.bp,h]
theorem Ar {n:Net}{e:List Int}{j:Nat}(h:j<S.ah n):S.aI n e (j+1)=if S.pe n e j then S.aI n e j else (S.aI n e j).set j 0:=by
 apply List.ext_getElem?;intro i
 by_cases hi:i<S.ah n
 ·by_cases c:S.pe n e j=true
  ·rw[if_pos c];simp only[S.aI,List.getElem?_map,List.getElem?_range hi,Option.map_some,S.bp];congr 1
   by_cases e1:i=j
   ·subst e1;simp[c]
   ·have:(i<j+1)↔(i<j):=by omega
    simp[this]
  ·rw[if_neg c,List.getElem?_set]
   by_cases e1:j=i
   ·subst e1;rw[if_pos rfl,if_pos (by rw[nO];exact hi)];simp[S.aI,S.bp,hi,c]
   ·rw[if_neg e1];simp only[S.aI,List.getElem?_map,List.getElem?_range hi,Option.map_some,S.bp];congr 1;have:(i<j+1)↔(i<j):=by omega
    simp[this]
 ·have a:∀k,(S.aI n e k)[i]?=none:=λk=>List.getElem?_eq_none (by rw[nO];omega);rw[a]
  split
  ·rw[a]
  ·rw[List.getElem?_eq_none];rw[List.length_set,nO];omega
def S.bW (n:Net)(e vars:List Int):Sch:=(n,vars,S.ax n vars,S.a8 n e,S.bC n e)
def S.aR (n:Net)(e vars:List Int):Int:=if S.aB n e=0 then (if S.au vars (n.nodes.length:Int) then 0 else 2) else S.aB n e
def Kn:VS:=λ_ _ _ v=>v=.nilp
theorem Hq:Snb Kn 0:=⟨λ{P k h v n} d r hn=>⟨.nilp,by
  subst r;obtain ⟨n,rfl⟩:∃q,n=q+1:=⟨n - 1,by omega⟩
  rfl,rfl⟩,λ{k h v n} r hn=>⟨0,by
  subst r;obtain ⟨n,rfl⟩:∃q,n=q+1:=⟨n - 1,by omega⟩
  rfl,Nat.zero_le _⟩⟩
theorem IW {α:Type} [Rp α](x:α)(sz:Nat)(hd:Rp.dp α<=20:=by decide):Snb (ym x sz) 1 :=
 ⟨λ{P k h v n} d r hn=>by
  obtain ⟨n,rfl⟩:∃q,n=q+1:=⟨n - 1,by omega⟩;exact sn d r (by omega) hd,λ{k h v n} r hn=>by
  obtain ⟨n,rfl⟩:∃q,n=q+1:=⟨n - 1,by omega⟩;exact uj r⟩
def NsV (n:Net)(e vars:List Int):VS:=if S.aR n e vars=0 then wL (ym (S.bW n e vars) 6) (One (0:Int)) else wL Kn (One (S.aR n e vars))
theorem Kc (n:Net)(e vars:List Int):Snb (NsV n e vars) 2:=by
 unfold NsV
 split
 ·exact iG (IW _ _) (be _) (by decide) (by decide)
 ·exact iG Hq (be _) (by decide) (by decide)
theorem r_ (id ep i off:Nat):C8 (.hptr id ep i off)=.val (.hptr id ep i off):=rfl
def LNs (gr:Int)(vw:AV):List (Nat×AV):=[(2,vw),(3,.hptr 0 0 0 0),(4,.hptr 1 0 0 0),(9,.hptr 3 0 0 0)]
structure NsH (gr:Int) (b ev vw u wv:AV) (m:Int) (g:G):Prop where
 h0:g.h.get 0=.cells 2 [[.int .i64 gr,b]] 0 false false
 h1:g.h.get 1=.cells 1 [[ev]] 0 false false
 h2:g.h.get 2=.cells 6 [[.int .i64 gr,b,vw,u,wv,.int .i64 m]] 0 false false
 h3:g.h.get 3=.cells 1 [[.hptr 2 0 0 0]] 0 false false
 nx:4<=g.nx
theorem KE {d k:Nat}{gr:Int}{b ev vw:AV}{vars:List Int}{m:Nat}{Q:QT}{t:T}{g:G}(hd:0<d)(hm:m<=8)(hv:∀h,SlR NoP k h vars vw)
  (hh:NsH gr b ev vw .nils .nils 0 g) (ht:St t (LNs gr vw)) (h49:tat t 49=.int .i64 0) (h48:tat t 48=.int .i64 (m:Int))
  (fin:∀t g u,St t (LNs gr vw)->NsH gr b ev vw u .nils 0 g->Own g 4 u 1 ((S.br vars m).map ci)->Q (.exit 2) t [] g):wpL (wp C0 d none dB) Q t [] g:=by
 simp only[dB];refine aI (m:=m) (by omega) (λj t df g=>df=[]/\St t (LNs gr vw)/\∃u,NsH gr b ev vw u .nils 0 g/\Own g 4 u 1 ((S.br vars j).map ci)) ⟨rfl,ht,.nils,hh,.inl ⟨rfl,rfl⟩⟩ h49 h48 (by decide)
  (by rintro j t df g v s (rfl | rfl | rfl) ⟨a1,⟨b1,b2,b3,b4,-⟩,c1⟩<;>exact ⟨a1,by simp[St,LNs,sx,b1,b2,b3,b4],c1⟩) ?_ ?_
 ·rintro j t df g hj ⟨rfl,⟨h2,h3,h4,h9,-⟩,u,⟨g0,g1,g2,g3,g4⟩,ho⟩ h49 h48;have kc:=λg:G=>zl (d:=d) (g:=g) (x:=(j:Int)) hd (hv g.h);have hl:=vY vars j
  by_cases c:(j:Int)∈vars
  ·simp only[sz,simprocAttr,h2,h49,kc,c];refine ⟨⟨by simp[St,LNs,sx,h2,h3,h4,h9],u,⟨g0,g1,g2,g3,g4⟩,?_⟩,h48⟩;rw[xX,if_pos c,List.append_nil];exact ho
  ·simp only[sz,simprocAttr,h2,h49,kc,c,sf,h9,g3,g2,r_];refine tj (ho.fr (g':=_) (by simp<;>omega) (λi hi=>?_)) (new:=[[.int .i64 (j:Int)]]) ?_ (by simp<;>omega) (by simp[aQ]<;>omega) λv5 g5 o5 n5 f5 w5 l5=>?_
   ·have:=ho.lt hi;simp[H.get_put];omega
   ·simp[ae,H.get_put];rfl
   have lu:=λi (h:vid u=some i)=>ho.lt h;simp only[sx,sy] at n5 f5 l5;have n5':g.nx<g5.nx:=by omega
   have f6:∀i,i<4->g5.h.get i=g.h.get i:=λi hi=>by rw[f5 i (by omega) λh=>by have:=lu i h;omega];simp;omega
   obtain ⟨vc,vt⟩:=o5.cell;simp only[sz,simprocAttr,sf,f6 3 (by omega),g3,f6 2 (by omega),g2,r_,vc,vt];refine ⟨?_,?_⟩
   ·simp only[List.reverse_cons,List.reverse_nil,List.nil_append,List.cons_append];refine aZ [false,false,false,false,false,false,true,true,false,false,true] [(0,6),(1,6),(2,6),(3,6),(4,6),(0,7)] (by simp[All2,an,aD]) (by decide) ?_;rintro p hp x y hx hy;simp only[List.mem_cons,List.not_mem_nil,or_false] at hp;rcases hp with rfl | rfl | rfl | rfl | rfl | rfl<;>(simp at hx hy;subst hx;subst hy;refine gP rfl rfl rfl rfl ?_ ?_ ?_<;>simp[an,aD,tC]<;>first | omega | (intro i' hi';rcases l5 i' hi' with h | h | h<;>first | omega | (have:=lu i' h;omega) | simp at h) | skip)
   refine ⟨⟨by simp[St,LNs,sx,h2,h3,h4,h9],v5,⟨by simp[sy,f6 0 (by omega),g0],by simp[sy,f6 1 (by omega),g1],by simp[sy],by simp[sy,f6 3 (by omega),g3],by simp[sy]<;>omega⟩,?_⟩,by simp[sx,h49],by simp[sx,h48]⟩;rw[xX,if_neg c,List.map_append];exact o5.fr (by simp[sy]<;>omega) λi hi=>by have:=o5.lt hi;simp[sy];omega
 ·rintro t df g ⟨rfl,ht,u,hh,ho⟩;exact fin t g u ht hh ho
theorem KD {d k:Nat}{gr:Int}{b ev vw:AV}{n:Net}{vars:List Int}{Q:QT}{t:T}{g:G}(hr:NR n)(hv:∀h,SlR NoP k h vars vw)(hN:∀h,SlR NoP 0 h n.nodes b)(h0:g.h.get 0=.cells 2 [[.int .i64 gr,b]] 0 false false)
  (ht:St t ((28,vw)::LNs gr vw)) (h10:tat t 10=.int .i64 (-1)) (h30:tat t 30=.int .i64 0) (h29:tat t 29=.int .i64 (vars.length:Int))
  (bad:∀t,S.au vars (n.nodes.length:Int)=false->tat t 6=.nilp->tat t 7=.int .i64 2->Q .ret t [] g)
  (fin:∀t,S.au vars (n.nodes.length:Int)=true->St t (LNs gr vw)->Q (.exit 0) t [] g):wpL (wp C0 d none ck) Q t [] g:=by
 have rv:=λh=>(hv h).ints;have lN:∀g:G,dz .slice b g=.val (.int .i64 (n.nodes.length:Int)):=λg=>(hN .nil).len g;have hl8:=hr.l2;simp only[ck];refine aI (m:=vars.length) (hv .nil).1 (λj t df g'=>df=[]/\g'=g/\St t ((28,vw)::LNs gr vw)/\tat t 10=.int .i64 (if j=0 then -1 else vars[j - 1]?.getD 0)/\(List.range j).all (S.aZ vars (n.nodes.length:Int))=true) ⟨rfl,rfl,ht,by simpa using h10,by simp⟩ h30 h29 (by decide)
  (by rintro j t df g v s (rfl | rfl | rfl) ⟨a1,a2,⟨b0,b1,b2,b3,b4,-⟩,c1,c2⟩<;>exact ⟨a1,a2,by simp[St,LNs,sx,b0,b1,b2,b3,b4],by simp[sx,c1],c2⟩) ?_ ?_
 ·rintro j t df g' hj ⟨rfl,rfl,⟨h28,h2,h3,h4,h9,-⟩,h10,hall⟩ h30 h29;obtain ⟨x,hx,-,hm⟩:=ac hj;have z1:j<(vars.map ci).length:=by simpa using hj
  have z2:(vars.map ci)[j]?=some (ci x):=by rw[List.getElem?_map,hx];rfl
  have hgx:vars[j]?.getD 0=x:=by rw[hx];rfl
  obtain ⟨bf,hbf⟩:∃bf,bf=(if j=0 then (-1:Int) else vars[j - 1]?.getD 0):=⟨_,rfl⟩;rw[<-hbf] at h10;have hbf1:-1<=bf:=by
   rw[hbf];split
   ·omega
   ·have:=List.all_eq_true.1 hall (j - 1) (List.mem_range.2 (by omega));simp only[S.aZ,Bool.and_eq_true,decide_eq_true_eq] at this;omega
  have key:S.aZ vars (n.nodes.length:Int) j=true↔bf<x/\x<(n.nodes.length:Int):=by
   simp only[S.aZ,Bool.and_eq_true,decide_eq_true_eq,hgx,Bool.or_eq_true,beq_iff_eq];rw[hbf]
   by_cases c:j=0
   ·simp only[c,if_true,true_or,and_true];omega
   ·rw[if_neg c] at hbf ⊢;rw[<-hbf];constructor
    ·rintro ⟨⟨a1,a2⟩,a3 | a3⟩
     ·exact absurd a3 c
     ·exact ⟨a3,a2⟩
    ·rintro ⟨a1,a2⟩;have:=List.all_eq_true.1 hall (j - 1) (List.mem_range.2 (by omega));simp only[S.aZ,Bool.and_eq_true,decide_eq_true_eq,<-hbf] at this;exact ⟨⟨by omega,a2⟩,.inr a1⟩
  have fl:¬(bf<x/\x<(n.nodes.length:Int))->S.au vars (n.nodes.length:Int)=false:=λhn=>by rw[Bool.eq_false_iff];intro h;exact hn (key.1 (List.all_eq_true.1 h j (List.mem_range.2 hj)))
  by_cases c1:x<=bf
  ·simp only[sz,simprocAttr,h28,h30,rv,z1,z2,ci,h10,c1];exact bad _ (fl (by omega)) (by simp[sx]) (by simp[sx])
  by_cases c2:(n.nodes.length:Int)<=x
  ·simp only[sz,simprocAttr,h28,h30,rv,z1,z2,ci,h10,c1,h3,h0,lN,c2];exact bad _ (fl (by omega)) (by simp[sx]) (by simp[sx])
  ·simp only[sz,simprocAttr,h28,h30,rv,z1,z2,ci,h10,c1,h3,h0,lN,c2];refine ⟨⟨by simp[St,LNs,sx,h28,h2,h3,h4,h9],?_,?_⟩,h29⟩
   ·simp[hx]
   ·rw[cw,hall,key.2 ⟨by omega,by omega⟩];rfl
 ·rintro t df g' ⟨rfl,rfl,⟨-,ht⟩,-,hall⟩;exact fin t hall ht
theorem KF {d j ke:Nat}{gr m:Int}{b ev vw u wv uu:AV}{e vals:List Int}{mw:List Int}{P:Nat->Prop}{rd:Option Nat}{Q:QT}{t:T}{g:G}(hl:e.length=vals.length)(he:∀h,SlR NoP ke h e ev)(hu:SlR P 0 g.h vals uu)
  (hh:NsH gr b ev vw u wv m g) (ho:Own g 4 wv 1 (mw.map ci)) (hj:j<mw.length)
  (ht:St t ((14,.int .i64 (j:Int))::(15,uu)::(78,ev)::LNs gr vw)) (h80:tat t 80=.int .i64 0) (h79:tat t 79=.int .i64 (e.length:Int))
  (fin:∀t,S.bo vals e=true->St t ((14,.int .i64 (j:Int))::LNs gr vw)->Q (.exit 6) t [] g)
  (bad:∀t g',S.bo vals e=false->St t (LNs gr vw)->Own g' 4 wv 1 ((mw.set j 0).map ci)->g'.nx=g.nx->(∀i,vid wv≠some i->g'.h.get i=g.h.get i)->Q (.exit 5) t [] g'):wpL (wp C0 d rd dC) Q t [] g:=by
 have re:=λh=>(he h).ints;have ru:=hu.ints;obtain ⟨g0,g1,g2,g3,g4⟩:=hh;simp only[dC];refine aI (m:=e.length) (he .nil).1 (λi t df g'=>df=[]/\g'=g/\St t ((14,.int .i64 (j:Int))::(15,uu)::(78,ev)::LNs gr vw)/\(List.range i).all (S.bA vals e)=true) ⟨rfl,rfl,ht,by simp⟩ h80 h79 (by decide)
  (by rintro j t df g v s (rfl | rfl | rfl) ⟨a1,a2,⟨c1,c2,c3,b1,b2,b3,b4,-⟩,c⟩<;>exact ⟨a1,a2,by simp[St,LNs,sx,c1,c2,c3,b1,b2,b3,b4],c⟩) ?_ ?_
 ·rintro i t df g' hi ⟨rfl,rfl,⟨h14,h15,h78,h2,h3,h4,h9,-⟩,hall⟩ h80 h79;obtain ⟨x,hx,-,hm⟩:=ac hi;obtain ⟨y,hy,-,-⟩:=ac (l:=vals) (j:=i) (by omega);have z1:i<(e.map ci).length:=by simpa using hi
  have z2:(e.map ci)[i]?=some (ci x):=by rw[List.getElem?_map,hx];rfl
  have y1:i<(vals.map ci).length:=by rw[List.length_map];omega
  have y2:(vals.map ci)[i]?=some (ci y):=by rw[List.getElem?_map,hy];rfl
  have key:S.bA vals e i=true↔x<0\/x=y:=by simp only[S.bA,hx,hy,Option.getD_some,Bool.or_eq_true,decide_eq_true_eq]
  by_cases c1:(0:Int)<=x
  ·by_cases c2:x=y
   ·simp only[sz,simprocAttr,h78,h80,re,z1,z2,ci,c1,h15,ru,y1,y2,c2];have c1':(0:Int)<=y:=by omega
    simp only[sz,simprocAttr,c1',h15,ru,y1,y2,ci];refine ⟨⟨by simp[St,LNs,sx,h14,h15,h78,h2,h3,h4,h9],?_⟩,by simp[sx,h80],by simp[sx,h79]⟩;rw[cw,hall,key.2 (.inr c2)];rfl
   ·have q1:j<(mw.map ci).length:=by rw[List.length_map];exact hj
    obtain ⟨z,hz,-,-⟩:=ac hj;have q2:(mw.map ci)[j]?=some (ci z):=by rw[List.getElem?_map,hz];rfl
    simp only[sz,simprocAttr,h78,h80,re,z1,z2,ci,c1,h15,ru,y1,y2,c2,h9,g3,g2,r_,h14,ho.rows,q1];refine nU (v:=wv) (sz:=1) (n:=1) (i:=j) (off:=0) (x:=.int .i64 0) (row:=ci z) (row':=ci 0) ho q2 rfl rfl rfl λg5 o5 n5 f5 u5=>?_;rw[<-List.map_set] at o5;simp only[sz,simprocAttr];refine bad _ g5 ?_ (by simp[St,LNs,sx,h2,h3,h4,h9]) o5 n5 f5;rw[Bool.eq_false_iff];intro h;rcases key.1 (List.all_eq_true.1 h i (List.mem_range.2 hi)) with h | h
    ·omega
    ·exact c2 h
  ·simp only[sz,simprocAttr,h78,h80,re,z1,z2,ci,c1];refine ⟨⟨by simp[St,LNs,sx,h14,h15,h78,h2,h3,h4,h9],?_⟩,h79⟩;rw[cw,hall,key.2 (.inl (by omega))];rfl
 ·rintro t df g' ⟨rfl,rfl,⟨h14,-,-,ht⟩,hall⟩;exact fin t hall ⟨h14,ht⟩
theorem Hi {C:Cfg}{d:Nat}{rd:Option Nat}{a b:SC}{Q:QT}{t:T}{df:List ADf}{g:G}{P:PT}(h1:wp C d rd a (λe t df g=>e=.norm/\P t df g) t df g)(h2:∀t df g,P t df g->wp C d rd b Q t df g):wp C d rd (.seq a b) Q t df g:=by rw[co];refine bL _ h1 ?_;rintro e t df g ⟨rfl,h⟩;exact h2 t df g h
theorem Ba {x y:Foot}(hx:x.wr=[])(hb:x.lk.big=false)(hs:x.lk.sr=[])(h3:∀i∈y.wr,∀j∈x.lk.rd,i≠j):bW x y=true:=by
 have m3:=kW h3;have m5:∀l:List Nat,meets l []=false:=λl=>by simp[meets]
 simp only[bW,jp,gM,hx,hb,hs,m3,m5,fst1,List.map_nil,Bool.not_false,Bool.and_self,Bool.true_or]
 split<;>rfl
structure NsJ (gr:Int) (b ev vw u wv:AV) (n:Net) (e:List Int) (g0:G) (W j:Nat) (g:G):Prop where
 h2:g.h.get 2=.cells 6 [[.int .i64 gr,b,vw,u,wv,.int .i64 (S.an n (S.pe n e) j)]] 0 false false
 hw:∃lo,g.h.get W=.cells 1 ((S.aI n e j).map ci) 0 lo false
 fr:∀i,i<g0.nx->i≠2->i≠W->g.h.get i=g0.h.get i
theorem KG {d ke:Nat}{b ev vw u:AV}{n:Net}{e:List Int}{Q:QT}{t:T}{g:G}(hd:0<d)(hr:NR n)(hN:∀h,SlR NoP 0 h n.nodes b)(hel:e.length=n.nodes.length)(he:∀h,SlR NoP ke h e ev)
  (hh:NsH n.grain b ev vw u .nils 0 g) (ht:St t (LNs n.grain vw))
  (fin:∀t g' W df,tat t 6=.hptr 2 0 0 0->tat t 7=.int .i64 0->g.nx<=W->W<g'.nx->(∃lo,g'.h.get W=.cells 1 ((S.a8 n e).map ci) 0 lo false)->g'.h.get 2=.cells 6 [[.int .i64 n.grain,b,vw,u,.hsl W 0 0 (S.ah n) none,.int .i64 (S.bC n e)]] 0 false false ->
   (∀i,i<g.nx->i≠2->g'.h.get i=g.h.get i)->g.nx<=df->df<g'.nx->df≠W->g'.h.get df=.dfr true->Q .ret t [.mark df] g'):wp C0 d none dD Q t [] g:=by
 obtain ⟨h2,h3,h4,h9,-⟩:=ht;obtain ⟨g0,e1,g2,g3',g4⟩:=hh;have hl8:=hr.l2;obtain ⟨W1,W2,W3⟩:=hr.wl;have hcs:CsOk (S.ac n):=⟨hr.cs,by rw[aw];omega⟩;have hnc:S.nc (S.ac n)=S.ah n:=rfl;have hA:∀h,Agg n NoP 0 h (.agg [.int .i64 n.grain,b]):=λh=>⟨_,rfl,gf.2 ⟨b,rfl,hN h⟩⟩;have le:∀g:G,dz .slice ev g=.val (.int .i64 (e.length:Int)):=λg=>(he .nil).len g;unfold dD;refine Hi (P:=λt' df g'=>df=[]/\∃W,g.nx<=W/\W<g'.nx/\NsJ n.grain b ev vw u (.hsl W 0 0 (S.ah n) none) n e g W 0 g'/\g.nx<=g'.nx/\St t' (LNs n.grain vw)) ?_ ?_
 ·simp only[sz,simprocAttr,sf,h9,g3',h3,g0];refine Ck hd hr (hA _) λg5 q5 n5 f5 u5=>?_;have f6:∀i,i<g.nx->g5.h.get i=g.h.get i:=λi hi=>by rw[f5.2 i (by simp;omega)];simp
  have u6:∀i∈g5.lg,g.nx<=i:=λi hi=>by
   rcases u5.2 i hi with h | h
   ·simp at h
   ·simp at h;omega
  simp only[sy] at q5 n5;simp only[sz,simprocAttr,sf,f6 2 (by omega),g2,r_];refine ⟨?_,?_⟩
  ·simp only[List.reverse_cons,List.reverse_nil,List.nil_append,List.cons_append];refine aZ [false,false,true,false,false,true] [(0,2)] (by simp[All2,an,aD,cE,q7]) (by decide) ?_;rintro p hp x y hx hy;simp only[List.mem_cons,List.not_mem_nil,or_false] at hp;subst hp;simp at hx hy;subst hx;subst hy;refine Ba rfl rfl rfl λi hi j hj=>?_;have hi:i∈g5.lg:=by simpa using hi
   have hj:j=3:=by simpa [an,tC] using hj
   have:=u6 i hi;omega
  refine ⟨g.nx+3,by omega,by omega,⟨?_,?_,λi h1 h2 h3=>?_⟩,by omega,by simp[St,LNs,sx,h2,h3,h4,h9]⟩
  ·simp[sy,S.an]
  ·exact ⟨false,by rw[GD];simp[sy,q5]⟩
  ·simp[sy,h2,f6 i h1]
 ·rintro t df g1 ⟨rfl,W,w1,w2,hJ,n1,h2,h3,h4,h9,-⟩;have z0:g1.h.get 0=.cells 2 [[.int .i64 n.grain,b]] 0 false false:=by rw[hJ.fr 0 (by omega) (by omega) (by omega),g0]
  rw[co,zn,yS];rw[co];simp only[sz,simprocAttr,h3,z0];refine gi (te (n:=n) (by omega) (hN _) (by omega)) λrc hrc=>?_;simp only[sz,simprocAttr];obtain ⟨z,kz,hz⟩:=yD (d:=d) (g:=g1) (w:=rc) (cs:=S.ac n) hd (hrc.sl g1.h);simp only[sz,simprocAttr,kz];refine wj (cs:=S.ac n) (w:=z) hcs hz (by simp[sx]) (by decide) (by decide) (NsJ n.grain b ev vw u (.hsl W 0 0 (S.ah n) none) n e g W) (λ_=>False) ?_ (λ_ _ _ h=>h) hJ ?_ ?_ (λ_ h=>h.elim)
  ·rintro j g3 g4 hU ⟨a1,a2,a3⟩;exact ⟨by rw[hU.1 _ (by omega),a1],by rw[hU.1 _ (by omega)];exact a2,λi q1 q2 q3=>by rw[hU.1 i (by omega),a3 i q1 q2 q3]⟩
  ·rintro j uu g3 hj hJ3 hn3 hu;rw[hnc] at hj;simp only[sz,simprocAttr,h_];refine ⟨Fr.refl _,λg5 n5 f5 u5=>?_⟩;have hJ5:NsJ n.grain b ev vw u (.hsl W 0 0 (S.ah n) none) n e g W j g5:=by obtain ⟨a1,a2,a3⟩:=hJ3;exact ⟨by rw[u5.1 _ (by omega),a1],by rw[u5.1 _ (by omega)];exact a2,λi q1 q2 q3=>by rw[u5.1 i (by omega),a3 i q1 q2 q3]⟩
   have hu5:SlR (λi=>g1.nx+2<=i/\i<g3.nx) 0 g5.h (S.ak (S.ac n) (j:Int)) uu:=hu.far8 λi hi=>f5 i (by omega);have z1:g5.h.get 1=.cells 1 [[ev]] 0 false false:=by rw[hJ5.fr 1 (by omega) (by omega) (by omega),e1]
   simp only[sz,simprocAttr,ia,h4,z1,le];have hvl:=nZ (S.ac n) (j:Int);rw[aw] at hvl;have hlW:((S.aI n e j).map ci).length=S.ah n:=by rw[List.length_map,nO]
   have hin:=bZ (λc hc=>(hr.cs c hc).1) (j:Int);have wb:=mg hr hin;have hO:Own g5 4 (.hsl W 0 0 (S.ah n) none) 1 ((S.aI n e j).map ci):=by obtain ⟨lo,h⟩:=hJ5.hw;exact .inr ⟨W,0,lo,by omega,by omega,by rw[hlW],h⟩
   have sb:=zh hr (p:=S.pe n e) (j:=j) (by omega);have sb2:=zh hr (p:=S.pe n e) (j:=j+1) (by omega);refine KF (e:=e) (vals:=S.ak (S.ac n) (j:Int)) (j:=j) (mw:=S.aI n e j) (gr:=n.grain) (b:=b) (ev:=ev) (vw:=vw) (u:=u) (wv:=.hsl W 0 0 (S.ah n) none) (uu:=uu) (by omega) he hu5
    ⟨by rw[hJ5.fr 0 (by omega) (by omega) (by omega),g0],z1,hJ5.h2,by rw[hJ5.fr 3 (by omega) (by omega) (by omega),g3'],by omega⟩ hO (by rw[nO];exact hj) (by simp[St,LNs,sx,h2,h3,h4,h9]) (by simp[sx]) (by simp[sx]) ?_ ?_
   ·rintro t6 hmt ⟨h14,h2',h3',h4',h9',-⟩;have hpe:S.pe n e j=true:=hmt;have m1:j<((S.aI n e j).map ci).length:=by omega
    have m2:((S.aI n e j).map ci)[j]?=some (ci (S.wt n j)):=by rw[List.getElem?_map,Iq n e j hj];rfl
    have hO:Own g5 4 (.hsl W 0 0 (S.ah n) none) 1 ((S.aI n e j).map ci):=hO;have z3:g5.h.get 3=.cells 1 [[.hptr 2 0 0 0]] 0 false false:=by rw[hJ5.fr 3 (by omega) (by omega) (by omega),g3']
    have ss:S.an n (S.pe n e) (j+1)=S.an n (S.pe n e) j+S.wt n j:=by rw[S.an,if_pos hpe];rfl
    have w1:IntKind.wrap .i64 (S.an n (S.pe n e) j+S.wt n j)=S.an n (S.pe n e) (j+1):=by rw[<-ss,aB (by omega) (by omega)]
    simp only[sz,simprocAttr,sf,ib,h9',z3,hJ5.h2,r_,h14,hO.rows,m1,m2,ci,w1];refine ⟨?_,?_⟩
    ·simp only[List.reverse_cons,List.reverse_nil,List.nil_append,List.cons_append];exact aZ [false,false,false,false,false,false,false,false,false,false,false,false,false,false,true] [] (by simp[All2,an,aD]) (by decide) (by simp)
    refine ⟨by simp[sy]<;>omega,λi q1 q2=>?_,.inl ⟨rfl,?_,?_,λi q1 q2 q3=>?_⟩⟩
    ·simp[sy,show ¬i=2 by omega]
    ·simp[sy]
    ·obtain ⟨lo,h⟩:=hJ5.hw;exact ⟨lo,by rw[Ar hj,if_pos hpe];simp[sy,show ¬W=2 by omega,h]⟩
    ·simp[sy,q2,hJ5.fr i q1 q2 q3]
   ·rintro t6 g6 hmt ⟨h2',h3',h4',h9',-⟩ o6 n6 f6;have hpe:S.pe n e j=false:=hmt;simp only[sz,simprocAttr];have hne:∀i,i≠W->g6.h.get i=g5.h.get i:=λi hi=>f6 i (by simpa [vid] using λh:W=i=>hi h.symm);have hss:S.an n (S.pe n e) (j+1)=S.an n (S.pe n e) j:=by rw[S.an,hpe];simp
    refine ⟨by omega,λi q1 q2=>hne i (by omega),.inl ⟨rfl,?_,?_,λi q1 q2 q3=>?_⟩⟩
    ·rw[hne 2 (by omega),hJ5.h2,hss]
    ·rw[Ar hj,hpe];rcases o6 with ⟨h,-⟩ | ⟨id,ep,lo,-,-,h,hg⟩
     ·cases h
     ·injection h with h1 h2 h3 h4 h5;subst h1;subst h2;exact ⟨lo,by simpa using hg⟩
    ·rw[hne i q3,hJ5.fr i q1 q2 q3]
  ·rintro g' hJ' hn hdf;rw[hnc] at hJ';have z3:g'.h.get 3=.cells 1 [[.hptr 2 0 0 0]] 0 false false:=by rw[hJ'.fr 3 (by omega) (by omega) (by omega),g3']
   simp only[sz,simprocAttr,ic,h9,z3];exact fin _ g' W g1.nx (by simp[sx]) (by simp[sx]) w1 (by omega) hJ'.hw hJ'.h2 (λi q1 q2=>by
    by_cases q3:i=W
    ·omega
    ·rw[hJ'.fr i q1 q2 q3]) n1 (by omega) (by omega) hdf
theorem yY {d kv k1:Nat}{P1:Nat->Prop}{g:G}{n:Net}{e vars:List Int}{v w u:AV}(hd:kv<d)(hm:Agg n NoP 0 g.h v)(he:SlR P1 k1 g.h e w)(hv:SlR NoP kv g.h vars u) :
  ∃r,ax C0 d N.aK [v,w,u] g=.val r/\NsV n e vars NoP kv .nil r:=by
 obtain ⟨b,rows,rfl,e1,hm',hN,r1,r2,r3,r4⟩:=kY d hm;obtain ⟨w',e2,hw'⟩:=ch he d;have e3:=qp d hv;have hv':∀h,SlR NoP kv h vars u:=λh=>hv.tree (Nat.le_refl _);have hN':∀h,SlR NoP 0 h n.nodes b:=λh=>hN.tree (Nat.le_refl 0);have lu:∀g:G,dz .slice u g=.val (.int .i64 (vars.length:Int)):=λg=>(hv' .nil).len g;have lN:∀g:G,dz .slice b g=.val (.int .i64 (n.nodes.length:Int)):=λg=>(hN' .nil).len g;have kc:=λg=>zG (d:=d+1) (g:=g) (Nat.succ_pos d) (hm' g.h) (hw' g.h);rw[np];refine br o_ (xs:=[.agg [.int .i64 n.grain,b],w',u]) (by simp only[aE,e1,e2,e3]) (by simp[cW]) (Kc n e vars) (by decide) hd ?_
 by_cases c:S.aB n e=0
 ·obtain ⟨hn,hev⟩:=js.1 c;have hr:=dI.1 hn;have hel:=(pg hev).1;have hl8:=hr.l2;have hst:∀(g:G) (i m:Nat),mZ (.cells 1 [[.nilp]] 0 false false) g i 0 0 1 0 (.hptr m 0 0 0)=.upd .undef (g.put i (.cells 1 [[.hptr m 0 0 0]] 0 false false)):=λg i m=>rfl;obtain ⟨FB,hFB⟩:∃F,F=ck:=⟨_,rfl⟩;simp only[sz,simprocAttr,cW,dY,kc,c,lu,uD (hw' .nil),(hv' .nil).cell.1,(hv' .nil).cell.2,hst,<-hFB];subst hFB;refine KD (k:=kv) (gr:=n.grain) (ev:=w') (n:=n) (vars:=vars) hr hv' hN' (by simp[H.get_put,show G.empty.nx=0 from rfl]) (by simp[St,LNs,sx]) (by simp[sx]) (by simp[sx]) (by simp[sx]) ?_ ?_
  ·intro t hp h6 h7;have hs:S.aR n e vars=2:=by rw[S.aR,if_pos c,hp];rfl
   simp only[sz,simprocAttr,h6,h7];refine ⟨NoP,?_⟩;rw[NsV,hs];exact ⟨_,_,rfl,rfl,aF.2 rfl⟩
  ·rintro t hp ⟨h2,h3,h4,h9,-⟩;have hs:S.aR n e vars=0:=by rw[S.aR,if_pos c,hp];rfl
   have hH:NsH n.grain b w' u .nils .nils 0 (((((G.empty.new (.cells 2 [[.int .i64 n.grain,b]] 0 false false)).new (.cells 1 [[w']] 0 false false)).new (.cells 6 [[.int .i64 n.grain,b,u,.nils,.nils,.int .i64 0]] 0 false false)).new (.cells 1 [[.nilp]] 0 false false)).put 3 (.cells 1 [[.hptr 2 0 0 0]] 0 false false)):=by constructor<;>simp[H.get_put,show G.empty.nx=0 from rfl]
   generalize ((((G.empty.new (.cells 2 [[.int .i64 n.grain,b]] 0 false false)).new (.cells 1 [[w']] 0 false false)).new (.cells 6 [[.int .i64 n.grain,b,u,.nils,.nils,.int .i64 0]] 0 false false)).new (.cells 1 [[.nilp]] 0 false false)).put 3 (.cells 1 [[.hptr 2 0 0 0]] 0 false false)=g1 at hH ⊢;simp only[sz,simprocAttr,ie,h3,hH.h0,lN];refine KE (k:=kv) (m:=n.nodes.length) (Nat.succ_pos d) hl8 hv' hH (by simp[St,LNs,sx,h2,h3,h4,h9]) (by simp[sx]) (by simp[sx]) λt g2 uo ht hH2 hO=>?_;simp only[kB,sz,simprocAttr];refine KG (Nat.succ_pos d) hr hN' hel hw' hH2 ht λt g3 W df h6 h7 w1 w2 gW g2' hf d1 d2 d3 hdf=>?_;show uV C0 (d+1) [.tm 6,.tm 7] t [.mark df] g3 λv g'=>∃P,NsV n e vars P kv g'.h v;refine gq hdf ?_;simp only[sz,simprocAttr,h6,h7];have hne:=λi (h:vid uo=some i)=>hO.lt h;obtain ⟨lo,gW⟩:=gW;have q1:∀i,i≠df->(g3.h.put df (.dfr false)).get i=g3.h.get i:=λi hi=>by rw[aq _ _ _ hi]
   have q2:=(hO.fr (g':=g3.put df (.dfr false)) (by simp;omega) λi hi=>by
    have:=hne i hi;rw[G.put_h,q1 i (by omega),hf i (by omega) (by omega)])
   have hlo:(S.ax n vars).length<=_:=vY vars n.nodes.length;have hH4:=hH2.nx;have hlw:(S.a8 n e).length=S.ah n:=nO _ _ _;have hW2:=hr.wl.2.1;refine ⟨λ_=>True,?_⟩;rw[NsV,if_pos hs];refine ⟨_,_,rfl,.inl ⟨2,_,rfl,trivial,by rw[q1 2 (by omega),g2'],?_⟩,aF.2 rfl⟩;refine G_.2 ⟨b,u,uo,_,rfl,hN.wide (Nat.zero_le _),?_,q2.sl (α:=Int) (by omega) (All2.of_map (λa=>aF.2 rfl) _) λ_ _=>trivial,?_⟩
   ·exact hv.wide (Nat.le_refl _)
   ·have gW':(g3.put df (.dfr false)).h.get W=.cells 1 ((S.a8 n e).map ci) 0 lo false:=by rw[G.put_h,q1 W (by omega),gW]
    have o3:Own (g3.put df (.dfr false)) 0 (.hsl W 0 0 (S.ah n) none) 1 ((S.a8 n e).map ci):=.inr ⟨W,0,lo,Nat.zero_le _,by simp;omega,by rw[List.length_map,hlw],gW'⟩;exact o3.sl (α:=Int) (by omega) (All2.of_map (λa=>aF.2 rfl) _) λ_ _=>trivial
 ·simp only[sz,simprocAttr,cW,dY,kc,c,uD (hw' .nil)];refine ⟨NoP,?_⟩;have hs:S.aR n e vars=S.aB n e:=by rw[S.aR,if_neg c]
  rw[NsV,hs,if_neg c];exact ⟨_,_,rfl,rfl,aF.2 rfl⟩
def yp (n:Net)(vars oth mw:List Int)(m:Int)(k:Nat)(v:AV):Prop:=∃t b vw ow ww,v=.tptr t 6 [[.int .i64 n.grain,b,vw,ow,ww,.int .i64 m]] 0 0/\t<=k/\SlR NoP k .nil n.nodes b/\SlR NoP k .nil vars vw/\SlR NoP k .nil oth ow/\SlR NoP k .nil mw ww
theorem IK {n:Net}{vars oth mw:List Int}{m:Int}{k:Nat}{h:H}{v:AV}(r:ym ((n,vars,oth,mw,m):Sch) 6 NoP k h v):yp n vars oth mw m k v:=by
 rcases r with ⟨id,cs,rfl,hP,-⟩ | ⟨t,cs,rfl,ht,r⟩
 ·exact hP.elim
 ·obtain ⟨a,b,c,d,rfl,ha,hb,hc,hd⟩:=G_.1 r;exact ⟨t,a,b,c,d,rfl,ht,ha,hb,hc,hd⟩
theorem qr (h:H)(d t sz:Nat)(rows:List (List AV))(i off:Nat):Hx.snap h d aH (.tptr t sz rows i off)=some (.tptr t sz rows i off):=rfl
theorem fW (t sz:Nat)(rows:List (List AV))(i off:Nat):C8 (.tptr t sz rows i off)=.val (.tptr t sz rows i off):=rfl
def S.bj (n:Net)(vars l:List Int)(i:Nat):Bool:=decide (0<=l[i]?.getD 0)&&decide (l[i]?.getD 0<(S.aa (S.ac n) vars)[i]?.getD 0)
def S.aG (n:Net)(vars l:List Int):Bool:=decide (l.length<=vars.length)&&(List.range l.length).all (S.bj n vars l)
theorem uh {n:Net}{b:AV}{k:Nat}{p:Int}(hN:SlR NoP k .nil n.nodes b)(h0:0<=p)(h1:p<(n.nodes.length:Int)):∃(pn:Nat) (x:Node) (rows:List (List AV)) (pa ra:AV),p=(pn:Int)/\n.nodes[pn]?=some x/\(∀h,ae h 3 b=some rows)/\pn<rows.length/\rows[pn]?=some [.int .i64 x.card,pa,ra]/\t8 b=true/\x∈n.nodes/\(S.ac n)[pn]?=some x.card:=by
 obtain ⟨pn,rfl⟩:=Int.eq_ofNat_of_zero_le h0;obtain ⟨rows,r1,r2,r3,r4⟩:=hN.all;have hlt:pn<n.nodes.length:=by omega
 obtain ⟨x,hx,-,hm⟩:=ac hlt;obtain ⟨row,q1,q2⟩:=r3 pn x hx;obtain ⟨pa,ra,rfl,-,-⟩:=cH.1 q2;exact ⟨pn,x,rows,pa,ra,rfl,hx,r1,by omega,q1,r4 (by omega),hm,by simp[S.ac,hx]⟩
theorem Gk {d k k2:Nat}{g:G}{P:Nat->Prop}{n:Net}{vars oth mw l:List Int}{m:Int}{q w:AV}(hd:0<d)(hq:yp n vars oth mw m k q)(hp:S.au vars (n.nodes.length:Int)=true)(hw:SlR P k2 g.h l w) :
  ax C0 d N.aN [q,w] g=.val (.bool (S.aG n vars l)):=by
 obtain ⟨t,b,vw,ow,ww,rfl,ht,hb,hv,ho,hww⟩:=hq;obtain ⟨w',e2,hw'⟩:=ch hw d;have lw:∀g:G,dz .slice w' g=.val (.int .i64 (l.length:Int)):=λg=>(hw' .nil).len g;have lv:∀g:G,dz .slice vw g=.val (.int .i64 (vars.length:Int)):=λg=>hv.len g;have rw':=λh=>(hw' h).ints;have rv:=λh=>(hv.tree (h':=h) (Nat.le_refl _)).ints;have hl:=hw.1;rw[iI];refine jr jj (xs:=[.tptr t 6 [[.int .i64 n.grain,b,vw,ow,ww,.int .i64 m]] 0 0,w']) (by simp only[aE,e2,qr]) (by simp[bm]) hd ?_
 by_cases c:vars.length<l.length
 ·have c':(vars.length:Int)<(l.length:Int):=by omega
  have hf:S.aG n vars l=false:=by simp[S.aG];omega
  simp only[sz,simprocAttr,bm,lw,lv,c',hf,fW,cd,aX]
 ·have c':¬(vars.length:Int)<(l.length:Int):=by omega
  simp only[sz,simprocAttr,bm,cU,lw,lv,c',fW,cd,aX];refine aI (m:=l.length) hl (λj t' df g=>df=[]/\St t' [(0,.tptr t 6 [[.int .i64 n.grain,b,vw,ow,ww,.int .i64 m]] 0 0),(15,w')]/\(List.range j).all (S.bj n vars l)=true) ⟨rfl,by simp[St,sx],by simp⟩ (by simp[sx]) (by simp[sx]) (by decide)
   (by rintro j t df g v s (rfl | rfl | rfl) ⟨a1,⟨b1,b2,-⟩,c1⟩<;>exact ⟨a1,by simp[St,sx,b1,b2],c1⟩) ?_ ?_
  ·rintro j t' df g hj ⟨rfl,⟨h0,h15,-⟩,hall⟩ h17 h16;obtain ⟨x,hx,-,-⟩:=ac hj;obtain ⟨p,hpx,-,hpm⟩:=ac (l:=vars) (j:=j) (by omega);obtain ⟨p0,p1⟩:=bp hp p hpm;obtain ⟨pn,y,rows,pa,ra,rfl,hy,r1,r2,r3,r4,-,r5⟩:=uh hb p0 p1;have z1:j<(l.map ci).length:=by simpa using hj
   have z2:(l.map ci)[j]?=some (ci x):=by rw[List.getElem?_map,hx];rfl
   have y1:j<(vars.map ci).length:=by rw[List.length_map];omega
   have y2:(vars.map ci)[j]?=some (ci (pn:Int)):=by rw[List.getElem?_map,hpx];rfl
   have key:S.bj n vars l j=true↔0<=x/\x<y.card:=by simp[S.bj,hx,S.aa,hpx,r5]
   have fl:¬(0<=x/\x<y.card)->S.aG n vars l=false:=λh=>by rw[Bool.eq_false_iff];intro hh;rw[S.aG,Bool.and_eq_true] at hh;exact h (key.1 (List.all_eq_true.1 hh.2 j (List.mem_range.2 hj)))
   by_cases c1:x<0
   ·simp only[sz,simprocAttr,h15,h17,rw',z1,z2,ci,c1];simp[sx,fl (by omega)]
   by_cases c2:y.card<=x
   ·simp only[sz,simprocAttr,h15,h17,rw',z1,z2,ci,c1,h0,fW,cd,aX,rv,y1,y2,r1,r2,r3,r4,c2];simp[sx,fl (by omega)]
   ·simp only[sz,simprocAttr,h15,h17,rw',z1,z2,ci,c1,h0,fW,cd,aX,rv,y1,y2,r1,r2,r3,r4,c2];have hc':(List.range (j+1)).all (S.bj n vars l)=true:=by rw[cw,hall,key.2 ⟨by omega,by omega⟩];rfl
    simp[St,sx,h0,h15,h16,hc']
  ·rintro t' df g ⟨rfl,-,hall⟩;have:S.aG n vars l=true:=by rw[S.aG,hall];simp;omega
   simp only[sz,simprocAttr,cV,this]
theorem EQ {d k k2:Nat}{g:G}{P:Nat->Prop}{n:Net}{vars oth mw l:List Int}{m:Int}{q w:AV}(hd:0<d)(hq:yp n vars oth mw m k q)(hp:∀x∈l,0<=x/\x<(n.nodes.length:Int))(hw:SlR P k2 g.h l w)(hl:l.length<=8) :
  ∃r,ax C0 d N.aM [q,w] g=.val r/\IT 0 (S.aa (S.ac n) l) r:=by
 obtain ⟨t,b,vw,ow,ww,rfl,ht,hb,hv,ho,hww⟩:=hq;obtain ⟨w',e2,hw'⟩:=ch hw d;have lw:∀g:G,dz .slice w' g=.val (.int .i64 (l.length:Int)):=λg=>(hw' .nil).len g;have rw':=λh=>(hw' h).ints;have hlp:(S.aa (S.ac n) l).length=l.length:=by simp[S.aa]
 rw[lB];refine br mM (xs:=[.tptr t 6 [[.int .i64 n.grain,b,vw,ow,ww,.int .i64 m]] 0 0,w']) (by simp only[aE,e2,qr]) (by simp[dF]) (be _) (by decide) hd ?_;simp only[sz,simprocAttr,dF,lw];refine qh (b:=0) (n:=l.length) (by unfold aQ;omega) (by unfold aQ;omega) (Nat.zero_le _) λu g1 hu n1 f1 v1=>?_;simp only[sz,simprocAttr,lw,fq];refine aI (m:=l.length) (by omega) (λj t' df g=>df=[]/\St t' [(0,.tptr t 6 [[.int .i64 n.grain,b,vw,ow,ww,.int .i64 m]] 0 0),(11,w'),(5,u)]/\Own g 0 u 1 ((((S.aa (S.ac n) l).take j)++List.replicate (l.length - j) 0).map ci)) ⟨rfl,by simp[St,sx],?_⟩ (by simp[sx]) (by simp[sx]) (by decide)
  (by rintro j t df g v s (rfl | rfl | rfl)<;>simp[sx,St]) ?_ ?_
 ·simpa [ci] using hu
 ·rintro j t' df g hj ⟨rfl,⟨h0,h11,h5,-⟩,hO⟩ h13 h12;obtain ⟨p,hpx,-,hpm⟩:=ac hj;obtain ⟨p0,p1⟩:=hp p hpm;obtain ⟨pn,y,rows,pa,ra,rfl,hy,r1,r2,r3,r4,-,r5⟩:=uh hb p0 p1;have z1:j<(l.map ci).length:=by simpa using hj
  have z2:(l.map ci)[j]?=some (ci (pn:Int)):=by rw[List.getElem?_map,hpx];rfl
  have hcj:(S.aa (S.ac n) l)[j]?=some y.card:=by simp[S.aa,hpx,r5]
  have o1:j<((((S.aa (S.ac n) l).take j)++List.replicate (l.length - j) 0).map ci).length:=by simp;omega
  have o2:((((S.aa (S.ac n) l).take j)++List.replicate (l.length - j) 0).map ci)[j]?=some (ci 0):=by rw[List.getElem?_map,List.getElem?_append_right (by simp;omega),List.getElem?_replicate];simp;omega
  have e3:((((S.aa (S.ac n) l).take j)++List.replicate (l.length - j) 0).map ci).set j (ci y.card)=(((S.aa (S.ac n) l).take (j+1))++List.replicate (l.length - (j+1)) 0).map ci:=by
   rw[<-List.map_set,List.set_append_right _ _ (by simp;omega),List.length_take,Nat.min_eq_left (by omega),Nat.sub_self,List.take_succ_eq_append_getElem (by omega),show l.length - j=(l.length - (j+1))+1 by omega,List.replicate_succ,List.set_cons_zero,List.append_assoc];have:(S.aa (S.ac n) l)[j]=y.card:=by rw[List.getElem?_eq_getElem (by omega)] at hcj;injection hcj
   rw[this];rfl
  simp only[sz,simprocAttr,h11,h13,rw',z1,z2,ci,h0,fW,cd,aX,r1,r2,r3,r4,h5,hO.rows,o1];refine bB (v:=u) (sz:=1) (n:=1) (i:=j) (off:=0) (x:=.int .i64 y.card) (row:=ci 0) (row':=ci y.card) hO o2 rfl rfl rfl λg3 o3 n3 f3=>?_;rw[e3] at o3;simp only[sz,simprocAttr];simpa [St,sx,h0,h11,h5,h12,h13] using o3
 ·rintro t' df g ⟨rfl,⟨h0,h11,h5,-⟩,hO⟩;rw[List.take_of_length_le (by omega),Nat.sub_self] at hO;simp only[sz,simprocAttr,fu,h5];exact ⟨_,(by simpa using hO:Own g 0 u 1 ((S.aa (S.ac n) l).map ci)).ints (by omega)⟩
theorem JS {g:G}{n:Nat}{K:AV->G->Prop}{D:ADf->Prop}(hn:n<=65536)(k:∀g',g'.h.get g.nx=.cells 1 ((List.replicate n 0).map ci) 0 false false->g'.nx=g.nx+1->Up g.nx g g'->g'.lg=g.nx::g.lg->K (.hsl g.nx 0 0 n none) g') :
  (vK 1 8 [.int .i64 0] (.int .i64 (n:Int)) (.int .i64 (n:Int)) g).sat K g D:=by
 have h1:n<=aQ:=by unfold aQ;omega
 have h2:n*8<=aQ:=by unfold aQ;omega
 have key:vK 1 8 [.int .i64 0] (.int .i64 (n:Int)) (.int .i64 (n:Int)) g=.upd (.hsl g.nx 0 0 n none) (g.new (.cells 1 (eh n [.int .i64 0]) 0 false false)):=by
  show (match bJ aQ (.int .i64 (.ofNat n)) with
   | some cn=>match bJ cn (.int .i64 (.ofNat n)) with
    | some ln=>am (Nat.ble (cn*8) aQ) (OR.upd (.hsl g.nx 0 0 ln none) (g.new (.cells 1 (eh cn [.int .i64 0]) 0 false false))) .fail
    | none=>.fail
   | none=>.fail)=_
  have a1:bJ aQ (.int .i64 (.ofNat n))=some n:=by show am (Nat.ble n aQ) (some n) none=_;rw[aa,if_pos (by simpa using h1)]
  have a2:bJ n (.int .i64 (.ofNat n))=some n:=by show am (Nat.ble n n) (some n) none=_;rw[aa,if_pos (by simp)]
  rw[a1];dsimp only;rw[a2];dsimp only;rw[aa,if_pos (by simpa using h2)]
 rw[key];refine k _ ?_ (by simp) (Up.new (Nat.le_refl _) _) (by simp);simp[aS,eh,ci]
theorem GB {g:G}{n:Nat}{K:AV->G->Prop}{D:ADf->Prop}(hn:n<=65536)(k:∀g',g'.h.get g.nx=.cells 1 ((List.replicate n 0).map ci) 0 false false->g'.nx=g.nx+1->Up g.nx g g'->K (.hsl g.nx 0 0 n none) g') :
  (vK 1 8 [.int .i64 0] (.int .i64 (n:Int)) (.int .i64 (n:Int)) g).sat K g D:=JS hn λg' a b c _=>k g' a b c
def S.aT (n:Net)(oth:List Int)(w:Nat):Int:=S.af (S.aa (S.ac n) oth) (S.aa (S.ak (S.ac n) (w:Int)) oth)
def LW (B tg:Nat)(qv:AV):List (Nat×AV):=[(1,.tptr tg 1 [[qv]] 0 0),(2,.hptr B 0 0 0),(3,.hptr (B+2) 0 0 0)]
theorem KN {d B tg k:Nat}{n:Net}{vars oth mw vals l:List Int}{m:Int}{qv uu vv:AV}{P:Nat->Prop}{j:Int}{rd:Option Nat}{Q:QT}{t:T}{g:G}(hq:yp n vars oth mw m k qv)(hp:∀x∈vars,0<=x/\x<(vals.length:Int))(hvl:vars.length<=8)(hu:SlR P 0 g.h vals uu)(hP:∀i,P i->i<g.nx/\B+3<=i)(hB:B+2<g.nx)
  (gv:Own g B (.hsl (B+1) 0 0 vars.length none) 1 (l.map ci)) (g2:g.h.get (B+2)=.cells 1 [[.hsl (B+1) 0 0 vars.length none]] 0 false false) (hl:l.length=vars.length)
  (ht:St t ((5,uu)::(4,.int .i64 j)::(29,vv)::LW B tg qv)) (hvv:SlR NoP k .nil vars vv) (h31:tat t 31=.int .i64 0) (h30:tat t 30=.int .i64 (vars.length:Int))
  (fin:∀t g',St t ((5,uu)::(4,.int .i64 j)::LW B tg qv)->g.nx<=g'.nx->(∀i,i<g.nx->i≠B+1->g'.h.get i=g.h.get i)->Up B g g'->Own g' B (.hsl (B+1) 0 0 vars.length none) 1 ((S.aa vals vars).map ci)->Q (.exit 2) t [] g'):wpL (wp C0 d rd bT) Q t [] g:=by
 have rv:=λh=>(hvv.tree (h':=h) (Nat.le_refl _)).ints;have hlp:(S.aa vals vars).length=vars.length:=by simp[S.aa]
 simp only[bT];refine aI (m:=vars.length) (by omega) (λi t df g'=>df=[]/\St t ((5,uu)::(4,.int .i64 j)::(29,vv)::LW B tg qv)/\g.nx<=g'.nx/\(∀i,i<g.nx->i≠B+1->g'.h.get i=g.h.get i)/\Up B g g'/\Own g' B (.hsl (B+1) 0 0 vars.length none) 1 (((S.aa vals vars).take i++l.drop i).map ci)) ⟨rfl,ht,Nat.le_refl _,λ_ _ _=>rfl,Up.refl _ _,by simpa using gv⟩ h31 h30 (by decide)
  (by rintro i t df g v s (rfl | rfl | rfl) ⟨a1,⟨b1,b2,b3,b4,b5,b6,-⟩,c1⟩<;>exact ⟨a1,by simp[St,LW,sx,b1,b2,b3,b4,b5,b6],c1⟩) ?_ ?_
 ·rintro i t df g1 hi ⟨rfl,⟨h5,h4,h29,h1,h2,h3,-⟩,hn,hf,hU,hO⟩ h31 h30;obtain ⟨p,hpx,-,hpm⟩:=ac hi;obtain ⟨p0,p1⟩:=hp p hpm;obtain ⟨pn,rfl⟩:=Int.eq_ofNat_of_zero_le p0;obtain ⟨x,hx,-,-⟩:=ac (l:=vals) (j:=pn) (by omega);have z1:i<(vars.map ci).length:=by simpa using hi
  have z2:(vars.map ci)[i]?=some (ci (pn:Int)):=by rw[List.getElem?_map,hpx];rfl
  have y1:pn<(vals.map ci).length:=by rw[List.length_map];omega
  have y2:(vals.map ci)[pn]?=some (ci x):=by rw[List.getElem?_map,hx];rfl
  have hu1:SlR P 0 g1.h vals uu:=hu.far8 λi hi=>hf i (hP i hi).1 (by have:=hP i hi;omega);have ru:=hu1.ints;have gs:g1.h.get (B+2)=.cells 1 [[.hsl (B+1) 0 0 vars.length none]] 0 false false:=by rw[hf _ hB (by omega),g2]
  have hcj:(S.aa vals vars)[i]?=some x:=by simp[S.aa,hpx,hx]
  obtain ⟨y,hy,-,-⟩:=ac (l:=l) (j:=i) (by omega);have e3:(((S.aa vals vars).take i++l.drop i).map ci).set i (ci x)=((S.aa vals vars).take (i+1)++l.drop (i+1)).map ci:=by
   rw[<-List.map_set,List.set_append_right _ _ (by simp;omega),List.length_take,Nat.min_eq_left (by omega),Nat.sub_self,List.take_succ_eq_append_getElem (by omega),List.drop_eq_getElem_cons (by omega),List.set_cons_zero,List.append_assoc];have:(S.aa vals vars)[i]=x:=by rw[List.getElem?_eq_getElem (by omega)] at hcj;injection hcj
   rw[this];rfl
  have hll:(((S.aa vals vars).take i++l.drop i).map ci).length=vars.length:=by simp;omega
  have hi2:i<(((S.aa vals vars).take i++l.drop i).map ci).length:=by rw[hll];exact hi
  have hro:(((S.aa vals vars).take i++l.drop i).map ci)[i]?=some (ci y):=by rw[List.getElem?_map,List.getElem?_append_right (by simp;omega),List.getElem?_drop];simp only[List.length_take,Nat.min_eq_left (show i<=(S.aa vals vars).length by omega),Nat.sub_self,Nat.add_zero,hy,Option.map_some]
  simp only[sz,simprocAttr,sf,h29,h31,rv,z1,z2,ci,h3,gs,h5,ru,y1,y2,hO.rows,hi2];refine nU (g:=_) (b:=B) (v:=.hsl (B+1) 0 0 vars.length none) (sz:=1) (n:=1) (i:=i) (off:=0) (x:=.int .i64 x) (row:=ci y) (row':=ci x) (hO.fr (by simp<;>omega) (λi' hi'=>by simp)) hro rfl rfl rfl λg5 o5 n5 f5 u5=>?_;rw[e3] at o5;have f6:∀i',i'≠B+1->g5.h.get i'=g1.h.get i':=λi' hi'=>by rw[f5 i' (by simpa [vid] using λh:B+1=i'=>hi' h.symm)];simp
  simp only[sy] at n5;simp only[sz,simprocAttr,sf];refine ⟨?_,?_⟩
  ·simp only[List.reverse_cons,List.reverse_nil,List.nil_append,List.cons_append];exact aZ [false,false,false,false,false,false,false,true] [] (by simp[All2,an,aD]) (by decide) (by simp)
  refine ⟨⟨by simp[St,LW,sx,h5,h4,h29,h1,h2,h3],by first | omega | (simp<;>omega),λi' h1 h2=>by simp[f6 i' h2,hf i' h1 h2],hU.trans ⟨λi' h=>by simp[f6 i' (by omega)],λi' h=>?_⟩,o5.fr (by simp<;>omega) λi' h=>by simp⟩,by simp[sx,h31],by simp[sx,h30]⟩;simp at h;rcases h with h | h
  ·rcases u5.2 i' h with h | h
   ·simp at h
   ·exact .inr h
  ·exact .inl h
 ·rintro t df g' ⟨rfl,⟨h5,h4,-,ht⟩,hn,hf,hU,gv1⟩;rw[List.take_of_length_le (by omega),List.drop_of_length_le (by omega),List.append_nil] at gv1;exact fin t g' ⟨h5,h4,ht⟩ hn hf hU gv1
theorem KO {d B tg k t0:Nat}{n:Net}{oth vals:List Int}{m:Int}{b vw ow ww uu:AV}{P:Nat->Prop}{j:Int}{rd:Option Nat}{Q:QT}{t:T}{g:G}(hr:NR n)(hb:SlR NoP k .nil n.nodes b)(ho:SlR NoP k .nil oth ow)(hp:∀x∈oth,0<=x/\x<(n.nodes.length:Int))(hol:oth.length<=8)(hin:InC (S.ac n) vals)(hu:SlR P 0 g.h vals uu)
  (ht:St t ((5,uu)::(4,.int .i64 j)::(47,ow)::(8,.int .i64 0)::LW B tg (.tptr t0 6 [[.int .i64 n.grain,b,vw,ow,ww,.int .i64 m]] 0 0))) (h49:tat t 49=.int .i64 0) (h48:tat t 48=.int .i64 (oth.length:Int))
  (fin:∀t,St t ((8,.int .i64 (S.af (S.aa (S.ac n) oth) (S.aa vals oth)))::(4,.int .i64 j)::LW B tg (.tptr t0 6 [[.int .i64 n.grain,b,vw,ow,ww,.int .i64 m]] 0 0))->Q (.exit 4) t [] g):wpL (wp C0 d rd bU) Q t [] g:=by
 have ro:=λh=>(ho.tree (h':=h) (Nat.le_refl _)).ints;have hvl:=hin.len;rw[aw] at hvl;have hlp:(S.aa (S.ac n) oth).length=oth.length:=by simp[S.aa]
 have hlv:(S.aa vals oth).length=oth.length:=by simp[S.aa]
 have hpb:=a8 (ps:=oth) hr.cs (λp hpm=>by rw[aw];exact hp p hpm);have hC:=cC hin (λp hpm=>by rw[aw];exact hp p hpm);have ru:=hu.ints;simp only[bU];refine aI (m:=oth.length) (by omega) (λi t df g'=>df=[]/\g'=g/\St t ((5,uu)::(4,.int .i64 j)::(47,ow)::(8,.int .i64 (S.af ((S.aa (S.ac n) oth).take i) ((S.aa vals oth).take i)))::LW B tg (.tptr t0 6 [[.int .i64 n.grain,b,vw,ow,ww,.int .i64 m]] 0 0))) ⟨rfl,rfl,by simpa [S.af] using ht⟩ h49 h48 (by decide)
  (by rintro i t df g v s (rfl | rfl | rfl) ⟨a1,a2,⟨b1,b2,b3,b4,b5,b6,b7,-⟩⟩<;>exact ⟨a1,a2,by simp[St,LW,sx,b1,b2,b3,b4,b5,b6,b7]⟩) ?_ ?_
 ·rintro i t df g' hi ⟨rfl,rfl,⟨h5,h4,h47,h8,h1,h2,h3,-⟩⟩ h49 h48;obtain ⟨p,hpx,-,hpm⟩:=ac hi;obtain ⟨p0,p1⟩:=hp p hpm;obtain ⟨pn,y,rows,pa,ra,rfl,hy,r1,r2,r3,r4,hym,r5⟩:=uh hb p0 p1;obtain ⟨x,hx,-,-⟩:=ac (l:=vals) (j:=pn) (by omega);have z1:i<(oth.map ci).length:=by simpa using hi
  have z2:(oth.map ci)[i]?=some (ci (pn:Int)):=by rw[List.getElem?_map,hpx];rfl
  have y1:pn<(vals.map ci).length:=by rw[List.length_map];omega
  have y2:(vals.map ci)[pn]?=some (ci x):=by rw[List.getElem?_map,hx];rfl
  have hcj:(S.aa (S.ac n) oth)[i]?=some y.card:=by simp[S.aa,hpx,r5]
  have hvj:(S.aa vals oth)[i]?=some x:=by simp[S.aa,hpx,hx]
  have c1:(S.aa (S.ac n) oth).take (i+1)=(S.aa (S.ac n) oth).take i++[y.card]:=by rw[List.take_succ_eq_append_getElem (by omega)];congr 2;rw[List.getElem?_eq_getElem (by omega)] at hcj;injection hcj
  have c2:(S.aa vals oth).take (i+1)=(S.aa vals oth).take i++[x]:=by rw[List.take_succ_eq_append_getElem (by omega)];congr 2;rw[List.getElem?_eq_getElem (by omega)] at hvj;injection hvj
  have hsn:S.af ((S.aa (S.ac n) oth).take (i+1)) ((S.aa vals oth).take (i+1))=S.af ((S.aa (S.ac n) oth).take i) ((S.aa vals oth).take i)*y.card+x:=by rw[c1,c2];exact Ae (by simp;omega)
  have i1:=bA (λc h=>hpb c (List.mem_of_mem_take h)) (hC.take i);have i2:=bA (λc h=>hpb c (List.mem_of_mem_take h)) (hC.take (i+1));have q1:=fX hpb (by omega) i;have q2:=fX hpb (by omega) (i+1);rw[hsn] at i2 ⊢;have hyc:=hr.card y hym;obtain ⟨A,hA⟩:∃A,A=S.af ((S.aa (S.ac n) oth).take i) ((S.aa vals oth).take i):=⟨_,rfl⟩;rw[<-hA] at h8 i1 i2 ⊢;have hm0:0<=A*y.card:=Int.mul_nonneg i1.1 (by omega);have hm1:A*y.card<=65536*4:=Int.mul_le_mul (by omega) (by omega) (by omega) (by omega);have w1:IntKind.wrap .i64 (A*y.card)=A*y.card:=aB (by omega) (by omega);have w2:IntKind.wrap .i64 (A*y.card+x)=A*y.card+x:=aB (by omega) (by omega);simp only[sz,simprocAttr,h47,h49,ro,z1,z2,ci,h8,h1,h5,fW,cd,aX,r1,r2,r3,r4,ru,y1,y2,w1,w2];simp[St,LW,sx,h1,h2,h3,h4,h5,h47,h48,h49]
 ·rintro t df g' ⟨rfl,rfl,⟨-,h4,-,h8,ht⟩⟩;rw[List.take_of_length_le (by omega),List.take_of_length_le (by omega)] at h8;exact fin t ⟨h8,h4,ht⟩
theorem E9 {d id k tg:Nat}{n:Net}{vars oth mw:List Int}{m:Int}{qv:AV}{g0:G}{K:AV->G->Prop}(hd:0<d)(hr:NR n)(hq:yp n vars oth mw m k qv)(hp:∀x∈vars,0<=x/\x<(n.nodes.length:Int))(hvl:vars.length<=8)(hpo:∀x∈oth,0<=x/\x<(n.nodes.length:Int))(hol:oth.length<=8)(hmw:mw.length=S.ah n)
  (J:Nat->G->Prop) (hJ:∀j g g',(∀i,i<g0.nx->g'.h.get i=g.h.get i)->J j g->J j g')
  (step:∀(j:Nat) (w:Int) (u:AV) (g:G) (K':AV->G->Prop) (D:ADf->Prop),j<S.ah n->mw[j]?=some w->g0.nx<=g.nx->J j g->Own g g0.nx u 1 ((S.aa (S.ak (S.ac n) (j:Int)) vars).map ci) ->
   (∀g',J (j+1) g'->g.nx<=g'.nx->(∀i,g0.nx<=i->i<g.nx->g'.h.get i=g.h.get i)->K' (.bool true) g')->(bN (I C0) d id [.agg [.int .i64 (S.aT n oth j),.int .i64 w],u] g).sat K' g D)
  (h0:J 0 g0) (fin:∀g',J (S.ah n) g'->g0.nx<=g'.nx->K (.tup []) g') :
  wp C0 d none aR.code (fnQ C0 d aR.res K) (bD 0 [.yld id,.tptr tg 1 [[qv]] 0 0] .nil) [] g0:=by
 obtain ⟨t0,b,vw,ow,ww,rfl,ht0,hb,hv,ho,hww⟩:=hq;have hl8:=hr.l2;obtain ⟨W1,W2,W3⟩:=hr.wl;have hcs:CsOk (S.ac n):=⟨hr.cs,by rw[aw];omega⟩;have hnc:S.nc (S.ac n)=S.ah n:=rfl;have lv:∀g:G,dz .slice vw g=.val (.int .i64 (vars.length:Int)):=λg=>hv.len g;have lo:∀g:G,dz .slice ow g=.val (.int .i64 (oth.length:Int)):=λg=>ho.len g;have rw_:=λh=>(hww.tree (h':=h) (Nat.le_refl _)).ints;obtain ⟨B,hB⟩:∃B,B=g0.nx:=⟨_,rfl⟩;have hbx:∀g:G,Bg (.yld id) g=.upd (.hptr g.nx 0 0 0) (g.new (.cells 1 [[.yld id]] 0 false false)):=λg=>rfl;obtain ⟨Qf,hQf⟩:∃Qf,Qf=fnQ C0 d aR.res K:=⟨_,rfl⟩;rw[<-hQf];simp only[sz,simprocAttr,aR,hbx];unfold d8;refine dM (P:=λt' df g'=>df=[]/\g'.nx=B+3/\g'.h.get B=.cells 1 [[.yld id]] 0 false false/\Own g' B (.hsl (B+1) 0 0 vars.length none) 1 ((List.replicate vars.length 0).map ci)/\g'.h.get (B+2)=.cells 1 [[.hsl (B+1) 0 0 vars.length none]] 0 false false/\Up B g0 g'/\St t' (LW B tg (.tptr t0 6 [[.int .i64 n.grain,b,vw,ow,ww,.int .i64 m]] 0 0))) ?_ ?_
 ·simp only[sz,simprocAttr,aX,fW,cd,lv];refine GB (by omega) λg2 m2 n2 u2=>?_;simp only[sx] at m2 n2 u2;rw[<-hB] at m2 n2 u2;simp only[sz,simprocAttr,n2,<-hB];have hO:Own g2 B (.hsl (B+1) 0 0 vars.length none) 1 ((List.replicate vars.length 0).map ci):=.inr ⟨B+1,0,false,by omega,by omega,by simp,m2⟩;refine ⟨?_,hO.fr (by simp) λi hi=>?_,?_,by simp[St,LW,sx]⟩
  ·rw[if_neg (by omega),if_neg (by omega),u2.1 B (by omega),G.new_h,hB,aS]
  ·have:i=B+1:=by simpa [vid] using hi.symm
   subst this;simp[H.get_put,n2]
  ·exact ((Up.new (by omega) _).trans (u2.mono (by omega))).trans ((Up.new (by omega) _).trans (Up.put (by omega) _))
 rintro t df g1 ⟨rfl,n1,gB,gV,gS,U1,h1,h2,h3,-⟩;have hJ1:J 0 g1:=hJ _ _ _ (hB ▸ U1).1 h0;simp only[sz,simprocAttr,h1,aX,fW,cd];refine gi (te (n:=n) hd (hb.tree (h':=g1.h) (Nat.le_refl _)) (by omega)) λrc hrc=>?_;simp only[sz,simprocAttr];obtain ⟨z,kz,hz⟩:=yD (d:=d) (g:=g1) (w:=rc) (cs:=S.ac n) hd (hrc.sl g1.h);simp only[sz,simprocAttr,kz];refine wj (cs:=S.ac n) (w:=z) hcs hz (by simp[sx]) (by decide) (by decide)
  (λj g'=>J j g'/\g'.h.get B=.cells 1 [[.yld id]] 0 false false/\(∃l:List Int,l.length=vars.length/\∃lo,g'.h.get (B+1)=.cells 1 (l.map ci) 0 lo false)/\g'.h.get (B+2)=.cells 1 [[.hsl (B+1) 0 0 vars.length none]] 0 false false) (λ_=>False) ?_ (λ_ _ _ h=>h) ?_ ?_ ?_ (λ_ h=>h.elim)
 ·rintro j g3 g4 hU ⟨a1,a2,a3,a4⟩;rw[n1] at hU;exact ⟨hJ _ _ _ (λi hi=>hU.1 i (by omega)) a1,by rw[hU.1 _ (by omega),a2],by rw[hU.1 _ (by omega)];exact a3,by rw[hU.1 _ (by omega),a4]⟩
 ·refine ⟨hJ1,gB,?_,gS⟩;rcases gV with ⟨h,-⟩ | ⟨id,ep,lo,-,-,h,hg⟩
  ·cases h
  ·injection h with e1 e2;subst e1;subst e2;exact ⟨_,by simp,lo,hg⟩
 ·rintro j uu g3 hj ⟨a1,a2,a3,a4⟩ hn3 hu;rw[hnc] at hj;rw[n1] at hn3 hu;simp only[sz,simprocAttr,dO];refine ⟨Fr.refl _,λg5 n5 f5 u5=>?_⟩;rw[n1] at f5 u5;obtain ⟨l,hl,lo1,a3⟩:=a3;have hin:=bZ (λc hc=>(hr.cs c hc).1) (j:Int);have hvln:=nZ (S.ac n) (j:Int);rw[aw] at hvln;have hu5:SlR (λi=>B+3+2<=i/\i<g3.nx) 0 g5.h (S.ak (S.ac n) (j:Int)) uu:=hu.far8 λi hi=>f5 i (by omega);have gB5:g5.h.get B=.cells 1 [[.yld id]] 0 false false:=by rw[u5.1 _ (by omega),a2]
  have gV5:Own g5 B (.hsl (B+1) 0 0 vars.length none) 1 (l.map ci):=.inr ⟨B+1,0,lo1,by omega,by omega,by rw[List.length_map,hl],by rw[u5.1 _ (by omega),a3]⟩;have gS5:g5.h.get (B+2)=.cells 1 [[.hsl (B+1) 0 0 vars.length none]] 0 false false:=by rw[u5.1 _ (by omega),a4]
  have hJ5:J j g5:=hJ _ _ _ (λi hi=>u5.1 i (by omega)) a1;simp only[sz,simprocAttr,dP,h1,aX,fW,cd,lv];refine KN (B:=B) (n:=n) (vars:=vars) (m:=m) (mw:=mw) (oth:=oth) (vals:=S.ak (S.ac n) (j:Int)) (l:=l) (vv:=vw) (tg:=tg) (qv:=.tptr t0 6 [[.int .i64 n.grain,b,vw,ow,ww,.int .i64 m]] 0 0) (k:=k) (uu:=uu) (j:=(j:Int))
   ⟨t0,b,vw,ow,ww,rfl,ht0,hb,hv,ho,hww⟩ (by rw[hvln];exact hp) hvl hu5 (λi hi=>by omega) (by omega) gV5 gS5 hl (by simp[St,LW,sx,h1,h2,h3]) hv (by simp[sx]) (by simp[sx]) ?_
  rintro t6 g6 ⟨h5,h4,h1,h2,h3,-⟩ n6 f6 U6 gV6;have hu6:SlR (λi=>B+3+2<=i/\i<g3.nx) 0 g6.h (S.ak (S.ac n) (j:Int)) uu:=hu5.far8 λi hi=>f6 i (by omega) (by omega);simp only[sz,simprocAttr,dR,h1,aX,fW,cd,lo];refine KO (B:=B) (n:=n) (oth:=oth) (vals:=S.ak (S.ac n) (j:Int)) (tg:=tg) (k:=k) (uu:=uu) (j:=(j:Int)) (t0:=t0) (b:=b) (vw:=vw) (ow:=ow) (ww:=ww) (m:=m) hr hb ho hpo hol hin hu6 (by simp[St,LW,sx,h1,h2,h3,h4,h5]) (by simp[sx]) (by simp[sx]) ?_;rintro t7 ⟨h8,h4,h1,h2,h3,-⟩;have gB6:g6.h.get B=.cells 1 [[.yld id]] 0 false false:=by rw[f6 _ (by omega) (by omega),gB5]
  have gS6:g6.h.get (B+2)=.cells 1 [[.hsl (B+1) 0 0 vars.length none]] 0 false false:=by rw[f6 _ (by omega) (by omega),gS5]
  obtain ⟨w,hw,-,-⟩:=ac (l:=mw) (j:=j) (by omega);have z1:j<(mw.map ci).length:=by rw[List.length_map];omega
  have z2:(mw.map ci)[j]?=some (ci w):=by rw[List.getElem?_map,hw];rfl
  simp only[sz,simprocAttr,sf,dQ,h2,gB6,h8,h1,aX,fW,cd,rw_,h4,z1,z2,ci,h3,gS6];show (bN (I C0) d id [.agg [.int .i64 (S.aT n oth j),.int .i64 w],.hsl (B+1) 0 0 vars.length none] _).sat _ _ _;have hlp:(S.aa (S.ak (S.ac n) (j:Int)) vars).length=vars.length:=by simp[S.aa]
  refine step j w (.hsl (B+1) 0 0 vars.length none) _ _ _ hj hw ?_ (hJ _ _ _ (λi hi=>by simp[U6.1 i (by omega)]) hJ5) ?_ λg8 hJ8 n8 f8=>?_
  ·simp;omega
  ·exact hB ▸ gV6.fr (by simp<;>omega) λi hi=>by simp
  simp only[sy] at n8 f8;simp only[sz,simprocAttr,sf];refine ⟨?_,?_⟩
  ·simp only[List.reverse_cons,List.reverse_nil,List.nil_append,List.cons_append];refine aZ [false,false,false,false,false,false,false,false,false,false,false,true,false] [] ?_ (by decide) (by simp);have fd:∀(t:T) (g:G) (f:Od) (xs:List Od),f.get t=.yld id->(SO.foot C0 t g (.dyn f xs)).sr=[]:=λt g f xs h=>by simp only[SO.foot,h];rfl
   simp[All2,an,aD,fd,sx]
  refine ⟨by simp;omega,λi h1 h2=>?_,.inl ⟨rfl,hJ _ _ _ (λi hi=>by simp) hJ8,by rw[f8 _ (by omega) (by omega),gB6],?_,by rw[f8 _ (by omega) (by omega),gS6]⟩⟩
  ·rw[n1] at h1;simp[f8 i (by omega) (by omega),f6 i h2 (by omega)]
  ·rw[f8 _ (by omega) (by omega)];rcases gV6 with ⟨h,-⟩ | ⟨id,ep,lo,-,-,h,hg⟩
   ·cases h
   ·injection h with e1 e2;subst e1;subst e2;exact ⟨_,hlp,lo,hg⟩
 ·rintro g' ⟨a1,a2,a3,a4⟩ hn hdf;rw[hnc] at a1;rw[n1] at hn hdf;rw[hQf];show uV C0 d [] t [.mark g1.nx] g' K;refine gq (by rw[n1];exact hdf) ?_;exact fin _ (hJ _ _ _ (λi hi=>by rw[G.put_h,aq _ _ _ (by omega)]) a1) (by simp;omega)
theorem Bs:C0.ext N.aa=none:=by kernel_rfl
theorem B2 {d nt p q r k tg:Nat}{n:Net}{vars oth mw:List Int}{m:Int}{qv:AV}{ca cb:SC}{Q:QT}{t:T}{df:List ADf}{g:G}(hd:0<d)(hr:NR n)(hqv:yp n vars oth mw m k qv)(hpv:∀x∈vars,0<=x/\x<(n.nodes.length:Int))(hvl:vars.length<=8)(hpo:∀x∈oth,0<=x/\x<(n.nodes.length:Int))(hol:oth.length<=8)(hmw:mw.length=S.ah n)
  (hv:tat t r=.clo N.aa [] [.tptr tg 1 [[qv]] 0 0]) (hp:p<nt) (hq:q<nt)
  (J:Nat->G->Prop) (hJ:∀j g1 g2,(∀i,i<g.nx->g2.h.get i=g1.h.get i)->J j g1->J j g2) (h0:J 0 g)
  (step:∀(j:Nat) (w:Int) (u:AV) (g1:G),j<S.ah n->mw[j]?=some w->J j g1->g.nx+2<=g1.nx->Own g1 (g.nx+2) u 1 ((S.aa (S.ak (S.ac n) (j:Int)) vars).map ci) ->
   wp C0 d (some (g.nx+1)) ca (λe t1 df g1'=>e=.norm/\df=[]/\Fr g1 g1'/\∀g2:G,g2.nx=g1'.nx->(∀i,i≠g.nx+1->g2.h.get i=g1'.h.get i) ->
    wp C0 d (some (g.nx+1)) cb (λe _ df g3=>df=[]/\RowQ g.nx g2 g3 e (J (j+1) g3) False) t1 [] g2)
    (ej (ej t p (.agg [.int .i64 (S.aT n oth j),.int .i64 w])) q u) [] g1)
  (fin:∀g',J (S.ah n) g'->g.nx+2<=g'.nx->g'.h.get g.nx=.dfr true->Q .norm t (.mark g.nx::df) g') :
  wp C0 d none (.rng nt (.t r) [p,q] ca cb) Q t df g:=by
 refine n_ (fn:=N.aa) (first:=[]) (cap:=[.tptr tg 1 [[qv]] 0 0]) (s:=aR) hv Bs j8 (by simp[aR]) ?_;intro assign body ha hb';have e1:((g.new (.dfr true)).new (.loop nt t [p,q] assign body g.nx .ready none)).nx=g.nx+2:=by simp
 refine E9 (g0:=(g.new (.dfr true)).new (.loop nt t [p,q] assign body g.nx .ready none)) (id:=g.nx+1) hd hr hqv hpv hvl hpo hol hmw
  (λj g'=>J j g'/\g'.h.get g.nx=.dfr true/\g'.h.get (g.nx+1)=.loop nt t [p,q] assign body g.nx .ready none) ?_ ?_ ?_ ?_
 ·rintro j h h' hh ⟨a1,a2,a3⟩;rw[e1] at hh;exact ⟨hJ j h h' (λi hi=>hh i (by omega)) a1,by rw[hh _ (by omega),a2],by rw[hh _ (by omega),a3]⟩
 ·rintro j w u g1 K' D hj hw hn ⟨a1,a2,a3⟩ hsl kk;rw[e1] at hn kk hsl;refine s7 a3 ha hb' (t':=ej (ej t p (.agg [.int .i64 (S.aT n oth j),.int .i64 w])) q u) ?_ ?_
  ·simp only[ct,aa,Nat.blt_eq,if_pos hp,if_pos hq];rfl
  ·refine bL _ (step j w u g1 hj hw a1 (by omega) hsl) ?_;rintro e t1 df g1' ⟨rfl,rfl,hfr,h⟩;have hl0:g.nx+1<g1.nx:=by omega
   have hl:g.nx+1<g1'.nx:=Nat.lt_of_lt_of_le hl0 hfr.1;have a2':g1'.h.get g.nx=.dfr true:=by rw[hfr.2 _ (by omega),a2]
   have a3':g1'.h.get (g.nx+1)=.loop nt t [p,q] assign body g.nx .ready none:=by rw[hfr.2 _ hl0,a3]
   refine ⟨rfl,rfl,a3',?_⟩;refine bL _ (h (g1'.put (g.nx+1) (.loop nt t [p,q] assign body g.nx .busy none)) (by simp) (λi hi=>by simp[H.get_put,hi])) ?_;rintro e t2 df g3 ⟨rfl,⟨b2,b3,b1⟩⟩;have b4:g3.h.get (g.nx+1)=.loop nt t [p,q] assign body g.nx .busy none:=by rw[b3 _ (by omega) (by simpa using hl)];simp[H.get_put]
   have b5:g3.h.get g.nx=.dfr true:=by rw[b3 _ (by omega) (by simp;omega)];simp[H.get_put,a2']
   refine ⟨rfl,b4,?_⟩;have b2':g1'.nx<=g3.nx:=by simpa using b2
   have hf1:=hfr.1;rcases b1 with ⟨rfl,b1⟩ | ⟨rfl,b1⟩
   ·refine .inl ⟨rfl,kk _ ⟨hJ _ g3 _ (λi hi=>by rw[G.put_h,aq _ _ _ (by omega)]) b1,?_,?_⟩ (by simp;omega) λi h1 h2=>?_⟩
    ·simp[H.get_put,b5]
    ·simp[H.get_put]
    ·have hne:¬i=g.nx+1:=by omega
     have:=b3 i (by omega) (by simp;omega);simp[H.get_put,hne] at this ⊢;rw[this,hfr.2 i h2]
   ·exact b1.elim
 ·refine ⟨hJ 0 g _ (λi hi=>by rw[G.new_h,aq _ _ _ (by simp;omega),G.new_h,aq _ _ _ (by omega)]) h0,?_,?_⟩
  ·simp[H.get_put]
  ·simp[H.get_put]
 ·rintro g' ⟨a1,a2,a3⟩ hn;rw[e1] at hn;refine ⟨_,_,_,_,_,_,.inl ⟨a3,fin _ (hJ _ g' _ (λi hi=>by rw[G.put_h,aq _ _ _ (by omega)]) a1) (by simpa using hn) ?_⟩⟩;simp[H.get_put,a2]
def WoV (q:AV)(t0:Nat):VS:=λP k h v=>t0<=k/\((∃id,v=.clo N.aa [] [.hptr id 0 0 0]/\P id/\h.get id=.cells 1 [[q]] 0 false false)\/∃tg,v=.clo N.aa [] [.tptr tg 1 [[q]] 0 0]/\tg<=k)
theorem Ke {q:AV}{t0 sz i off:Nat}{rows:List (List AV)}(hq:q=.tptr t0 sz rows i off):Snb (WoV q t0) 2:=by
 subst hq;refine ⟨λ{P k h v n} d r hn=>?_,λ{k h v n} r hn=>?_⟩
 ·obtain ⟨n,rfl⟩:∃q,n=q+3:=⟨n - 3,by omega⟩;obtain ⟨r0,⟨id,rfl,-,hg⟩ | ⟨tg,rfl,ht⟩⟩:=r
  ·refine ⟨.clo N.aa [] [.tptr (Nat.max d (Nat.max (Nat.max t0 0) 0)) 1 [[.tptr t0 sz rows i off]] 0 0],?_,by omega,.inr ⟨_,rfl,?_⟩⟩
   ·simp only[Hx.snap,aE,hg,show Nat.beq 0 0=true from rfl,eg,fc]
    rfl
   ·show max d (max (max t0 0) 0)<=max k d;omega
  ·exact ⟨.clo N.aa [] [.tptr tg 1 [[.tptr t0 sz rows i off]] 0 0],rfl,by omega,.inr ⟨tg,rfl,by omega⟩⟩
 ·obtain ⟨n,rfl⟩:∃q,n=q+3:=⟨n - 3,by omega⟩;obtain ⟨r0,⟨id,-,h,-⟩ | ⟨tg,rfl,ht⟩⟩:=r
  ·exact h.elim
  ·exact ⟨Nat.max tg 0,rfl,by show max tg 0<=k;omega⟩
theorem Ce {d k:Nat}{g:G}{n:Net}{vars oth mw:List Int}{m:Int}{q:AV}(hd:k<d)(hq:yp n vars oth mw m k q) :
  ∃tg,ax C0 d N.ax [q] g=.val (.clo N.aa [] [.tptr tg 1 [[q]] 0 0]):=by
 obtain ⟨t0,b,vw,ow,ww,e0,ht,hb,hv,ho,hww⟩:=hq;have key:∃r,ax C0 d N.ax [q] g=.val r/\WoV q t0 NoP k .nil r:=by
  rw[j5];refine br lT (xs:=[q]) (by rw[e0];simp only[aE,qr]) (by simp[cZ]) (Ke e0) (by decide) hd ?_;have hbx:∀g:G,Bg q g=.upd (.hptr g.nx 0 0 0) (g.new (.cells 1 [[q]] 0 false false)):=λg=>by rw[e0];rfl
  simp only[sz,simprocAttr,cZ,fy,hbx];exact ⟨λ_=>True,ht,.inl ⟨0,rfl,trivial,by simp[H.get_put]⟩⟩
 obtain ⟨r,hr,-,⟨id,-,h,-⟩ | ⟨tg,rfl,-⟩⟩:=key
 ·exact h.elim
 ·exact ⟨tg,hr⟩
theorem FC {d k k2:Nat}{P P2:Nat->Prop}{g:G}{v w:AV}{l l2:List Int}(hd:0<d)(hl:SlR P k g.h l v)(hl2:SlR P2 k2 g.h l2 w):ax C0 d N.a_ [v,w] g=.val (.bool (decide (l=l2))):=by
 obtain ⟨v',ev,hv⟩:=ch hl d;obtain ⟨w',ew,hw⟩:=ch hl2 d;have rv:=λh=>(hv h).ints;have rw':=λh=>(hw h).ints;have lv:=(hv .nil).len;have lw:=(hw .nil).len;have hn:=hl.1;rw[mE];refine jr oP (xs:=[v',w']) (by simp only[aE,ev,ew]) (by simp[cR]) hd ?_
 by_cases c:l.length=l2.length
 ·have c':(l.length:Int)=(l2.length:Int):=by omega
  simp only[sz,simprocAttr,cR,lv,lw,c'];simp only[gI];refine aI (m:=l.length) (by omega) (λj t df g=>df=[]/\St t [(0,v'),(1,w'),(11,v')]/\l.take j=l2.take j) ⟨rfl,by simp[St,sx],by simp⟩ (by simp[sx]) (by simp[sx,c']) (by decide) (by rintro j t df g v s (rfl | rfl | rfl)<;>simp[St,sx]) ?_ ?_
  ·rintro j t df g hj ⟨rfl,⟨h0,h1,h11,-⟩,hjj⟩ h13 h12;obtain ⟨y,hy,hty,-⟩:=ac hj;obtain ⟨z,hz,htz,-⟩:=ac (l:=l2) (j:=j) (by omega);have u1:j<(l.map ci).length:=by simpa using hj
   have u2:(l.map ci)[j]?=some (ci y):=by rw[List.getElem?_map,hy];rfl
   have v1:j<(l2.map ci).length:=by rw[List.length_map];omega
   have v2:(l2.map ci)[j]?=some (ci z):=by rw[List.getElem?_map,hz];rfl
   by_cases e:y=z
   ·simp only[sz,simprocAttr,h0,h1,h11,h13,rv,rw',u1,u2,v1,v2,ci,e];simp[St,sx,h0,h1,h11,h12,h13,hty,htz,hjj,e]
   ·have hne:l≠l2:=λh=>e (by rw[h,hz] at hy;injection hy with hy;exact hy.symm);simp only[sz,simprocAttr,h0,h1,h11,h13,rv,rw',u1,u2,v1,v2,ci,e,hne,decide_false]
  ·rintro t df g ⟨rfl,-,hjj⟩;rw[List.take_length,c,List.take_length] at hjj;simp only[sz,simprocAttr,gJ,hjj,decide_true]
 ·have c':¬(l.length:Int)=(l2.length:Int):=by omega
  have hne:l≠l2:=λh=>c (by rw[h]);simp only[sz,simprocAttr,cR,lv,lw,c',hne,decide_false]
theorem IQ {g:G}{b:Nat}{u:AV}{l:List Int}(hu:Own g b u 1 (l.map ci)){n:Nat}(hn:n<=l.length)(hl:l.length<9223372036854775808) :
  ∃y,xk 1 u none (some (.int .i64 (n:Int))) g=.val y/\∀(h':H),(∀i,vid u=some i->h'.get i=g.h.get i)->SlR (λi=>vid u=some i) 0 h' (l.take n) y:=by
 by_cases hne:l=[]
 ·subst hne;have:n=0:=by simpa using hn
  subst this;rcases hu with ⟨rfl,-⟩ | ⟨id,ep,lo,h1,h2,rfl,h3⟩
  ·exact ⟨.nils,rfl,λh' _=>⟨hl,rfl⟩⟩
  ·simp only[xk,li,h3,Nat.beq_refl,Bool.true_and,ap,Nat.zero_add,aa,Nat.ble_eq,Nat.le_refl,if_true,ba,Option.getD_none,Nat.sub_zero];simp only[bJ];cases lo
   ·exact ⟨.esl,rfl,λh' _=>⟨hl,rfl⟩⟩
   ·exact ⟨.tsl 0 1 [],rfl,λh' _=>⟨hl,by decide,.inl rfl,trivial⟩⟩
 ·obtain ⟨y,h1,-,h2⟩:=IR (α:=Int) hu (by simpa using hne) (n:=n) (by simpa using hn);refine ⟨y,h1,λh' hh=>h2 _ 0 l h' hh ?_⟩;have:=hu.sl (α:=Int) (P:=λi=>vid u=some i) (k:=0) hl (All2.of_map (λa=>aF.2 rfl) l) λi hi=>hi;exact this.far8 λi hi=>hh i hi
def S.a_ (l:List Int)(i x:Int):List Int:=l.set i.toNat (max (l[i.toNat]?.getD 0) x)
def S.ap (f:Nat->Int)(N:Nat)(c:Nat->Bool)(x:Nat->Int):Nat->List Int
 | 0=>List.replicate N 0
 | j+1=>if c j then S.a_ (S.ap f N c x j) (f j) (x j) else S.ap f N c x j
theorem fV (f:Nat->Int)(N:Nat)(c:Nat->Bool)(x:Nat->Int):∀j,(S.ap f N c x j).length=N
 | 0=>by simp[S.ap]
 | j+1=>by
  rw[S.ap]
  split
  ·rw[S.a_,List.length_set,fV f N c x j]
  ·exact fV f N c x j
theorem A1 {l:List Int}:∀{i:Nat} {y:Int},i<l.length->(l.set i y).sum=l.sum - l[i]?.getD 0+y:=by
 induction l with
 | nil=>intro i y h;simp at h
 | cons a l ih =>
  intro i y h;cases i with
  | zero=>simp;omega
  | succ i =>
   simp only[List.set_cons_succ,List.sum_cons,List.getElem?_cons_succ];rw[ih (by simpa using h)];omega
theorem qf {f:Nat->Int}{N:Nat}{c:Nat->Bool}{x:Nat->Int}{M:Int}{W:Nat}(hf:∀j,j<W->0<=f j/\f j<(N:Int))(hx:∀j,j<W->0<=x j/\x j<=M):∀j,j<=W->(∀y∈S.ap f N c x j,0<=y)/\(S.ap f N c x j).sum<=M*j
 | 0,_=>by simp only[S.ap];exact ⟨λy hy=>by rw[(List.mem_replicate.1 hy).2];exact Int.le_refl _,by simp⟩
 | j+1,h=>by
  obtain ⟨a1,a2⟩:=qf (c:=c) hf hx j (by omega);have hxj:=hx j (by omega);have hfj:=hf j (by omega);have hM:M*((j+1:Nat):Int)=M*j+M:=by rw[Int.natCast_add,Int.mul_add];simp
  rw[S.ap,hM]
  split
  ·have hlt:(f j).toNat<(S.ap f N c x j).length:=by rw[fV];omega
   have hg:(S.ap f N c x j)[(f j).toNat]?.getD 0=(S.ap f N c x j)[(f j).toNat]:=by rw[List.getElem?_eq_getElem hlt];rfl
   have hn:=a1 _ (List.getElem_mem hlt);refine ⟨λy hy=>?_,?_⟩
   ·rcases List.mem_or_eq_of_mem_set hy with hy | rfl
    ·exact a1 y hy
    ·omega
   ·rw[S.a_,A1 hlt,hg];omega
  ·exact ⟨a1,by omega⟩
def S.aO (n:Net)(vars l:List Int)(w:Nat):Bool:=decide ((S.aa (S.ak (S.ac n) (w:Int)) vars).take l.length=l)
def S.aA (n:Net)(oth:List Int):Nat:=(S.ae (S.aa (S.ac n) oth)).toNat
def S.bD (n:Net)(vars oth mw l:List Int):Int:=(S.ap (S.aT n oth) (S.aA n oth) (S.aO n vars l) (λw=>mw[w]?.getD 0) (S.ah n)).sum
theorem xp {l:List Int}{j:Nat}{x:Int}(h:l[j]?=some x):(l.take (j+1)).sum=(l.take j).sum+x:=by have hj:=(List.getElem?_eq_some_iff.1 h).1;rw[List.take_succ_eq_append_getElem hj];rw[List.getElem?_eq_getElem hj] at h;injection h with h;rw[h,List.sum_append];simp
theorem A3 {l:List Int}(h:∀y∈l,0<=y):∀j,0<=(l.take j).sum/\(l.take j).sum<=l.sum:=by
 induction l with
 | nil=>intro j;simp
 | cons a l ih =>
  intro j;have ha:=h a (by simp);have ih':=ih λy hy=>h y (by simp[hy]);cases j with
  | zero=>have:=ih' l.length;rw[List.take_length] at this;simp;omega
  | succ j=>have:=ih' j;simp;omega
def LBd (p:Nat)(u:AV):List (Nat×AV):=[(3,.hptr 0 0 0 0),(5,.hptr 2 0 0 0),(6,.hptr p 0 0 0),(7,u)]
theorem Kr {d p k2 N:Nat}{vals l gr:List Int}{w' u:AV}{f x:Int}{rd:Option Nat}{Q:QT}{t:T}{g:G}(hd:0<d)(hw:∀h,SlR NoP k2 h l w')(hl:l.length<=vals.length)(hvl:vals.length<=8)(hf:0<=f/\f<(N:Int))(hgl:gr.length=N)
  (g0:g.h.get 0=.cells 1 [[w']] 0 false false) (g1:∃lo,g.h.get 1=.cells 1 (gr.map ci) 0 lo false) (g2:g.h.get 2=.cells 1 [[.hsl 1 0 0 N none]] 0 false false) (gp:g.h.get p=.cells 2 [[.int .i64 f,.int .i64 x]] 0 false false) (hu:Own g 5 u 1 (vals.map ci)) (hn:5<=g.nx)
  (ht:St t (LBd p u))
  (fin:∀t g',g.nx<=g'.nx->(∀i,i<g.nx->i≠1->g'.h.get i=g.h.get i)->(∃lo,g'.h.get 1=.cells 1 ((if decide (vals.take l.length=l)=true then S.a_ gr f x else gr).map ci) 0 lo false)->Q .norm t [] g'):wp C0 d rd bE Q t [] g:=by
 obtain ⟨h3,h5,h6,h7,-⟩:=ht;obtain ⟨lo,g1⟩:=g1;have lw:∀g:G,dz .slice w' g=.val (.int .i64 (l.length:Int)):=λg=>(hw .nil).len g;obtain ⟨y,y1,y2⟩:=IQ (g:=aK g []) (b:=5) (u:=u) (l:=vals) (n:=l.length) (hu.fr (by simp) λi hi=>by simp) hl (by omega);have ke:=FC (d:=d) (g:=aK g []) (w:=w') hd (y2 _ λi hi=>rfl) (hw _);have hO:Own g 0 (.hsl 1 0 0 N none) 1 (gr.map ci):=.inr ⟨1,0,lo,by omega,by omega,by rw[List.length_map,hgl],g1⟩;obtain ⟨fn,rfl⟩:=Int.eq_ofNat_of_zero_le hf.1;obtain ⟨z,hz,-,-⟩:=ac (l:=gr) (j:=fn) (by omega);have z1:fn<(gr.map ci).length:=by rw[List.length_map];omega
 have z2:(gr.map ci)[fn]?=some (ci z):=by rw[List.getElem?_map,hz];rfl
 have hup:S.a_ gr (fn:Int) x=gr.set fn (max z x):=by rw[S.a_,Int.toNat_natCast,hz];rfl
 by_cases c:vals.take l.length=l
 ·simp only[sz,simprocAttr,bE,h7,h3,g0,lw,List.head?_nil,List.head?_cons,y1,ke,c,decide_true];simp only[sz,simprocAttr,sf,h5,h6,g2,gp,hO.rows,z1,z2,ci];refine bB (b:=0) (v:=.hsl 1 0 0 N none) (sz:=1) (n:=1) (i:=fn) (off:=0) (x:=.int .i64 (max z x)) (row:=ci z) (row':=ci (max z x)) (hO.fr (by simp<;>omega) (λi' hi'=>by simp)) z2 rfl rfl rfl λg5 o5 n5 f5=>?_;rw[<-List.map_set,<-hup] at o5;have f6:∀i',i'≠1->g5.h.get i'=g.h.get i':=λi' hi'=>by rw[f5 i' (by simpa [vid] using λh:1=i'=>hi' h.symm)];simp
  simp only[sy] at n5;simp only[sz,simprocAttr,sf];refine ⟨?_,?_⟩
  ·simp only[List.reverse_cons,List.reverse_nil,List.nil_append,List.cons_append];exact aZ [false,false,false,false,false,false,false,false,false,false,false,false,true] [] (by simp[All2,an,aD]) (by decide) (by simp)
  refine fin _ _ (by first | omega | (simp<;>omega)) (λi' h1 h2=>by simp[f6 i' h2]) ?_;rw[if_pos (by simpa using c)];rcases o5 with ⟨h,-⟩ | ⟨id,ep,lo2,-,-,h,hg⟩
  ·cases h
  ·injection h with e1 e2;subst e1;subst e2;exact ⟨lo2,by simpa using hg⟩
 ·simp only[sz,simprocAttr,bE,h7,h3,g0,lw,List.head?_nil,List.head?_cons,y1,ke,c,decide_false];exact fin _ g (Nat.le_refl _) (λ_ _ _=>rfl) ⟨lo,by rw[if_neg (by simpa using c)];exact g1⟩
theorem Fm {d k k2:Nat}{g:G}{P:Nat->Prop}{n:Net}{vars oth mw l:List Int}{m:Int}{q w:AV}(hd:k<d)(hr:NR n)(hq:yp n vars oth mw m k q)(hpv:∀x∈vars,0<=x/\x<(n.nodes.length:Int))(hvl:vars.length<=8)(hpo:∀x∈oth,0<=x/\x<(n.nodes.length:Int))(hol:oth.length<=8)(hmw:mw.length=S.ah n)(hmb:∀x∈mw,0<=x/\x<=167961600000000)
  (hw:SlR P k2 g.h l w) (hl:l.length<=vars.length):ax C0 d N.aL [q,w] g=.val (.int .i64 (S.bD n vars oth mw l)):=by
 have hq0:=hq;obtain ⟨t0,b,vw,ow,ww,e0,ht,hb,hv,ho,hww⟩:=hq0;obtain ⟨w',e2,hw'⟩:=ch hw d;have lw:∀g:G,dz .slice w' g=.val (.int .i64 (l.length:Int)):=λg=>(hw' .nil).len g;have hpb:=a8 (ps:=oth) hr.cs (λp hpm=>by rw[aw];exact hpo p hpm);have hlp:(S.aa (S.ac n) oth).length=oth.length:=by simp[S.aa]
 have hcs:CsOk (S.aa (S.ac n) oth):=⟨hpb,by omega⟩;obtain ⟨N1,N2,N3⟩:=hcs.nc;have hN:S.nc (S.aa (S.ac n) oth)=S.aA n oth:=rfl;rw[hN] at N1 N2 N3;have hd1:0<d+1:=Nat.succ_pos d;rw[lA];refine lJ mL (xs:=[q,w']) (by rw[e0];simp only[aE,e2,qr]) (by simp[dE]) (by omega) ?_;subst e0;have rbx:=uD (hw' .nil);simp only[sz,simprocAttr,dE,fJ,rbx,fW,cd,aX];refine gi (EQ hd1 hq hpo (ho.tree (Nat.le_refl _)) hol) λrc hrc=>?_;simp only[sz,simprocAttr,A8 hd1 (hrc.sl .nil |>.wide (P:=NoP) (k':=0) (Nat.le_refl 0))];rw[s8 hpb (by omega),<-N3];refine GB N2 λg1 m1 n1 u1=>?_;rw[show (G.empty.new (.cells 1 [[w']] 0 false false)).nx=1 from rfl] at m1 n1 u1 ⊢;have b1:g1.h.get 0=.cells 1 [[w']] 0 false false:=by rw[u1.1 0 (by omega)];simp[H.get_put,show G.empty.nx=0 from rfl]
 clear u1;simp only[sz,simprocAttr,n1];refine gi (Q:=λr=>∃tg,r=.clo N.aa [] [.tptr tg 1 [[.tptr t0 6 [[.int .i64 n.grain,b,vw,ow,ww,.int .i64 m]] 0 0]] 0 0]) (by obtain ⟨tg,h⟩:=Ce (g:=(g1.new (.cells 1 [[.nils]] 0 false false)).put (1+1) (.cells 1 [[.hsl 1 0 0 (S.aA n oth) none]] 0 false false)) (Nat.lt_succ_of_lt hd) hq;exact ⟨_,h,tg,rfl⟩) ?_;rintro r ⟨tg,rfl⟩;have c0:((g1.new (.cells 1 [[.nils]] 0 false false)).put (1+1) (.cells 1 [[.hsl 1 0 0 (S.aA n oth) none]] 0 false false)).h.get 0=.cells 1 [[w']] 0 false false:=by simp[H.get_put,n1,b1]
 have c1:((g1.new (.cells 1 [[.nils]] 0 false false)).put (1+1) (.cells 1 [[.hsl 1 0 0 (S.aA n oth) none]] 0 false false)).h.get 1=.cells 1 ((List.replicate (S.aA n oth) 0).map ci) 0 false false:=by rw[G.put_h,aq _ _ _ (by omega),G.new_h,aq _ _ _ (by omega),m1]
 have c2:((g1.new (.cells 1 [[.nils]] 0 false false)).put (1+1) (.cells 1 [[.hsl 1 0 0 (S.aA n oth) none]] 0 false false)).h.get 2=.cells 1 [[.hsl 1 0 0 (S.aA n oth) none]] 0 false false:=by simp[H.get_put]
 have c3:((g1.new (.cells 1 [[.nils]] 0 false false)).put (1+1) (.cells 1 [[.hsl 1 0 0 (S.aA n oth) none]] 0 false false)).nx=3:=by simp[n1]
 generalize (g1.new (.cells 1 [[.nils]] 0 false false)).put (1+1) (.cells 1 [[.hsl 1 0 0 (S.aA n oth) none]] 0 false false)=g2 at c0 c1 c2 c3 ⊢;simp only[sz,simprocAttr];refine B2 (n:=n) (vars:=vars) (oth:=oth) (mw:=mw) (m:=m) (k:=k) (tg:=tg) hd1 hr hq hpv hvl hpo hol hmw (by simp[sx]) (by decide) (by decide)
  (λj g'=>g'.h.get 0=.cells 1 [[w']] 0 false false/\(∃lo,g'.h.get 1=.cells 1 ((S.ap (S.aT n oth) (S.aA n oth) (S.aO n vars l) (λw=>mw[w]?.getD 0) j).map ci) 0 lo false)/\g'.h.get 2=.cells 1 [[.hsl 1 0 0 (S.aA n oth) none]] 0 false false) ?_ ⟨c0,⟨false,c1⟩,c2⟩ ?_ ?_
 ·rintro j g3 g4 hU ⟨a1,a2,a3⟩;exact ⟨by rw[hU _ (by omega),a1],by rw[hU _ (by omega)];exact a2,by rw[hU _ (by omega),a3]⟩
 ·rintro j x u g3 hj hx ⟨a1,⟨lo,a2⟩,a3⟩ hn3 hu;rw[c3] at hn3 hu;simp only[sz,simprocAttr,fj];refine ⟨?_,λg5 n5 f5=>?_⟩
  ·exact Ja _ _ _
  rw[c3] at f5 ⊢;have hlp2:(S.aa (S.ak (S.ac n) (j:Int)) vars).length=vars.length:=by simp[S.aa]
  have hin:=bZ (λc hc=>(hr.cs c hc).1) (j:Int);have hf:=bA hpb (cC hin (λp hpm=>by rw[aw];exact hpo p hpm));rw[<-N3] at hf;have f6:∀i,i<g3.nx->i≠4->g5.h.get i=g3.h.get i:=λi h1 h2=>by rw[f5 i (by omega),if_neg (by omega),if_neg (by omega)]
  refine Kr (p:=g3.nx) (N:=S.aA n oth) (vals:=S.aa (S.ak (S.ac n) (j:Int)) vars) (l:=l) (gr:=S.ap (S.aT n oth) (S.aA n oth) (S.aO n vars l) (λw=>mw[w]?.getD 0) j) (w':=w') (u:=u) (f:=S.aT n oth j) (x:=x) hd1 hw' (by omega) (by omega) hf (fV _ _ _ _ _) (by rw[f6 0 (by omega) (by omega),a1]) ⟨lo,by rw[f6 1 (by omega) (by omega),a2]⟩ (by rw[f6 2 (by omega) (by omega),a3]) (by rw[f5 _ (by omega),if_pos rfl]) (hu.fr (by omega) λi hi=>by have:=hu.lt hi;exact f6 i (by omega) (by omega)) (by omega) (by simp[St,LBd,sx]) ?_;intro t6 g6 n6 f7 h7;refine ⟨rfl,n6,λi h1 h2=>f7 i h2 (by omega),.inl ⟨rfl,by rw[f7 0 (by omega) (by omega),f6 0 (by omega) (by omega),a1],?_,by rw[f7 2 (by omega) (by omega),f6 2 (by omega) (by omega),a3]⟩⟩;rw[S.ap,hx];exact h7
 ·rintro g' ⟨a1,⟨lo,a2⟩,a3⟩ hn hdf;obtain ⟨GR,hGR⟩:∃GR,GR=S.ap (S.aT n oth) (S.aA n oth) (S.aO n vars l) (λw=>mw[w]?.getD 0) (S.ah n):=⟨_,rfl⟩;rw[<-hGR] at a2;have hB:=qf (f:=S.aT n oth) (N:=S.aA n oth) (c:=S.aO n vars l) (x:=λw=>mw[w]?.getD 0) (M:=167961600000000) (W:=S.ah n) (λj _=>by
   have hin:=bZ (λc hc=>(hr.cs c hc).1) (j:Int);have hf:=bA hpb (cC hin (λp hpm=>by rw[aw];exact hpo p hpm));rw[<-N3] at hf;exact hf) (λj hj=>by
   obtain ⟨y,hy,-,hym⟩:=ac (l:=mw) (j:=j) (by omega);rw[hy];exact hmb y hym) (S.ah n) (Nat.le_refl _)
  rw[<-hGR] at hB;have hWW:=hr.wl.2.1;have hgl:GR.length=S.aA n oth:=by rw[hGR,fV]
  have hsum:S.bD n vars oth mw l=GR.sum:=by rw[hGR];rfl
  have hO:Own g' 0 (.hsl 1 0 0 (S.aA n oth) none) 1 (GR.map ci):=.inr ⟨1,0,lo,by omega,by omega,by rw[List.length_map,hgl],a2⟩;have lG:dz .slice (.hsl 1 0 0 (S.aA n oth) none) g'=.val (.int .i64 (GR.length:Int)):=by have:=(hO.sl (α:=Int) (P:=λ_=>True) (k:=0) (by omega) (All2.of_map (λa=>aF.2 rfl) _) λ_ _=>trivial).len g';exact this
  have ru:=hO.rows;simp only[sz,simprocAttr,fp,a3,lG,fk];refine aI (m:=GR.length) (by omega) (λj t df g=>df=[.mark g2.nx]/\g=g'/\St t [(41,.hsl 1 0 0 (S.aA n oth) none),(8,.int .i64 ((GR.take j).sum))]) ⟨rfl,rfl,by simp[St,sx]⟩ (by simp[sx]) (by simp[sx]) (by decide)
   (by rintro j t df g v s (rfl | rfl | rfl)<;>simp[sx,St]) ?_ ?_
  ·rintro j t df g hj ⟨rfl,rfl,h41,h8,-⟩ h43 h42;obtain ⟨y,hy,-,-⟩:=ac hj;have z1:j<(GR.map ci).length:=by simpa using hj
   have z2:(GR.map ci)[j]?=some (ci y):=by rw[List.getElem?_map,hy];rfl
   have s1:=xp hy;have s2:=A3 hB.1 (j+1);have w1:IntKind.wrap .i64 ((GR.take j).sum+y)=(GR.take (j+1)).sum:=by rw[<-s1,aB (by omega) (by omega)]
   simp only[sz,simprocAttr,h41,h43,ru,z1,z2,ci,h8,w1];simp[St,sx,h41,h42,h43]
  ·rintro t df g ⟨rfl,rfl,h41,h8,-⟩;rw[List.take_length] at h8;simp only[sz,simprocAttr,fm,h8,hsum];show uV C0 (d+1) [.tm 4] _ [.mark g2.nx] g λv x=>v=.int .i64 GR.sum;refine gq hdf ?_;simp[s6,sx,iC]
theorem GJ {n:Net}{e vars:List Int}{kv:Nat}{r:AV}(h:NsV n e vars NoP kv .nil r):(S.aR n e vars=0/\∃p,r=.tup [p,.int .i64 0]/\yp n vars (S.ax n vars) (S.a8 n e) (S.bC n e) kv p)\/(S.aR n e vars≠0/\r=.tup [.nilp,.int .i64 (S.aR n e vars)]):=by
 unfold NsV at h
 split at h
 ·rename_i c;obtain ⟨p,q,rfl,h1,h2⟩:=h;have h2:=aF.1 h2;injection h2 with h2;exact .inl ⟨c,p,by rw[h2],IK h1⟩
 ·rename_i c;obtain ⟨p,q,rfl,h1,h2⟩:=h;have h2:=aF.1 h2;injection h2 with h2;have h1:p=.nilp:=h1;exact .inr ⟨c,by rw[h2,h1]⟩
theorem AR {n:Net}{e vars:List Int}:S.aR n e vars=0↔(NR n/\S.aD n e=true)/\S.au vars (n.nodes.length:Int)=true:=by
 unfold S.aR
 split
 ·rename_i c;rw[js,dI] at c;cases S.au vars (n.nodes.length:Int)<;>simp[c]
 ·rename_i c;constructor
  ·intro h;exact absurd h c
  ·rintro ⟨⟨h1,h2⟩,-⟩;exact absurd (js.2 ⟨dI.2 h1,h2⟩) c
theorem rn {n:Net}{vars:List Int}:∀x∈S.ax n vars,0<=x/\x<(n.nodes.length:Int):=by intro x hx;have h:=(List.mem_filter.1 hx).1;obtain ⟨i,hi,rfl⟩:=List.mem_map.1 h;have:=List.mem_range.1 hi;omega
theorem qa {n:Net}(hr:NR n)(w:Nat):0<=S.wt n w/\S.wt n w<=167961600000000:=mg hr (bZ (λc hc=>(hr.cs c hc).1) (w:Int))
theorem Eu {n:Net}(hr:NR n)(e:List Int):∀x∈S.a8 n e,0<=x/\x<=167961600000000:=by
 intro x hx;obtain ⟨w,-,rfl⟩:=List.mem_map.1 hx;unfold S.bp
 split
 ·omega
 ·exact qa hr w
theorem C7 {n:Net}{e:List Int}{w:Nat}(h:w<S.ah n):(S.a8 n e)[w]?=some (if S.pe n e w then S.wt n w else 0):=by simp only[S.a8,S.aI,List.getElem?_map,List.getElem?_range h,Option.map_some,S.bp];cases c:S.pe n e w<;>simp[h,c]
def S.be (n:Net)(e vars l:List Int):Int:=if S.aR n e vars=0 then (if S.aG n vars l then 0 else 2) else S.aR n e vars
def S.bi (n:Net)(e vars l:List Int):Int:=if S.be n e vars l=0 then S.bD n vars (S.ax n vars) (S.a8 n e) l else 0
theorem E_ {d k1 k2 k3:Nat}{P1 P2 P3:Nat->Prop}{g:G}{n:Net}{e vars l:List Int}{v w u z:AV}(hd:0<d)(hm:Agg n NoP 0 g.h v)(he:SlR P1 k1 g.h e w)(hv:SlR P2 k2 g.h vars u)(hk2:k2<=d)(hl:SlR P3 k3 g.h l z) :
  ax C0 d N.aw [v,w,u,z] g=.val (.tup [.int .i64 (S.bi n e vars l),.int .i64 (S.be n e vars l)]):=by
 have key:∃r,ax C0 d N.aw [v,w,u,z] g=.val r/\wL (One (S.bi n e vars l)) (One (S.be n e vars l)) NoP 0 .nil r:=by
  obtain ⟨b,rows,rfl,e1,hm',hN,r1,r2,r3,r4⟩:=kY d hm;obtain ⟨w',e2,hw'⟩:=ch he d;obtain ⟨u',e3,hu'⟩:=ch hv d;obtain ⟨z',e4,hz'⟩:=ch hl d;rw[qO];refine br sV (xs:=[.agg [.int .i64 n.grain,b],w',u',z']) (by simp only[aE,e1,e2,e3,e4]) (by simp[jB]) (iG (m:=1) (be _) (be _) (by decide) (by decide)) (by decide) hd ?_;simp only[sz,simprocAttr,jB,lF];refine gi (yY (n:=n) (e:=e) (vars:=vars) (kv:=max k2 d) (by omega) (hm' _) (hw' _) (hu' _)) λr hr=>?_;rcases GJ hr with ⟨c,p,rfl,hp⟩ | ⟨c,rfl⟩
  ·obtain ⟨⟨hr,hev⟩,hpl⟩:=AR.1 c;have hl8:=hr.l2;have hpn:=dK hpl (by omega);have hol:(S.ax n vars).length<=n.nodes.length:=vY _ _;have kb:=λg:G=>Gk (d:=d+1) (g:=g) (by omega) hp hpl (hz' g.h)
   by_cases c2:S.aG n vars l=true
   ·have hbl:l.length<=vars.length:=by rw[S.aG,Bool.and_eq_true] at c2;exact of_decide_eq_true c2.1
    have ko:=λg:G=>Fm (d:=d+1) (g:=g) (by omega) hr hp (bp hpl) (by omega) rn (by omega) (nO _ _ _) (Eu hr e) (hz' g.h) hbl;have hE:S.be n e vars l=0:=by rw[S.be,if_pos c,if_pos c2]
    have hV:S.bi n e vars l=S.bD n vars (S.ax n vars) (S.a8 n e) l:=by rw[S.bi,if_pos hE]
    simp only[sz,simprocAttr,kb,c2,ko];rw[hE,hV];exact ⟨λ_=>True,_,_,rfl,aF.2 rfl,aF.2 rfl⟩
   ·have hE:S.be n e vars l=2:=by rw[S.be,if_pos c,if_neg c2]
    have hV:S.bi n e vars l=0:=by rw[S.bi,hE];rfl
    rw[Bool.not_eq_true] at c2;simp only[sz,simprocAttr,kb,c2];rw[hE,hV];exact ⟨λ_=>True,_,_,rfl,aF.2 rfl,aF.2 rfl⟩
  ·have hE:S.be n e vars l=S.aR n e vars:=by rw[S.be,if_neg c]
   have hV:S.bi n e vars l=0:=by rw[S.bi,hE,if_neg c]
   simp only[sz,simprocAttr,c];rw[hE,hV];exact ⟨λ_=>True,_,_,rfl,aF.2 rfl,aF.2 rfl⟩
 obtain ⟨r,hr,a,c,rfl,ha,hc⟩:=key;have ha:=aF.1 ha;have hc:=aF.1 hc;injection ha with ha;injection hc with hc;rw[hr,ha,hc]
def Sl1 (v:AV):Prop:=∀t s rows,v=.tsl t s rows->s=1
theorem Hn {P:Nat->Prop}{k d n:Nat}{h:H}{l:List Int}{v v':AV}(r:SlR P k h l v)(h1:Sl1 v)(e:Hx.snap h d (n+1) v=some v'):Sl1 v':=by
 have r:=r.2;unfold SlV at r
 split at r
 ·injection e with e;subst e;exact λ_ _ _ h=>by cases h
 ·injection e with e;subst e;exact λ_ _ _ h=>by cases h
 ·injection e with e;subst e;exact h1
 ·rename_i id ep off len lim;obtain ⟨-,rows,q2,-⟩:=r;simp only[ae] at q2;simp only[Hx.snap] at e
  split at q2
  ·rename_i sz' rows' ep' lo fz hg;rw[hg] at e;rw[aa] at q2
   split at q2
   ·rename_i hc;simp only[Bool.and_eq_true] at hc;obtain ⟨⟨hc1,hc2⟩,hc3⟩:=hc;have e1:=Nat.eq_of_beq_eq_true hc2;dsimp only at e;rw[aa] at e
    split at e
    ·split at e
     ·split at e
      ·injection e with e;subst e;intro t s rows h;injection h with a1 a2 a3;have:Rp.sz Int=1:=rfl;omega
      ·cases e
     ·cases e
    ·cases e
   ·cases q2
  ·cases q2
 ·exact r.elim
def Kp (l:List Int):VS:=λP k h v=>SlR P k h l v/\Sl1 v
theorem Hr (l:List Int):Snb (Kp l) 0:=by
 refine ⟨λ{P k h v n} d r hn=>?_,λ{k h v n} r hn=>?_⟩
 ·obtain ⟨r,r1⟩:=r;obtain ⟨v',e,r'⟩:=(be l).snap d (show One l P k h v from ⟨v,rfl,r⟩) hn;obtain ⟨n,rfl⟩:∃q,n=q+1:=⟨n - 1,by omega⟩;obtain ⟨w,hw,q⟩:=r';injection hw with hw;subst hw;exact ⟨v',e,q,Hn r r1 e⟩
 ·exact (be l).tag (show One l NoP k h v from ⟨v,rfl,r.1⟩) hn
theorem HA {l:List Int}{i:Int}(h:∀y∈l,0<=y)(hi:i.toNat<l.length):S.a_ l i 0=l:=by unfold S.a_;have:=h _ (List.getElem_mem hi);rw[List.getElem?_eq_getElem hi,Option.getD_some,Int.max_eq_left this,List.set_getElem_self]
theorem Ab {f:Nat->Int}{N W:Nat}{c p:Nat->Bool}{x y:Nat->Int}{M:Int}(hf:∀j,j<W->0<=f j/\f j<(N:Int))(hx:∀j,j<W->0<=x j/\x j<=M)(hxy:∀j,j<W->x j=if p j then y j else 0):∀j,j<=W->S.ap f N c x j=S.ap f N (λw=>p w&&c w) y j
 | 0,_=>rfl
 | j+1,h=>by
  have ih:=Ab (c:=c) hf hx hxy j (by omega);rw[S.ap,S.ap,<-ih,hxy j (by omega)];cases hp:p j with
  | true=>simp
  | false =>
   have hb:=(qf (c:=c) hf hx j (by omega)).1;have:=hf j (by omega);cases c j with
   | true=>simpa using HA hb (by rw[fV];omega)
   | false=>simp
def S.aU (n:Net)(e vars oth l:List Int):Int:=(S.ap (S.aT n oth) (S.aA n oth) (λw=>S.pe n e w&&S.aO n vars l w) (S.wt n) (S.ah n)).sum
theorem ui {n:Net}(hr:NR n){oth:List Int}(hpo:∀x∈oth,0<=x/\x<(n.nodes.length:Int))(j:Nat):0<=S.aT n oth j/\S.aT n oth j<(S.aA n oth:Int):=by have hpb:=a8 (ps:=oth) hr.cs (λp hpm=>by rw[aw];exact hpo p hpm);have hin:=bZ (λc hc=>(hr.cs c hc).1) (j:Int);have hf:=bA hpb (cC hin (λp hpm=>by rw[aw];exact hpo p hpm));have h1:=(bz hpb).1;unfold S.aA;unfold S.aT;omega
theorem HT {n:Net}(hr:NR n)(e vars l:List Int):S.bD n vars (S.ax n vars) (S.a8 n e) l=S.aU n e vars (S.ax n vars) l:=by
 unfold S.bD S.aU;congr 1;refine Ab (M:=167961600000000) (W:=S.ah n) (λj _=>ui hr rn j) (λj hj=>?_) (λj hj=>?_) _ (Nat.le_refl _)
 ·rw[C7 hj];have:=qa hr j;simp only[Option.getD_some]
  split<;>omega
 ·rw[C7 hj];rfl
theorem vM {cs vs:List Int}(hin:InC cs vs)(hc:∀c∈cs,1<=c):∀k,k<=vs.length->(∀(j:Nat) (c:Int),k<=j->cs[j]?=some c->vs[j]?.getD 0=c - 1) ->
  ((S.bB cs (vs.take k++List.replicate (vs.length - k) 0) k).2=true/\InC cs (S.bB cs (vs.take k++List.replicate (vs.length - k) 0) k).1/\S.af cs (S.bB cs (vs.take k++List.replicate (vs.length - k) 0) k).1=S.af cs vs+1) \/
  ((S.bB cs (vs.take k++List.replicate (vs.length - k) 0) k).2=false/\S.af cs vs=S.ae cs - 1)
 | 0,_,h=>.inr ⟨rfl,rU hin.len.symm λi c hi=>h i c (Nat.zero_le _) hi⟩
 | k+1,hk,h=>by
  have hl:=hin.len;obtain ⟨c,hck,-,hcm⟩:=ac (l:=cs) (j:=k) (by omega);obtain ⟨x,hx,hx0,hx1⟩:=hin.get hck;have hg:(vs.take (k+1)++List.replicate (vs.length - (k+1)) 0)[k]?=some x:=by rw[List.getElem?_append_left (by simp;omega),List.getElem?_take_of_lt (by omega),hx]
  rw[S.bB,hg,hck,Option.getD_some,Option.getD_some]
  by_cases q:x+1<c
  ·rw[if_pos q,nV (by omega)];exact .inl ⟨rfl,vN hin hc hx hck (by omega),vq hl.symm hx λj c' hj hc'=>h j c' (by omega) hc'⟩
  ·rw[if_neg q,nW (by omega)];refine vM hin hc k (by omega) λj c' hj hc'=>?_
   by_cases e:j=k
   ·subst e;rw[hck] at hc';injection hc' with hc';rw[hx,Option.getD_some];omega
   ·exact h j c' (by omega) hc'
theorem Ey {cs vs:List Int}(hin:InC cs vs)(hc:∀c∈cs,1<=c):((S.bH cs vs).2=true/\InC cs (S.bH cs vs).1/\S.af cs (S.bH cs vs).1=S.af cs vs+1)\/((S.bH cs vs).2=false/\S.af cs vs=S.ae cs - 1):=by
 have:=vM hin hc vs.length (Nat.le_refl _) λj c hj hcj=>by have:=(List.getElem?_eq_some_iff.1 hcj).1;have:=hin.len;omega
 rwa [List.take_length,Nat.sub_self,List.replicate_zero,List.append_nil] at this
theorem q_ {cs:List Int}(hcs:CsOk cs):∀j:Nat,j<S.nc cs->S.af cs (S.ak cs (j:Int))=(j:Int)
 | 0,_=>by have hc1:=λc hc=>(hcs.b c hc).1;have:=jb hc1 (wJ hc1);rw[m6] at this;rw[show ((0:Nat):Int)=0 from rfl,this,m6]
 | j+1,h=>by
  have hc1:=λc hc=>(hcs.b c hc).1;have ih:=q_ hcs j (by omega);obtain ⟨N1,N2,N3⟩:=hcs.nc;rcases Ey (bZ hc1 (j:Int)) hc1 with ⟨q1,q2,q3⟩ | ⟨q1,q2⟩
  ·have:=jb hc1 q2;rw[q3,ih] at this;rw[show ((j+1:Nat):Int)=(j:Int)+1 from rfl,this,q3,ih]
  ·omega
theorem Gb {f:Nat->Int}{N W:Nat}{c p:Nat->Bool}{x:Nat->Int}{M:Int}(hf:∀j,j<W->0<=f j/\f j<(N:Int))(hx:∀j,j<W->0<=x j/\x j<=M)(hcp:∀j,j<W->c j=true->p j=true):∀j,j<=W->∀i:Nat,(S.ap f N c x j)[i]?.getD 0<=(S.ap f N p x j)[i]?.getD 0
 | 0,_,i=>Int.le_refl _
 | j+1,h,i=>by
  have ih:=Gb hf hx hcp j (by omega) i;have hfj:=hf j (by omega);have hxj:=hx j (by omega);have key:∀(l:List Int),l.length=N->(S.a_ l (f j) (x j))[i]?.getD 0=if (f j).toNat=i then max (l[i]?.getD 0) (x j) else l[i]?.getD 0:=λl hl=>by
   rw[S.a_,List.getElem?_set]
   by_cases e:(f j).toNat=i
   ·subst e;rw[if_pos rfl,if_pos rfl,if_pos (by omega),Option.getD_some]
   ·rw[if_neg e,if_neg e]
  rw[S.ap,S.ap];cases hc:c j with
  | true =>
   rw[hcp j (by omega) hc,if_pos rfl,if_pos rfl,key _ (fV _ _ _ _ _),key _ (fV _ _ _ _ _)]
   split<;>omega
  | false =>
   rw[if_neg (by decide)];cases hp:p j with
   | true =>
    rw[if_pos rfl,key _ (fV _ _ _ _ _)]
    split<;>omega
   | false=>rw[if_neg (by decide)];exact ih
theorem EZ {l m:List Int}(hl:l.length=m.length)(h:∀i:Nat,l[i]?.getD 0<=m[i]?.getD 0):l.sum<=m.sum:=by
 induction l generalizing m with
 | nil=>cases m with
  | nil=>exact Int.le_refl _
  | cons b m=>simp at hl
 | cons a l ih=>cases m with
  | nil=>simp at hl
  | cons b m =>
   have h0:a<=b:=by simpa using h 0
   have:=ih (m:=m) (by simpa using hl) λi=>by simpa using h (i+1)
   rw[List.sum_cons,List.sum_cons];omega
theorem EH {n:Net}(hr:NR n){e vars l l2:List Int}(h:∀w,w<S.ah n->S.aO n vars l w=true->S.aO n vars l2 w=true):S.aU n e vars (S.ax n vars) l<=S.aU n e vars (S.ax n vars) l2:=by unfold S.aU;refine EZ (by rw[fV,fV]) (Gb (W:=S.ah n) (M:=167961600000000) (λj _=>ui hr rn j) (λj _=>qa hr j) (λj hj hc=>?_) _ (Nat.le_refl _));simp only[Bool.and_eq_true] at hc ⊢;exact ⟨hc.1,h j hj hc.2⟩
theorem Fi {n:Net}{vars l:List Int}{x:Int}{w:Nat}(h:S.aO n vars (l++[x]) w=true):S.aO n vars l w=true:=by have h:=of_decide_eq_true h;refine decide_eq_true ?_;have:=congrArg (List.take l.length) h;rwa [List.take_take,List.length_append,Nat.min_eq_left (by omega),List.take_left'  rfl] at this
theorem IA {n:Net}(hr:NR n)(e vars l:List Int):0<=S.aU n e vars (S.ax n vars) l:=by have h:=qf (f:=S.aT n (S.ax n vars)) (N:=S.aA n (S.ax n vars)) (c:=λw=>S.pe n e w&&S.aO n vars l w) (x:=S.wt n) (M:=167961600000000) (W:=S.ah n) (λj _=>ui hr rn j) (λj _=>qa hr j) (S.ah n) (Nat.le_refl _);have:=A3 h.1 0;rw[List.take_zero] at this;exact this.2
theorem Ad {f:Nat->Int}{N W:Nat}{c:Nat->Bool}{x:Nat->Int}{M:Int}(hf:∀j,j<W->0<=f j/\f j<(N:Int))(hx:∀j,j<W->0<=x j/\x j<=M)(hi:∀i j,i<j->j<W->c i=true->c j=true->f i≠f j) :
  ∀j,j<=W->(∀i:Nat,(∀k,k<j->c k=true->f k≠(i:Int))->(S.ap f N c x j)[i]?.getD 0=0)/\(S.ap f N c x j).sum=((List.range j).map λk=>if c k then x k else 0).sum
 | 0,_=>⟨λi _=>by
   rw[S.ap,List.getElem?_replicate]
   split<;>rfl,by simp[S.ap]⟩
 | j+1,h=>by
  obtain ⟨h1,h2⟩:=Ad hf hx hi j (by omega);have hfj:=hf j (by omega);have hxj:=hx j (by omega);have hlt:(f j).toNat<(S.ap f N c x j).length:=by rw[fV];omega
  rw[S.ap,List.range_succ,List.map_append,List.sum_append,<-h2];cases hc:c j with
  | true =>
   have h0:=h1 (f j).toNat λk hk hck=>by have:=hi k j hk (by omega) hck hc;omega
   rw[if_pos rfl];refine ⟨λi hik=>?_,?_⟩
   ·rw[S.a_,List.getElem?_set];have:(f j).toNat≠i:=λe=>hik j (by omega) hc (by omega);rw[if_neg this];exact h1 i λk hk=>hik k (by omega)
   ·rw[S.a_,A1 hlt,h0,Int.max_eq_right hxj.1];simp[hc]
  | false =>
   rw[if_neg (by decide)];exact ⟨λi hik=>h1 i λk hk=>hik k (by omega),by simp[hc]⟩
theorem A0 (n:Net)(p:Nat->Bool):∀j,S.an n p j=((List.range j).map λk=>if p k then S.wt n k else 0).sum
 | 0=>rfl
 | j+1=>by rw[S.an,A0 n p j,List.range_succ,List.map_append,List.sum_append];simp[S.wt]
theorem Iw {n:Net}{vars:List Int}{v:Nat}(hv:v<n.nodes.length):(v:Int)∈vars\/(v:Int)∈S.ax n vars:=by
 by_cases h:(v:Int)∈vars
 ·exact .inl h
 ·exact .inr (List.mem_filter.2 ⟨List.mem_map.2 ⟨v,List.mem_range.2 hv,rfl⟩,by simpa using h⟩)
theorem wc {a b ps:List Int}(h:S.aa a ps=S.aa b ps){v:Nat}(hv:(v:Int)∈ps):a[v]?.getD 0=b[v]?.getD 0:=by obtain ⟨i,hi,he⟩:=List.mem_iff_getElem.1 hv;have:=congrArg (·[i]?) h;simp only[S.aa,List.getElem?_map,List.getElem?_eq_getElem hi,he,Option.map_some,Option.some.injEq] at this;simpa using this
theorem G0 {n:Net}(hr:NR n){e vars l:List Int}(hp:S.au vars (n.nodes.length:Int)=true)(hl:l.length=vars.length) :
  S.aU n e vars (S.ax n vars) l=S.an n (λw=>S.pe n e w&&S.aO n vars l w) (S.ah n):=by
 have hl8:=hr.l2;have hc1:=λc hc=>(hr.cs c hc).1;have hcs:CsOk (S.ac n):=⟨hr.cs,by rw[aw];omega⟩;have hnc:S.nc (S.ac n)=S.ah n:=rfl;rw[A0];unfold S.aU;refine (Ad (W:=S.ah n) (M:=167961600000000) (λj _=>ui hr rn j) (λj _=>qa hr j) (λi j hij hj hi' hj' he=>?_) _ (Nat.le_refl _)).2;simp only[Bool.and_eq_true] at hi' hj';have b1:=of_decide_eq_true hi'.2;have b2:=of_decide_eq_true hj'.2;have ii:=bZ hc1 (i:Int);have ij:=bZ hc1 (j:Int);have vl:∀k:Int,(S.ak (S.ac n) k).length=n.nodes.length:=λk=>by rw[nZ,aw]
 have hpl:∀k:Int,(S.aa (S.ak (S.ac n) k) vars).length=l.length:=λk=>by simp[S.aa,hl]
 rw[<-hpl (i:Int),List.take_length] at b1;rw[<-hpl (j:Int),List.take_length] at b2;have oC:=λk=>cC (bZ hc1 k) (ps:=S.ax n vars) (λp hpm=>by rw[aw];exact rn p hpm);have hpb:=a8 (ps:=S.ax n vars) hr.cs (λp hpm=>by rw[aw];exact rn p hpm);have hpo:S.aa (S.ak (S.ac n) (i:Int)) (S.ax n vars)=S.aa (S.ak (S.ac n) (j:Int)) (S.ax n vars):=by rw[<-jb (λc hc=>(hpb c hc).1) (oC (i:Int)),<-jb (λc hc=>(hpb c hc).1) (oC (j:Int))];exact congrArg _ he
 have hv:S.ak (S.ac n) (i:Int)=S.ak (S.ac n) (j:Int):=by
  refine List.ext_getElem? λv=>?_
  by_cases hvl:v<n.nodes.length
  ·have hg:(S.ak (S.ac n) (i:Int))[v]?.getD 0=(S.ak (S.ac n) (j:Int))[v]?.getD 0:=by
    rcases Iw (vars:=vars) hvl with h | h
    ·exact wc (by rw[b1,b2]) h
    ·exact wc hpo h
   rw[List.getElem?_eq_getElem (by rw[vl];exact hvl),List.getElem?_eq_getElem (by rw[vl];exact hvl)] at hg ⊢;exact congrArg some hg
  ·rw[List.getElem?_eq_none (by rw[vl];omega),List.getElem?_eq_none (by rw[vl];omega)]
 have h1:=q_ hcs i (by rw[hnc];omega);have h2:=q_ hcs j (by rw[hnc];omega);rw[hv,h2] at h1;omega
def S.aH (e vars l:List Int):Nat->List Int
 | 0=>e
 | i+1=>(S.aH e vars l i).set ((vars[i]?.getD 0).toNat) (l[i]?.getD 0)
def S.aS (e vars l:List Int)(i:Nat):Bool:=(List.range i).all λj=>decide (e[(vars[j]?.getD 0).toNat]?.getD 0<0) || decide (e[(vars[j]?.getD 0).toNat]?.getD 0=l[j]?.getD 0)
theorem nM (e vars l:List Int):∀i,(S.aH e vars l i).length=e.length
 | 0=>rfl
 | i+1=>by rw[S.aH,List.length_set,nM]
theorem yT {e vars l:List Int}{k:Int}(hp:S.au vars k=true)(hk:k=(e.length:Int)):∀i,i<=vars.length->(∀(j p:Nat),j<i->vars[j]?=some (p:Int)->(S.aH e vars l i)[p]?=some (l[j]?.getD 0))/\∀p:Nat,(∀j,j<i->vars[j]?≠some (p:Int))->(S.aH e vars l i)[p]?=e[p]?
 | 0,_=>⟨λj p h=>by omega,λp _=>rfl⟩
 | i+1,hi=>by
  obtain ⟨h1,h2⟩:=yT hp hk i (by omega);obtain ⟨y,hy,-,hm⟩:=ac (l:=vars) (j:=i) (by omega);obtain ⟨y0,y1⟩:=bp hp y hm;obtain ⟨q,rfl⟩:=Int.eq_ofNat_of_zero_le y0;refine ⟨λj p hj hjp=>?_,λp hno=>?_⟩
  ·rw[S.aH,hy,Option.getD_some,Int.toNat_natCast,List.getElem?_set]
   by_cases e1:j=i
   ·subst e1;rw[hy] at hjp;injection hjp with hjp;have:q=p:=by omega
    subst this;rw[if_pos rfl,if_pos (by rw[nM];omega)]
   ·have:=sZ hp hjp hy (by omega);rw[if_neg (by omega)];exact h1 j p (by omega) hjp
  ·have hne:q≠p:=λe1=>hno i (by omega) (by rw[hy,e1]);rw[S.aH,hy,Option.getD_some,Int.toNat_natCast,List.getElem?_set,if_neg hne];exact h2 p λj hj=>hno j (by omega)
theorem Gw {e vars l:List Int}{k:Int}{i p:Nat}(hp:S.au vars k=true)(hk:k=(e.length:Int))(hi:vars[i]?=some (p:Int)):(S.aH e vars l i)[p]?=e[p]?:=by have hil:=(List.getElem?_eq_some_iff.1 hi).1;refine (yT hp hk i (by omega)).2 p λj hj h=>?_;have:=sZ hp h hi hj;omega
theorem J0 {n:Net}{e vars l:List Int}(hp:S.au vars (n.nodes.length:Int)=true)(hel:e.length=n.nodes.length)(hl:l.length<=vars.length)(hl0:∀x∈l,0<=x)(ha:S.aS e vars l l.length=true)(w:Nat) :
  S.pe n (S.aH e vars l l.length) w=(S.pe n e w&&S.aO n vars l w):=by
 obtain ⟨h1,h2⟩:=yT (l:=l) hp (by rw[hel]) l.length hl;have hvl:(S.ak (S.ac n) (w:Int)).length=n.nodes.length:=by rw[nZ,aw]
 obtain ⟨vals,hvals⟩:∃vals,vals=S.ak (S.ac n) (w:Int):=⟨_,rfl⟩;have hag:=λj hj=>List.all_eq_true.1 ha j (List.mem_range.2 hj);simp only[Bool.or_eq_true,decide_eq_true_eq] at hag;have hbg:S.aO n vars l w=true↔∀j,j<l.length->vals[(vars[j]?.getD 0).toNat]?.getD 0=l[j]?.getD 0:=by
  rw[S.aO,decide_eq_true_eq,<-hvals];constructor
  ·intro h j hj;have:=congrArg (·[j]?) h;simp only[List.getElem?_take,hj,if_true,S.aa,List.getElem?_map] at this;obtain ⟨y,hy,-,-⟩:=ac (l:=vars) (j:=j) (by omega);rw[hy,Option.map_some] at this;rw[hy,Option.getD_some,<-this];rfl
  ·intro h;refine List.ext_getElem? λj=>?_
   by_cases hj:j<l.length
   ·obtain ⟨y,hy,-,-⟩:=ac (l:=vars) (j:=j) (by omega);have:=h j hj;rw[hy,Option.getD_some] at this;simp only[List.getElem?_take,hj,if_true,S.aa,List.getElem?_map,hy,Option.map_some,this];rw[List.getElem?_eq_getElem hj];rfl
   ·rw[List.getElem?_take,if_neg hj,List.getElem?_eq_none (by omega)]
 have hpe:∀f:List Int,f.length=n.nodes.length->(S.pe n f w=true↔∀i,i<n.nodes.length->f[i]?.getD 0<0\/f[i]?.getD 0=vals[i]?.getD 0):=λf hf=>by rw[S.pe,C5,hf,<-hvals]
 apply Bool.eq_iff_iff.2;rw[Bool.and_eq_true,hpe _ (by rw[nM,hel]),hpe e hel,hbg];have nodeof:∀j,j<l.length->∃p:Nat,vars[j]?=some (p:Int)/\p<n.nodes.length:=λj hj=>by obtain ⟨y,hy,-,hm⟩:=ac (l:=vars) (j:=j) (by omega);obtain ⟨y0,y1⟩:=bp hp y hm;obtain ⟨p,rfl⟩:=Int.eq_ofNat_of_zero_le y0;exact ⟨p,hy,by omega⟩
 constructor
 ·intro h;have hb:∀j,j<l.length->vals[(vars[j]?.getD 0).toNat]?.getD 0=l[j]?.getD 0:=λj hj=>by obtain ⟨p,hy,hpl⟩:=nodeof j hj;have:=h p hpl;rw[h1 j p hj hy,Option.getD_some] at this;have h0:=hl0 (l[j]?.getD 0) (by rw[List.getElem?_eq_getElem hj];exact List.getElem_mem hj);rw[hy,Option.getD_some,Int.toNat_natCast];omega
  refine ⟨λi hi=>?_,hb⟩
  by_cases c:∃j,j<l.length/\vars[j]?=some (i:Int)
  ·obtain ⟨j,hj,hy⟩:=c;have h3:=hag j hj;have h4:=hb j hj;rw[hy,Option.getD_some,Int.toNat_natCast] at h3 h4;omega
  ·have:=h i hi;rwa [h2 i λj hj hy=>c ⟨j,hj,hy⟩] at this
 ·rintro ⟨ha,hb⟩ i hi
  by_cases c:∃j,j<l.length/\vars[j]?=some (i:Int)
  ·obtain ⟨j,hj,hy⟩:=c;have h4:=hb j hj;rw[hy,Option.getD_some,Int.toNat_natCast] at h4;rw[h1 j i hj hy,Option.getD_some];exact .inr h4.symm
  ·rw[h2 i λj hj hy=>c ⟨j,hj,hy⟩];exact ha i hi
theorem EI {n:Net}(hr:NR n){e vars l:List Int}(hp:S.au vars (n.nodes.length:Int)=true)(hel:e.length=n.nodes.length)(hl:l.length<=vars.length)(ha:S.aS e vars l l.length=false):S.aU n e vars (S.ax n vars) l=0:=by
 have hno:∀w,w<S.ah n->(S.pe n e w&&S.aO n vars l w)=false:=λw _=>by rw[Bool.eq_false_iff];intro h;rw[Bool.and_eq_true] at h;rw[Bool.eq_false_iff] at ha;refine ha (List.all_eq_true.2 λj hj=>?_);have hj:=List.mem_range.1 hj;obtain ⟨y,hy,-,hm⟩:=ac (l:=vars) (j:=j) (by omega);obtain ⟨y0,y1⟩:=bp hp y hm;have h1:=C5.1 h.1 y.toNat (by omega);have h2:=congrArg (·[j]?) (of_decide_eq_true h.2);simp only[List.getElem?_take,hj,if_true,S.aa,List.getElem?_map,hy,Option.map_some] at h2;rw[hy,<-h2];simpa using h1
 have key:∀j,j<=S.ah n->S.ap (S.aT n (S.ax n vars)) (S.aA n (S.ax n vars)) (λw=>S.pe n e w&&S.aO n vars l w) (S.wt n) j=List.replicate (S.aA n (S.ax n vars)) 0:=by
  intro j
  induction j with
  | zero=>intro _;rfl
  | succ j ih=>intro hj;rw[S.ap,hno j (by omega),if_neg (by decide),ih (by omega)]
 unfold S.aU;rw[key _ (Nat.le_refl _)];simp
theorem FD {n:Net}{e vars l:List Int}(hp:S.au vars (n.nodes.length:Int)=true)(he:S.aD n e=true)(hb:S.aG n vars l=true):S.aD n (S.aH e vars l l.length)=true:=by
 rw[S.aG,Bool.and_eq_true] at hb;have hl:=of_decide_eq_true hb.1;have hel:=(pg he).1;obtain ⟨h1,h2⟩:=yT (l:=l) hp (by rw[hel]) l.length hl;rw[S.aD,Bool.and_eq_true] at he ⊢;refine ⟨decide_eq_true (by rw[nM,hel]),List.all_eq_true.2 λv hv=>?_⟩;have hv:=List.mem_range.1 hv;rw[nM] at hv;have h3:=List.all_eq_true.1 he.2 v (List.mem_range.2 hv)
 by_cases c:∃j,j<l.length/\vars[j]?=some (v:Int)
 ·obtain ⟨j,hj,hy⟩:=c;have h4:=List.all_eq_true.1 hb.2 j (List.mem_range.2 hj);simp only[S.bj,Bool.and_eq_true,decide_eq_true_eq,S.aa,List.getElem?_map,hy,Option.map_some,Option.getD_some,Int.toNat_natCast] at h4;rw[h1 j v hj hy,Option.getD_some];simp only[Bool.and_eq_true,decide_eq_true_eq];exact ⟨by omega,h4.2⟩
 ·rw[h2 v λj hj hy=>c ⟨j,hj,hy⟩];exact h3
structure BW (x:Node) (J:Nat) (g:G) (V:Ky->AV) (E:Ky->En) (rws:List (List AV)):Prop where
 own:Own g 3 (V (J+1,1)) 1 rws
 e1:E (J+1,1)=.sl 1 rws
 len:rws.length=x.rows.length
 at_:∀(r:Nat) (y:List Int),x.rows[r]?=some y->rws[r]?=some [V (J+1,2+r)]
section
variable {d K J:Nat}{L:List Node}{x:Node}{bx:Cn}{gr Rw:Int}{t:T}{g:G}{V:Ky->AV}{E:Ky->En}{Q:QT}
end
end
end Hx
end
section
namespace Hx
open Go
noncomputable section
def Node.wr (x:Node)(r:Nat)(y:List Int):Node:=⟨x.card,x.parents,x.rows.set r y⟩
section
variable {d K J r:Nat}{L:List Node}{x:Node}{bx:Cn}{gr Rw:Int}{t t':T}{g gb:G}{V:Ky->AV}{E:Ky->En}{Q:QT}{y y':List Int}
structure BR (x:Node) (J r:Nat) (y:List Int) (g:G) (V:Ky->AV) (E:Ky->En) (rws:List (List AV)):Prop where
 wr:ae g.h 1 (V (J+1,1))=some rws
 rl:r<rws.length
 rw_:rws[r]?=some [V (J+1,2+r)]
 ry:t8 (V (J+1,1))=true
 yr:ae g.h 1 (V (J+1,2+r))=some (y.map ci)
 ye:E (J+1,2+r)=.sl 1 (y.map ci)
 yl:y.length<=K
end
end
end Hx
end
section
namespace Hx
open Go
noncomputable section
theorem yq {α:Type} [Rp α]{x:α}{P:Nat->Prop}{cs:List AV}(h:Rp.rp NoP 0 .nil x cs)(h':H):Agg x P 0 h' (.agg cs):=⟨_,rfl,Rp.tree h (Nat.le_refl _)⟩
theorem lO {l:List Int}{n:Int}{i:Nat}:S.aZ l n i=true↔0<=l[i]?.getD 0/\l[i]?.getD 0<n/\(i=0\/l[i - 1]?.getD 0<l[i]?.getD 0):=by simp[S.aZ,and_assoc]
theorem AF {l:List Int}{n m:Int}(h:S.au l n=true)(hn:n<=m):S.au l m=true:=by refine List.all_eq_true.2 λi hi=>?_;have:=lO.1 (List.all_eq_true.1 h i hi);exact lO.2 ⟨this.1,by omega,this.2.2⟩
theorem AG {l:List Int}{j:Nat}(h:S.au l (j:Int)=true):S.au (l++[(j:Int)]) ((j+1:Nat):Int)=true:=by
 refine List.all_eq_true.2 λi hi=>?_;have hi:=List.mem_range.1 hi;rw[List.length_append,List.length_singleton] at hi;rw[lO]
 by_cases c:i<l.length
 ·have:=lO.1 (List.all_eq_true.1 h i (List.mem_range.2 c));rw[List.getElem?_append_left c,List.getElem?_append_left (by omega)];exact ⟨this.1,by omega,this.2.2⟩
 ·have e:i=l.length:=by omega
  subst e;rw[List.getElem?_append_right (Nat.le_refl _),Nat.sub_self,List.getElem?_cons_zero,Option.getD_some];refine ⟨by omega,by omega,?_⟩
  by_cases c0:l.length=0
  ·exact .inl c0
  ·right;rw[List.getElem?_append_left (by omega),List.getElem?_eq_getElem (by omega),Option.getD_some];exact (bp h _ (List.getElem_mem _)).2
def Ko (m:Nat):VS:=λP k h v=>∃l:List Int,S.au l (m:Int)=true/\Kp l P k h v
theorem IV (m:Nat):Snb (Ko m) 0:=jR λl=>Hr l
theorem GI {d m:Nat}{s:UInt8}{g:G}(hd:0<d)(hm:m<=8):∃r,ax C0 d N.a8 [u8v s,.int .i64 (m:Int)] g=.val r/\Ko m NoP 0 .nil r:=by
 rw[sS];refine br u7 (xs:=[u8v s,.int .i64 (m:Int)]) (by simp only[aE,u8v,gR]) (by simp[ma]) (IV m) (by decide) hd ?_;simp only[sz,simprocAttr,ma,mT,mU];refine fg m (by omega) (λj t df g=>df=[]/\St t [(0,u8v s),(1,.int .i64 (m:Int))]/\∃l:List Int,S.au l (j:Int)=true/\Own g 0 (tat t 5) 1 (l.map ci)) ⟨rfl,by simp[St,sx],[],by decide,.inl ⟨by simp[sx],rfl⟩⟩ (by simp[sx]) (by decide)
  (by rintro i t df g v s (rfl | rfl | rfl) ⟨a1,⟨b1,b2,-⟩,c1⟩<;>exact ⟨a1,by simp[St,sx,b1,b2],by simpa [sx] using c1⟩) ?_ ?_ ?_
 ·rintro j t df g hj ⟨rfl,⟨h0,h1,-⟩,l,hl,ho⟩ h6
  by_cases c:j<m
  ·have c1:(j:Int)<(m:Int):=by omega
   have c2:(j:Int)<8:=by omega
   simp only[sz,simprocAttr,h0,h1,h6,c1,c2];exact ⟨by simp[St,sx,h0,h1],l,hl,ho⟩
  ·have c1:¬(j:Int)<(m:Int):=by omega
   simp only[sz,simprocAttr,h0,h1,h6,c1];exact ⟨by simp[St,sx,h0,h1],l,hl,ho⟩
 ·rintro j t df g hj ⟨rfl,⟨h0,h1,-⟩,l,hl,ho⟩ h6;obtain ⟨z1,hz1⟩:=sK s.toNat j;obtain ⟨z2,hz2⟩:=sJ z1 1;have hz2':cy .and (.int .u8 (z1:Int)) (.int .u8 1)=.val (.int .u8 z2):=hz2;have w1:IntKind.wrap .u64 (j:Int)=(j:Int):=sE (by omega) (by omega);have hll:=dK hl (by omega)
  by_cases c:z2=1
  ·simp only[sz,simprocAttr,h0,h6,u8v,w1,hz1,hz2',c];refine cx (ho.fr (g':=_) (by simp<;>omega) (λi hi=>?_)) (new:=[[.int .i64 (j:Int)]]) ?_ (by simp<;>omega) (by simp[aQ]<;>omega) λv5 g5 o5 n5 f5 w5 _=>?_
   ·have:=ho.lt hi;simp[H.get_put];omega
   ·simp[ae,H.get_put];rfl
   simp only[sz,simprocAttr];refine ⟨⟨by simp[St,sx,h0,h1,u8v],_,AG hl,?_⟩,by simp[sx,h6]⟩;simpa [sx,ci] using o5
  ·simp only[sz,simprocAttr,h0,h6,u8v,w1,hz1,hz2',c];exact ⟨by simp[St,sx,h0,h1,u8v],l,AF hl (by omega),ho⟩
 ·rintro t df g ⟨rfl,-,l,hl,ho⟩;have hll:=dK hl (by omega);simp only[kB,sz,simprocAttr,mV];refine ⟨λ_=>True,l,hl,ho.sl (α:=Int) (by omega) (All2.of_map (λa=>aF.2 rfl) _) λ_ _=>trivial,?_⟩;rcases ho with ⟨h,-⟩ | ⟨id,ep,lo,-,-,h,-⟩<;>(rw[h];intro _ _ _ e;cases e)
theorem KV (a b:AV):iz (.cells 2 [[a,b]] 0 false false) 0 0 false 1 1=.val b:=rfl
theorem Ku (a b:AV):iz (.cells 2 [[a,b]] 0 false false) 0 0 true 2 0=.val (.agg [a,b]):=rfl
theorem Ci (g:G):ax C0 1 N.bh [] g=.val (.bool true):=by kernel_rfl
section
variable {α:Type} [DecidableEq α]
def mgt (L:List (α×Int))(k:α):Int:=match L with
 | []=>0
 | (a,v)::r=>if k=a then v else mgt r k
def mcl (kf:α->AV)(L:List (α×Int)):List (AV×AV):=L.map λp=>(kf p.1,.int .i64 p.2)
end
def ik (a:Int):AV:=.int .i64 a
end
end Hx
end
section
namespace Hx
open Go
noncomputable section
structure BeJ (g0:G) (w m b:Int) (h:H):Prop where
 fr:∀i,i<g0.nx->i≠1->i≠5->i≠6->h.get i=g0.h.get i
 h1:h.get 1=.cells 1 [[.int .i64 w]] 0 false false
 h5:h.get 5=.cells 1 [[.int .i64 m]] 0 false false
 h6:h.get 6=.cells 1 [[.int .i64 b]] 0 false false
def LT0 (w z:AV):List (Nat×AV):=[(1,w),(2,z),(3,.hptr 0 0 0 0),(6,.hptr 1 0 0 0),(7,.int .i64 0),(8,.hptr 3 0 0 0),(11,.hptr 4 0 0 0)]
structure TbA (g0:G) (vars:List Int) (K:Int) (w z:AV) (j:Nat) (t:T) (g:G):Prop where
 st:St t (LT0 w z)
 h10:tat t 10=.int .i64 (iA vars j)
 h32:tat t 32=z
 pl:PlI vars K K.toNat j
 nx:g0.nx<=g.nx
 fr:∀i,i<g0.nx->i≠4->g.h.get i=g0.h.get i
 h4:g.h.get 4=.cells 1 [[.int .u64 (S.aq (vars.take j):Int)]] 0 false false
def K3:Nat->Prop:=λk=>k<=2
def LT1 (w z:AV)(p:Nat):List (Nat×AV):=[(1,w),(2,z),(6,.hptr 1 0 0 0),(8,.hptr 3 0 0 0),(11,.hptr 4 0 0 0),(14,.hptr p 0 0 0)]
structure TbH (l cl:List Int) (p:Nat) (V:Nat->AV) (E:Nat->En) (g:G):Prop where
 hp:Hp g 5 K3 V E
 v0:V 0=.hptr p 0 0 0
 e0:E 0=.bx [V 1,V 2,.nils]
 e1:E 1=.sl 1 (l.map ci)
 e2:E 2=.sl 1 (cl.map ci)
structure TbB (g0:G) (cs vars:List Int) (w z:AV) (p j:Nat) (t:T) (g:G):Prop where
 st:St t (LT1 w z p)
 h15:tat t 15=.int .i64 (S.ae (S.aa cs (vars.take j)))
 h57:tat t 57=z
 hd:∃V E,TbH (vars.take j) (S.aa cs (vars.take j)) p V E g
 fr:∀i,i<5->g.h.get i=g0.h.get i
def K4:Nat->Prop:=λk=>k<=3
structure TbW (g0:G) (l cl W:List Int) (p r m:Nat) (V:Nat->AV) (E:Nat->En) (g:G):Prop where
 hp:Hp g 5 K4 V E
 v0:V 0=.hptr p 0 0 0
 e0:E 0=.bx [V 1,V 2,V 3]
 e1:E 1=.sl 1 (l.map ci)
 e2:E 2=.sl 1 (cl.map ci)
 e3:E 3=.sl 1 (W.map ci)
 nw:∀i,eid (V 3)=some i->g0.nx<=i
 fr:∀i,i<g0.nx->i≠p->g.h.get i=g0.h.get i
def S.pk (n:Net)(e vars:List Int)(i:Int)(w:Nat):Bool:=S.pe n e w&&decide (S.af (S.aa (S.ac n) vars) (S.aa (S.ak (S.ac n) (w:Int)) vars)=i)
structure TbJ (g0:G) (n:Net) (e vars:List Int) (m j:Nat) (h:H):Prop where
 fr:∀i,i<g0.nx->i≠m->h.get i=g0.h.get i
 hm:∃L:List (Int×Int),h.get m=.map (mcl ik L)/\∀k,mgt L k=S.an n (S.pk n e vars k) j
set_option maxRecDepth 20000 in
end
end Hx
end
