/- A part of the proof: what the functions of the chapter compute. -/
import Derived.Test.YtcefdmhbbgafiaaHx7
set_option linter.all false
set_option maxHeartbeats 8000000
section
namespace Hx
open Go
noncomputable section
theorem wW:∀{l:List Int} {v:Nat},(∀x∈l,0<=x/\x<64)->((S.Re l).testBit v=true↔(v:Int)∈l):=by
 have key:∀(l:List Int) (s v:Nat),(∀x∈l,0<=x/\x<64)->((l.foldl (λs x=>s ||| S.RN x.toNat) s).testBit v=true↔s.testBit v=true\/(v:Int)∈l):=by
  intro l
  induction l with
  |nil=>intro s v _;simp
  | cons x l ih =>
   intro s v h;have hx:=h x (by simp);rw[VI,ih _ _ λy hy=>h y (by simp[hy]),gR,mV (show x.toNat<64 by omega),Uo,TA,T3];constructor
   ·rintro ((h|h)|h)
    ·exact .inl h
    ·exact .inr (.inl (by omega))
    ·exact .inr (.inr h)
   ·rintro (h|h|h)
    ·exact .inl (.inl h)
    ·exact .inl (.inr (by omega))
    ·exact .inr h
 intro l v h;have:=key l 0 v h;simpa [S.Re] using this
theorem MC{l:List Int}{k:Nat}(hk:k<=64)(h:∀x∈l,0<=x/\x<k):S.Re l<2 ^ k:=by
 have hb:∀i,k<=i->(S.Re l).testBit i=false:=λi hi=>by rw[<-UG,wW λx hx=>by have:=h x hx;omega];intro hm;have:=h _ hm;omega
 exact Nat.lt_pow_two_of_testBit _ λi hi=>hb i hi
structure RdH (n:Net) (b cv sv:AV) (q:Nat) (X:List Int) (Y:List Nat) (g:G):Prop where
 h0:g.h.get 0=We 2 [[.int .i64 n.grain,b]]
 h1:g.h.get 1=We 5 [[.int .i64 0,.nils,.nils,.nils,.nils]]
 hq:g.h.get q=We 5 [[.int .i64 n.grain,b,cv,sv,.nils]]
 hc:Own g 2 cv 1 (X.map ci)
 hs:Own g 2 sv 1 (Y.map cu)
 q2:2<=q
 qn:q<g.nx
 d1:vid cv≠some q
 d2:vid sv≠some q
 d3:∀i,vid cv=some i->vid sv≠some i
theorem RdH.fr{n:Net}{b cv sv:AV}{q:Nat}{X:List Int}{Y:List Nat}{g g':G}(h:RdH n b cv sv q X Y g)(f:Fr g g'):RdH n b cv sv q X Y g' :=
 ⟨by rw[f.2 0 (by have:=h.qn;have:=h.q2;omega),h.h0],by rw[f.2 1 (by have:=h.qn;have:=h.q2;omega),h.h1],by rw[f.2 q h.qn,h.hq],h.hc.step f,h.hs.step f,h.q2,TX h.qn f.1,h.d1,h.d2,h.d3⟩
def S.Td(n:Net)(o:List Int):NwM:=if S.RZ n then (n,S.Q6 n,S.Rj n,o) else (⟨0,[]⟩,[],[],[])
def EE(n:Net):VS:=λP k h v=>∃o:List Int,True/\rK (Agg (S.Td n o)) (One (if S.RZ n then (0:Int) else 50)) P k h v
section
variable {d:Nat}{n:Net}{b cv sv:AV}{q:Nat}{rows:List (List AV)}
def LRd(q:Nat):List (Nat×AV):=[(1,.hptr 0 0 0 0),(2,.hptr 1 0 0 0),(4,.hptr q 0 0 0)]
theorem Qb{t:T}{g:G}(hn:¬NR n)(h1:g.h.get 1=We 5 [[.int .i64 0,.nils,.nils,.nils,.nils]])(t2:tat t 2=.hptr 1 0 0 0)(t3:tat t 3=.int .i64 50) :
  fnQ C0 d nh.res (λv g'=>∃P,EE n P 0 g'.h v) .ret t [] g:=by
 have hf:S.RZ n=false:=by
  cases h:S.RZ n with
  |false=>rfl
  |true=>exact absurd (fN.1 h) hn
 simp only[nh,sx,sy,↓reduceIte,Nat.reduceAdd,Nat.reduceLeDiff,t2,t3,h1];refine⟨λ_=>True,[],trivial,_,_,rfl,⟨_,rfl,?_⟩,?_⟩
 ·rw[S.Td,hf];exact yP.2 ⟨.nils,.nils,.nils,.nils,rfl,⟨by show 0<9223372036854775808;decide,rfl⟩,⟨by show 0<9223372036854775808;decide,rfl⟩,⟨by show 0<9223372036854775808;decide,rfl⟩,⟨by show 0<9223372036854775808;decide,rfl⟩⟩
 ·rw[hf];exact aB.2 rfl
structure Rd0 (n:Net) (b cv sv:AV) (q j:Nat) (t:T) (g:G):Prop where
 st:St t ((48,b)::(5,.int .i64 (S.Q5 ((S.Q6 n).take j)))::LRd q)
 hp:RdH n b cv sv q ((S.Q6 n).take j++List.replicate (n.nodes.length - j) 0) (List.replicate n.nodes.length 0) g
 ok:∀x∈n.nodes.take j,1<=x.card/\x.card<=4
theorem OI{Q:QT}{t:T}{g:G}(hl:n.nodes.length<=8)(hN:SlR NoP 0 .nil n.nodes b)(r1:∀h,ac h 3 b=some rows)(r2:rows.length=n.nodes.length)
  (r3:∀(i:Nat) (x:Node),n.nodes[i]?=some x->∃pa ra,rows[i]?=some [.int .i64 x.card,pa,ra]/\i<rows.length/\SlR NoP 0 .nil x.parents pa/\SlR NoP 0 .nil x.rows ra) (r4:0<n.nodes.length->rR b=true)
  (h0:Rd0 n b cv sv q 0 t g) (h50:tat t 50=.int .i64 0) (h49:tat t 49=.int .i64 (n.nodes.length:Int))
  (bad:∀t g,¬NR n->g.h.get 1=We 5 [[.int .i64 0,.nils,.nils,.nils,.nils]]->tat t 2=.hptr 1 0 0 0->tat t 3=.int .i64 50->Q .ret t [] g)
  (fin:∀t g,Rd0 n b cv sv q n.nodes.length t g->Q (.exit 0) t [] g):wpL (wp C0 d none o8) Q t [] g:=by
 simp only[o8];refine aq (m:=n.nodes.length) (by omega) (λj t df g=>df=[]/\Rd0 n b cv sv q j t g) ⟨rfl,h0⟩ h50 h49 (by decide)
  (by rintro j t df g v s (rfl|rfl|rfl) ⟨a1,⟨b1,b2,b3,b4,b5,-⟩,c1,c2⟩<;>exact⟨a1,by simp[St,LRd,sx,b1,b2,b3,b4,b5],c1,c2⟩) ?_ ?_
 ·rintro j t df g hj ⟨rfl,⟨⟨h48,h5,h1,h2,h4,-⟩,hp,hok⟩⟩ h50 h49;obtain⟨x,hx,htk,hxm⟩:=af hj;obtain⟨pa,ra,q1,hlt,hpa,hra⟩:=r3 j x hx;have hry:=r4 (by omega);have q2:=hp.q2;have qn:=hp.qn;have hne1:¬(1=g.nx):=by omega
  have hneq:¬(q=g.nx):=by omega
  have f1:Fr g (g.new (We 3 [[.int .i64 0,.nils,.nils]])):=Fr.new _ _;have badn:¬(1<=x.card/\x.card<=4)->¬NR n:=λh hr=>h (hr.card x hxm)
  by_cases c1:x.card<1
  ·simp only[sz,simprocAttr,h2,h48,h50,r1,hlt,q1,hp.h1,hne1,c1];exact bad _ _ (badn (by omega)) (by simp[Q_]) (by simp[sx,h2]) (by simp[sx])
  ·by_cases c2:4<x.card
   ·simp only[sz,simprocAttr,h2,h48,h50,r1,hlt,q1,hp.h1,hne1,c1,c2];exact bad _ _ (badn (by omega)) (by simp[Q_]) (by simp[sx,h2]) (by simp[sx])
   ·have hall:∀y∈n.nodes.take (j+1),1<=y.card/\y.card<=4:=λy hy=>by
     rw[htk]at hy;rcases Uf.1 hy with h|h
     ·exact hok y h
     ·rw[Vk.1 h];omega
    have hcb:∀c∈(S.Q6 n).take (j+1),1<=c/\c<=4:=λc hc=>by rw[S.Q6,<-List.map_take]at hc;obtain⟨y,hy,rfl⟩:=T4.1 hc;exact hall y hy
    have hpb:=ba hcb;have hp4:=bI (a:=((S.Q6 n).take (j+1)).length) (b:=8) (by rw[Un];omega);have h48':(4:Int) ^ 8=65536:=by decide
    have hcj:(S.Q6 n)[j]?=some x.card:=by simp[S.Q6,hx]
    have ets:(S.Q6 n).take (j+1)=(S.Q6 n).take j++[x.card]:=by rw[U6,hcj];rfl
    have e1:S.Q5 ((S.Q6 n).take (j+1))=S.Q5 ((S.Q6 n).take j)*x.card:=by rw[ets];exact cU _ _
    have w1:IntKind.wrap .i64 (S.Q5 ((S.Q6 n).take j)*x.card)=S.Q5 ((S.Q6 n).take (j+1)):=by rw[<-e1,au (by omega) (by omega)]
    have hlj:((S.Q6 n).take j).length=j:=by rw[Un,aY];omega
    have hXr:(((S.Q6 n).take j++List.replicate (n.nodes.length - j) 0).map ci)[j]?=some (ci 0):=by rw[Tt,TB (by omega),hlj,UB,Uh,TE (by omega)];rfl
    have hXl:j<(((S.Q6 n).take j++List.replicate (n.nodes.length - j) 0).map ci).length:=by simp[aY];omega
    have hXs:((S.Q6 n).take j++List.replicate (n.nodes.length - j) 0).set j x.card=(S.Q6 n).take (j+1)++List.replicate (n.nodes.length - (j+1)) 0:=by rw[U8 _ _ (by omega),hlj,UB,ets,show n.nodes.length - j=(n.nodes.length - (j+1))+1 by omega,Uu,Va,UO];rfl
    have hp2:=hp.fr f1;obtain⟨g2,hg2⟩:∃g2,g2=(g.new (We 3 [[.int .i64 0,.nils,.nils]])).put g.nx (We 3 [[.int .i64 x.card,pa,ra]]):=⟨_,rfl⟩;have f2:Fr g g2:=by rw[hg2];exact wR (by simp) λi hi=>by simp[Q_,show ¬i=g.nx by omega]
    have hp3:=hp.fr f2;have f7:g2.h.get g.nx=We 3 [[.int .i64 x.card,pa,ra]]:=by rw[hg2];simp[Q_]
    refine bh (P:=λt' df g'=>df=[]/\g'=g2/\St t' ((48,b)::(5,.int .i64 (S.Q5 ((S.Q6 n).take j)))::LRd q)/\tat t' 6=.int .i64 (j:Int)/\tat t' 7=.hptr g.nx 0 0 0/\tat t' 50=.int .i64 (j:Int)/\tat t' 49=.int .i64 (n.nodes.length:Int)) ?_ ?_
    ·simp only[sz,simprocAttr,h48,h49,h50,r1,hlt,q1];rw[hg2];simp[St,LRd,sx,h1,h2,h4,h5,h48]
    clear h1 h2 h4 h5 h48 h49 h50;rintro t df g3 ⟨rfl,rfl,⟨h48,h5,h1,h2,h4,-⟩,h6,h7,h50,h49⟩;have hcr:=hp3.hc.rows;simp only[sz,simprocAttr,h4,h6,h7,f7,hp3.hq,hcr,hXl,c1,c2];refine bw (v:=cv) (sz:=1) (n:=1) (i:=j) (off:=0) (x:=.int .i64 x.card) (row':=ci x.card) hp3.hc hXr rfl rfl rfl λg4 hu4 n4 f4=>?_;rw[Hs,hXs]at hu4;have f74:g4.h.get g.nx=We 3 [[.int .i64 x.card,pa,ra]]:=by rw[f4 _ λe=>by have:=(hp.hc.lt e).2;omega,f7]
    simp only[sz,simprocAttr,h5,h7,h49,h50,f74,w1];refine⟨by simp[St,LRd,sx,h1,h2,h4,h48],⟨?_,?_,?_,hu4,?_,q2,by rw[n4];exact hp3.qn,hp.d1,hp.d2,hp.d3⟩,hall⟩
    ·rw[f4 0 λe=>by have:=(hp.hc.lt e).1;omega,hp3.h0]
    ·rw[f4 1 λe=>by have:=(hp.hc.lt e).1;omega,hp3.h1]
    ·rw[f4 q hp.d1,hp3.hq]
    ·exact hp3.hs.fr (by omega) λi hi=>f4 i λe=>hp.d3 i e hi
 ·rintro t df g ⟨rfl,h⟩;exact fin t g h
end
end
end Hx
end
section
namespace Hx
open Go
noncomputable section
def ej(ps:List Int)(i:Nat):Int:=if i=0 then -1 else ps[i - 1]?.getD 0
theorem tB{ps:List Int}{i:Nat}{p:Int}(h:ps[i]?=some p):ej ps (i+1)=p:=by unfold ej;rw[TF (by omega),Nat.add_sub_cancel,h];rfl
structure PlI (ps:List Int) (k:Int) (v i:Nat):Prop where
 rng:∀(j:Nat) (p:Int),j<i->ps[j]?=some p->0<=p/\p<k/\p≠(v:Int)
 inc:∀(j:Nat) (p q:Int),j+1<i->ps[j]?=some p->ps[j+1]?=some q->p<q
theorem FY{ps:List Int}{k:Int}{v i:Nat}{p:Int}(h:PlI ps k v i)(hp:ps[i]?=some p)(h1:ej ps i<p)(h2:p<k)(h3:p≠(v:Int)):PlI ps k v (i+1):=by
 refine⟨λj q hj hq=>?_,λj a c hj ha hc=>?_⟩
 ·by_cases e:j=i
  ·subst e;rw[hp]at hq;injection hq with hq;subst hq;refine⟨?_,h2,h3⟩
   by_cases e0:j=0
   ·subst e0;unfold ej at h1;simp at h1;omega
   ·have hj1:j - 1<ps.length:=by have:=(Tu.1 hp).1;omega
    have:=h.rng (j - 1) ps[j - 1] (by omega) (Tn hj1);unfold ej at h1;rw[TF e0,Tn hj1,Tq]at h1;omega
  ·exact h.rng j q (by omega) hq
 ·by_cases e:j+1=i
  ·subst e;rw[hp]at hc;injection hc with hc;subst hc;rw[tB ha]at h1;exact h1
  ·exact h.inc j a c (by omega) ha hc
theorem A2{ps:List Int}{k:Int}{v:Nat}(h:PlI ps k v ps.length):S.Rc ps k=true:=by
 unfold S.Rc;rw[TC];intro i hi;have hi:=TK.1 hi;have hp:ps[i]?=some ps[i]:=Tn hi;obtain⟨r1,r2,-⟩:=h.rng i _ hi hp
 by_cases e:i=0
 ·subst e;simp only[S.RP,hp,Tq];simp;omega
 ·have hq:ps[i - 1]?=some ps[i - 1]:=Tn (by omega);have:=h.inc (i - 1) _ ps[i] (by omega) hq (by rw[show i - 1+1=i by omega];exact hp);simp only[S.RP,hp,hq,Tq];simp;omega
theorem NR.pl{n:Net}(h:NR n){v:Nat}{x:Node}(hx:n.nodes[v]?=some x){i:Nat}{p:Int}(hp:x.parents[i]?=some p):ej x.parents i<p/\p<n.nodes.length/\p≠(v:Int):=by
 have hm:=Tv hx;have hpl:=h.places x hm;have h1:=bZ hpl p (Tv hp);have hl2:=h.l2;refine⟨?_,h1.2,λe=>?_⟩
 ·unfold ej
  split
  ·omega
  ·rename_i e;have hil:=(Tu.1 hp).1;have hq:x.parents[i - 1]?=some x.parents[i - 1]:=Tn (by omega);rw[hq,Tq];exact ks hpl hq (by rw[show i - 1+1=i by omega];exact hp)
 ·have hv:=(Tu.1 hx).1;have ha:=kV.1 h.acyc v (by simp[S.Rj];exact hv);have hpar:Par (S.Rj n) v=S.Re x.parents:=by simp[Par,S.Rj,hx]
  have hb:(Par (S.Rj n) v).testBit v=true:=by rw[hpar,wW λy hy=>by have:=bZ hpl y hy;omega,<-e];exact Tv hp
  have:=um (p:=S.Rj n) (s:=Par (S.Rj n) v) (S.Rj n).length v hb;rw[this]at ha;cases ha
section
variable {d:Nat}{n:Net}{b cv sv:AV}{q:Nat}{rows:List (List AV)}
def S.R6(n:Net)(j:Nat)(m:Nat):List Nat:=(S.Rj n).take j++m::List.replicate (n.nodes.length - (j+1)) 0
structure Rd1 (n:Net) (x:Node) (b cv sv pa:AV) (q j p9 i:Nat) (t:T) (g:G):Prop where
 st:St t ((80,b)::(81,.int .i64 (n.nodes.length:Int))::(82,.int .i64 (j:Int))::(88,pa)::(8,.int .i64 (j:Int))::(9,.hptr p9 0 0 0)::(10,.int .i64 (ej x.parents i))::LRd q)
 hp:RdH n b cv sv q (S.Q6 n) (S.R6 n j (S.Re (x.parents.take i))) g
 ok:PlI x.parents n.nodes.length j i
theorem OJ{Q:QT}{t:T}{g:G}{x:Node}{pa:AV}{j p9:Nat}{c9:List AV}(hl:n.nodes.length<=8)(hN:SlR NoP 0 .nil n.nodes b)(hx:n.nodes[j]?=some x)(hpa:SlR NoP 0 .nil x.parents pa)
  (h0:Rd1 n x b cv sv pa q j p9 0 t g) (h90:tat t 90=.int .i64 0) (h89:tat t 89=.int .i64 (x.parents.length:Int)) (e9:g.h.get p9=We 3 [c9]) (p9s:vid sv≠some p9)
  (bad:∀t g,¬NR n->g.h.get 1=We 5 [[.int .i64 0,.nils,.nils,.nils,.nils]]->tat t 2=.hptr 1 0 0 0->tat t 3=.int .i64 50->Q .ret t [] g)
  (fin:∀t g',Rd1 n x b cv sv pa q j p9 x.parents.length t g'->g'.h.get p9=We 3 [c9]->g.nx<=g'.nx->Q (.exit 4) t [] g'):wpL (wp C0 d none o9) Q t [] g:=by
 have hjl:=(Tu.1 hx).1;have nl:=λg=>hN.len g;have rp:=λh=>(hpa.tree (h':=h) (Tp 0)).ints;have hpsl:(S.Rj n).length=n.nodes.length:=by simp[S.Rj]
 have hypl:((S.Rj n).take j).length=j:=by rw[Un,hpsl];omega
 simp only[o9];refine aq (m:=x.parents.length) hpa.1 (λi t df g'=>df=[]/\Rd1 n x b cv sv pa q j p9 i t g'/\g'.h.get p9=We 3 [c9]/\g.nx<=g'.nx) ⟨rfl,h0,e9,Tp _⟩ h90 h89 (by decide)
  (by rintro i t df g v s (rfl|rfl|rfl) ⟨a1,⟨⟨b1,b2,b3,b4,b5,b6,b7,b8,b9,b10,-⟩,c1,c2⟩,c3⟩<;>exact⟨a1,⟨by simp[St,LRd,sx,b1,b2,b3,b4,b5,b6,b7,b8,b9,b10],c1,c2⟩,c3⟩) ?_ ?_
 ·rintro i t df g hi ⟨rfl,⟨⟨h80,h81,h82,h88,h8,h9,h10,h1,h2,h4,-⟩,hp,hok⟩,e9,en⟩ h90 h89;obtain⟨p,hpi,htk,-⟩:=af hi;have u1:i<(x.parents.map ci).length:=by simpa using hi
  have u2:(x.parents.map ci)[i]?=some (ci p):=by rw[Tt,hpi];rfl
  have badn:¬(ej x.parents i<p/\p<n.nodes.length/\p≠(j:Int))->¬NR n:=λh hr=>h (hr.pl hx hpi);have q2:=hp.q2
  by_cases c1:p<=ej x.parents i
  ·simp only[sz,simprocAttr,h2,h10,h88,h90,rp,u1,u2,ci,hp.h1,c1];exact bad _ _ (badn (by omega)) (by simp[Q_]) (by simp[sx,h2]) (by simp[sx])
  by_cases c2:(n.nodes.length:Int)<=p
  ·simp only[sz,simprocAttr,h2,h4,h10,h88,h90,rp,u1,u2,ci,hp.hq,nl,hp.h1,c1,c2];exact bad _ _ (badn (by omega)) (by simp[Q_]) (by simp[sx,h2]) (by simp[sx])
  by_cases c3:p=(j:Int)
  ·subst c3;simp only[sz,simprocAttr,h2,h4,h8,h10,h88,h90,rp,u1,u2,ci,hp.hq,nl,hp.h1,c1,c2,eq_self];exact bad _ _ (badn (by omega)) (by simp[Q_]) (by simp[sx,h2]) (by simp[sx])
  have hok2:=FY hok hpi (by omega) (by omega) c3;obtain⟨p0,-,-⟩:=hok2.rng i p (by omega) hpi;obtain⟨p,rfl⟩:=Ty p0;have hYr:((S.R6 n j (S.Re (x.parents.take i))).map cu)[j]?=some (cu (S.Re (x.parents.take i))):=by rw[Tt,S.R6,TB (by omega),hypl,UB];rfl
  have hYl:j<((S.R6 n j (S.Re (x.parents.take i))).map cu).length:=by simp[S.R6,hpsl];omega
  have hYs:(S.R6 n j (S.Re (x.parents.take i))).set j (S.Re (x.parents.take (i+1)))=S.R6 n j (S.Re (x.parents.take (i+1))):=by simp only[S.R6];rw[U8 _ _ (by omega),hypl,UB,Va]
  have em:S.Re (x.parents.take (i+1))=S.Re (x.parents.take i) ||| S.RN p:=by rw[htk,xX];rfl
  have hshl:dO .shl (.int .u64 1) (.int .i64 (p:Int))=.val (.int .u64 (S.RN p:Int)):=ij .i64 p;have hor:=zL (S.Re (x.parents.take i)) (S.RN p) (oB _) (qh p);rw[<-em]at hor;have hsr:=hp.hs.rows;have hls:=tB hpi;refine iZ (P:=λt' df g'=>df=[]/\g'=g/\St t' ((80,b)::(81,.int .i64 (n.nodes.length:Int))::(82,.int .i64 (j:Int))::(88,pa)::(8,.int .i64 (j:Int))::(9,.hptr p9 0 0 0)::(10,.int .i64 (ej x.parents i))::LRd q)/\tat t' 12=.int .i64 (p:Int)/\tat t' 90=.int .i64 (i:Int)/\tat t' 89=.int .i64 (x.parents.length:Int)) ?_ ?_
  ·simp only[sz,simprocAttr,h88,h90,rp,u1,u2,ci];simp[St,LRd,sx,h1,h2,h4,h8,h9,h10,h80,h81,h82,h88,h89]
  clear h1 h2 h4 h8 h9 h10 h80 h81 h82 h88 h89 h90;rintro t df g' ⟨rfl,rfl,⟨h80,h81,h82,h88,h8,h9,h10,h1,h2,h4,-⟩,h12,h90,h89⟩;refine iZ (P:=λt' df g''=>df=[]/\g''=g'/\St t' ((80,b)::(81,.int .i64 (n.nodes.length:Int))::(82,.int .i64 (j:Int))::(88,pa)::(8,.int .i64 (j:Int))::(9,.hptr p9 0 0 0)::(10,.int .i64 (ej x.parents i))::LRd q)/\tat t' 12=.int .i64 (p:Int)/\tat t' 90=.int .i64 (i:Int)/\tat t' 89=.int .i64 (x.parents.length:Int)) ?_ ?_
  ·simp only[sz,simprocAttr,h4,h8,h10,h12,h89,h90,hp.hq,nl,c1,c2,c3];simp[St,LRd,sx,h1,h2,h4,h8,h9,h10,h80,h81,h82,h88]
  clear h1 h2 h4 h8 h9 h10 h12 h80 h81 h82 h88 h89 h90;rintro t df g'' ⟨rfl,rfl,⟨h80,h81,h82,h88,h8,h9,h10,h1,h2,h4,-⟩,h12,h90,h89⟩;simp only[sz,simprocAttr,sf,h4,h8,h12,hp.hq,hsr,hYl,hYr,cu,hshl,hor];refine bw (v:=sv) (sz:=1) (n:=1) (i:=j) (off:=0) (x:=.int .u64 (S.Re (x.parents.take (i+1)):Int)) (row':=cu (S.Re (x.parents.take (i+1)))) (hp.hs.fr (by simp;omega) λi _=>by simp) hYr rfl rfl rfl λg4 hu4 n4 f4=>?_;rw[show (((S.R6 n j (S.Re (x.parents.take i))).map cu).set j (cu (S.Re (x.parents.take (i+1)))))=(S.R6 n j (S.Re (x.parents.take (i+1)))).map cu from by rw[<-UJ,hYs]]at hu4;have f4':∀i,vid sv≠some i->g4.h.get i=g''.h.get i:=λi hi=>by rw[f4 i hi];simp
  have n4':g''.nx<=g4.nx:=by rw[n4];simp;omega
  simp only[sx,sy,↓reduceIte,Nat.reduceEqDiff];refine⟨?_,⟨⟨?_,⟨?_,?_,?_,?_,?_,q2,?_,hp.d1,hp.d2,hp.d3⟩,hok2⟩,?_,?_⟩,h90,h89⟩
  ·simp only[TM,TS,TL,TJ];exact aI [false,false,false,false,false,false,false,false,false,true] [] (by simp[All2,ae,aw]) (by decide) (by simp)
  ·rw[hls];simp[St,LRd,sx,h1,h2,h4,h8,h9,h80,h81,h82,h88]
  ·simp only[bumpG_h];rw[f4' 0 λe=>by have:=(hp.hs.lt e).1;omega,hp.h0]
  ·simp only[bumpG_h];rw[f4' 1 λe=>by have:=(hp.hs.lt e).1;omega,hp.h1]
  ·simp only[bumpG_h];rw[f4' q hp.d2,hp.hq]
  ·exact hp.hc.fr (by simp;omega) λi hi=>by simp only[bumpG_h];exact f4' i (hp.d3 i hi)
  ·exact hu4.fr (by simp) λi _=>by simp
  ·have:=hp.qn;simp;omega
  ·rw[f4' p9 p9s,e9]
  ·omega
 ·rintro t df g' ⟨rfl,h,e9,en⟩;exact fin t g' h e9 en
end
end
end Hx
end
section
namespace Hx
open Go
noncomputable section
section
variable {d:Nat}{n:Net}{b cv sv:AV}{q:Nat}{rows:List (List AV)}
structure Rd4 (n:Net) (b cv sv:AV) (q j:Nat) (t:T) (g:G):Prop where
 st:St t ((80,b)::LRd q)
 hp:RdH n b cv sv q (S.Q6 n) ((S.Rj n).take j++List.replicate (n.nodes.length - j) 0) g
 ok:∀x∈n.nodes.take j,S.Rc x.parents n.nodes.length=true/\S.Ss n.grain (S.Q6 n) x=true
theorem O7(n:Net)(j m:Nat)(hm:m<18446744073709551616):∀y∈S.R6 n j m,y<18446744073709551616:=λy hy=>by
 simp only[S.R6,Uf,T3]at hy;rcases hy with hy|rfl|hy
 ·obtain⟨x,-,rfl⟩:=T4.1 (Uc hy);exact oB _
 ·exact hm
 ·rw[(Vj.1 hy).2];decide
theorem Own.natsV{g:G}{b:Nat}{v:AV}{l:List Nat}(h:Own g b v 1 (l.map cu))(hl:l.length<9223372036854775808)(hb:∀y∈l,y<18446744073709551616):SlR (λi=>vid v=some i) 0 g.h l v :=
 Own.sl (α:=Nat) h hl (by
  have:∀l:List Nat,(∀y∈l,y<18446744073709551616)->All2 (Rp.rp (α:=Nat) (λi=>vid v=some i) 0 g.h) l (l.map cu):=λl=>by
   induction l with
   |nil=>intro _;trivial
   |cons y l ih=>intro h;exact⟨HN.2 ⟨rfl,h y (by simp)⟩,ih λz hz=>h z (by simp[hz])⟩
  exact this l hb) λ_ h=>h
theorem Own.nats'{g:G}{b:Nat}{v:AV}{l:List Nat}(h:Own g b v 1 (l.map cu))(hl:l.length<9223372036854775808)(hb:∀y∈l,y<18446744073709551616):SlR (λ_=>True) 0 g.h l v :=
 (h.natsV hl hb).wd λ_ _=>⟨trivial,rfl⟩
theorem Own.intsV{g:G}{b:Nat}{v:AV}{l:List Int}(h:Own g b v 1 (l.map ci))(hl:l.length<9223372036854775808):SlR (λi=>vid v=some i) 0 g.h l v :=
 Own.sl (α:=Int) h hl (Q5 (λa=>aB.2 rfl) _) λ_ h=>h
theorem Ol{n:Net}(h:NR n){x:Node}(hx:x∈n.nodes):S.Ss n.grain (S.Q6 n) x=true:=by simp only[S.Ss,S.R_,Ts,TA,TC];exact⟨h.rows x hx,λr hr=>⟨⟨(h.row x hx r hr).1,(h.row x hx r hr).2.1⟩,(h.row x hx r hr).2.2⟩⟩
theorem OK{Q:QT}{t:T}{g:G}(hd:0<d)(hl:n.nodes.length<=8)(hg1:1<=n.grain/\n.grain<=60)(hcard:∀c∈S.Q6 n,1<=c/\c<=4)(hN:SlR NoP 0 .nil n.nodes b)(r1:∀h,ac h 3 b=some rows)(r2:rows.length=n.nodes.length)
  (r3:∀(i:Nat) (x:Node),n.nodes[i]?=some x->∃pa ra,rows[i]?=some [.int .i64 x.card,pa,ra]/\i<rows.length/\SlR NoP 0 .nil x.parents pa/\SlR NoP 0 .nil x.rows ra) (r4:0<n.nodes.length->rR b=true)
  (h0:Rd4 n b cv sv q 0 t g) (h82:tat t 82=.int .i64 0) (h81:tat t 81=.int .i64 (n.nodes.length:Int))
  (bad:∀t g,¬NR n->g.h.get 1=We 5 [[.int .i64 0,.nils,.nils,.nils,.nils]]->tat t 2=.hptr 1 0 0 0->tat t 3=.int .i64 50->Q .ret t [] g)
  (fin:∀t g,Rd4 n b cv sv q n.nodes.length t g->Q (.exit 2) t [] g):wpL (wp C0 d none o_) Q t [] g:=by
 simp only[o_,uH];refine aq (m:=n.nodes.length) (by omega) (λj t df g=>df=[]/\Rd4 n b cv sv q j t g) ⟨rfl,h0⟩ h82 h81 (by decide)
  (by rintro j t df g v s (rfl|rfl|rfl) ⟨a1,⟨b1,b2,b3,b4,-⟩,c1,c2⟩<;>exact⟨a1,by simp[St,LRd,sx,b1,b2,b3,b4],c1,c2⟩) ?_ ?_
 ·rintro j t df g hj ⟨rfl,⟨⟨h80,h1,h2,h4,-⟩,hp,hok⟩⟩ h82 h81;obtain⟨x,hx,htk,hxm⟩:=af hj;obtain⟨pa,ra,q1,hlt,hpa,hra⟩:=r3 j x hx;have hry:=r4 (by omega);have q2:=hp.q2;have qn:=hp.qn;have hpsl:(S.Rj n).length=n.nodes.length:=by simp[S.Rj]
  have hpj:(S.Rj n)[j]?=some (S.Re x.parents):=by simp[S.Rj,hx]
  obtain⟨g2,hg2⟩:∃g2,g2=(g.new (We 3 [[.int .i64 0,.nils,.nils]])).put g.nx (We 3 [[.int .i64 x.card,pa,ra]]):=⟨_,rfl⟩;have f2:Fr g g2:=by rw[hg2];exact wR (by simp) λi hi=>by simp[Q_,show ¬i=g.nx by omega]
  have n2:g.nx<g2.nx:=by rw[hg2];simp
  have hp3:=hp.fr f2;have f9:g2.h.get g.nx=We 3 [[.int .i64 x.card,pa,ra]]:=by rw[hg2];simp[Q_]
  have eY:(S.Rj n).take j++List.replicate (n.nodes.length - j) 0=S.R6 n j (S.Re (x.parents.take 0)):=by rw[S.R6,show n.nodes.length - j=(n.nodes.length - (j+1))+1 by omega,Uu];rfl
  have eY2:S.R6 n j (S.Re x.parents)=(S.Rj n).take (j+1)++List.replicate (n.nodes.length - (j+1)) 0:=by rw[S.R6,U6,hpj,UO];rfl
  rw[eY]at hp3;refine bh (P:=λt' df g'=>df=[]/\g'=g2/\St t' ((80,b)::(81,.int .i64 (n.nodes.length:Int))::(82,.int .i64 (j:Int))::(8,.int .i64 (j:Int))::(9,.hptr g.nx 0 0 0)::LRd q)) ?_ ?_
  ·simp only[sz,simprocAttr,h80,h82,r1,hlt,q1];rw[hg2];simp[St,LRd,sx,h1,h2,h4,h80,h81,h82]
  clear h1 h2 h4 h80 h81 h82;rintro t df g3 ⟨rfl,rfl,⟨h80,h81,h82,h8,h9,h1,h2,h4,-⟩⟩;have pl:=λg=>hpa.len g;simp only[sz,simprocAttr,h9,f9,pl];refine OJ (j:=j) (p9:=g.nx) (x:=x) (pa:=pa) (b:=b) (cv:=cv) (sv:=sv) (q:=q) hl hN hx hpa ⟨by simp[St,LRd,sx,ej,h1,h2,h4,h8,h9,h80,h81,h82],hp3,⟨λi p hi=>by omega,λi p r hi=>by omega⟩⟩ (by simp[sx]) (by simp[sx]) f9 (λe=>by have:=(hp.hs.lt e).2;omega) ?_ ?_
  ·intro t g hn a1 a2 a3;simp only[sx,sy];exact bad t g hn a1 a2 a3
  ·rintro t g4 ⟨⟨h80,h81,h82,h88,h8,h9,h10,h1,h2,h4,-⟩,hp4,hpl⟩ f94 n4;rw[TO]at hp4;have hplc:=A2 hpl;have hpin:∀p∈x.parents,0<=p/\p<((S.Q6 n).length:Int):=λp hp=>by rw[aY];exact bZ hplc p hp
   have hpll:=ku hplc (by omega);have hyl:(S.R6 n j (S.Re x.parents)).length<=8:=by simp[S.R6,hpsl];omega
   have hm:Agg ((n,S.Q6 n,S.R6 n j (S.Re x.parents),[]):NwM) (λ_=>True) 0 g4.h (.agg [.int .i64 n.grain,b,cv,sv,.nils]) :=
    ⟨_,rfl,yP.2 ⟨b,cv,sv,.nils,rfl,hN.wide (Tp 0),Own.sl (α:=Int) hp4.hc (by rw[aY];omega) (Q5 (λa=>aB.2 rfl) _) λ_ _=>trivial,hp4.hs.nats' (by omega) (O7 n j _ (oB _)),⟨by show 0<9223372036854775808;decide,rfl⟩⟩⟩
   have hxa:Agg x NoP 0 g4.h (.agg [.int .i64 x.card,pa,ra]):=⟨_,rfl,fm.2 ⟨pa,ra,rfl,hpa.tree (Tp 0),hra.tree (Tp 0)⟩⟩;have hfl:=J_ (d:=d) (g:=g4) hd hm hxa ⟨rfl,rfl⟩ hg1 hcard hpin (by omega);have hfl:an C0 d N.Rr [.agg [.int .i64 n.grain,b,cv,sv,.nils],.agg [.int .i64 x.card,pa,ra]] g4=.val (.bool (S.Ss n.grain (S.Q6 n) x)):=hfl;cases hf:S.Ss n.grain (S.Q6 n) x with
   | false =>
    rw[hf]at hfl;simp only[sz,simprocAttr,pd,h2,h4,h9,hp4.hq,hp4.h1,f94,hfl];refine bad _ _ (λhr=>?_) (by simp[Q_]) (by simp[sx,h2]) (by simp[sx]);have:=Ol hr hxm;rw[hf]at this;cases this
   | true =>
    rw[hf]at hfl;simp only[sz,simprocAttr,pd,h4,h9,hp4.hq,f94,hfl];rw[eY2]at hp4;refine⟨⟨by simp[St,LRd,sx,h1,h2,h4,h80],hp4,λy hy=>?_⟩,by simp[h82],by simp[h81]⟩;rw[htk]at hy;rcases Uf.1 hy with h|h
    ·exact hok y h
    ·rw[Vk.1 h];exact⟨hplc,hf⟩
 ·rintro t df g ⟨rfl,h⟩;exact fin t g h
end
theorem NE(n:Net):Snb (EE n) 2:=uj λo=>cO (m:=2) (bz _) (a9 _) (by decide) (by decide)
theorem I_{d:Nat}{g:G}{v:AV}{n:Net}(hd:0<d)(hm:Agg n NoP 0 g.h v):∃r,an C0 d N.RW [v] g=.val r/\EE n NoP 0 .nil r:=by
 obtain⟨b,rows,rfl,e,hm',hN,r1,r2,r3,r4⟩:=qe d hm;rw[BE];refine bg E6 (xs:=[.agg [.int .i64 n.grain,b]]) (by simp only[aK,e]) (by simp[nh]) (NE n) (by decide) hd ?_;have nl:=λg=>hN.len g;simp only[sz,simprocAttr,nh];obtain⟨g0,hg0⟩:∃g0,g0=(G.empty.new (We 2 [[.int .i64 n.grain,b]])).new (We 5 [[.int .i64 0,.nils,.nils,.nils,.nils]]):=⟨_,rfl⟩;rw[<-hg0];have f0:g0.h.get 0=We 2 [[.int .i64 n.grain,b]]:=by rw[hg0];simp[sx,Q_]
 have f1:g0.h.get 1=We 5 [[.int .i64 0,.nils,.nils,.nils,.nils]]:=by rw[hg0];simp[sx]
 have f2:g0.nx=2:=by rw[hg0];simp[sx]
 clear hg0;obtain⟨Qf,hQf⟩:∃Qf,Qf=fnQ C0 (d+1) [SR.cell true 5 2,SR.tm 3] (λv g'=>∃P,EE n P 0 g'.h v):=⟨_,rfl⟩;have bad:∀(t:T) (g:G),¬NR n->g.h.get 1=We 5 [[.int .i64 0,.nils,.nils,.nils,.nils]]->tat t 2=.hptr 1 0 0 0->tat t 3=.int .i64 50->Qf .ret t [] g:=λt g hn a1 a2 a3=>by rw[hQf];exact Qb hn a1 a2 a3
 rw[<-hQf];simp only[wI]
 by_cases c1:n.grain<1
 ·rw[dK];simp only[sz,simprocAttr,f0,f1,c1];exact bad _ _ (λh=>by have:=h.g1;omega) (by simp[Q_]) (by simp[sx]) (by simp[sx])
 by_cases c2:60<n.grain
 ·rw[dK];simp only[sz,simprocAttr,f0,f1,c1,c2];exact bad _ _ (λh=>by have:=h.g2;omega) (by simp[Q_]) (by simp[sx]) (by simp[sx])
 by_cases c3:(n.nodes.length:Int)<1
 ·rw[dK];simp only[sz,simprocAttr,f0,f1,c1,c2,c3,nl];exact bad _ _ (λh=>by have:=h.l1;omega) (by simp[Q_]) (by simp[sx]) (by simp[sx])
 by_cases c4:8<(n.nodes.length:Int)
 ·rw[dK];simp only[sz,simprocAttr,f0,f1,c1,c2,c3,c4,nl];exact bad _ _ (λh=>by have:=h.l2;omega) (by simp[Q_]) (by simp[sx]) (by simp[sx])
 refine iZ (P:=λt' df g'=>df=[]/\g'=g0/\St t' [(1,.hptr 0 0 0 0),(2,.hptr 1 0 0 0)]) ?_ ?_
 ·simp only[sz,simprocAttr,f0,c1,c2,c3,c4,nl];simp[St,sx]
 rintro t df g1 ⟨rfl,rfl,h1,h2,-⟩;have hl8:n.nodes.length<=8:=by omega
 refine iZ (P:=λt' df g'=>df=[]/\∃cv sv q,St t' (LRd q)/\RdH n b cv sv q (List.replicate n.nodes.length 0) (List.replicate n.nodes.length 0) g') ?_ ?_
 ·simp only[sz,simprocAttr,sf,h1,f0,nl];refine lH (b:=2) (n:=n.nodes.length) (by unfold aQ;omega) (by unfold aQ;omega) (by first| (simp;done)| (simp;omega)) λcv g2 hcv n2 fr2 v2 lg2=>?_;simp only[sy]at n2 fr2 v2 lg2;have k0:g2.h.get 0=We 2 [[.int .i64 n.grain,b]]:=by rw[fr2 0 (by omega),f0]
  simp only[sz,simprocAttr,sf,h1,k0,nl,lg2];refine lH (b:=2) (n:=n.nodes.length) (by unfold aQ;omega) (by unfold aQ;omega) (by first| (simp;done)| (simp;omega)) λsv g3 hsv n3 fr3 v3 lg3=>?_;simp only[sy]at n3 fr3 v3 lg3;simp only[sz,simprocAttr,sf,lg3,hcv.cell.1,hcv.cell.2,hsv.cell.1,hsv.cell.2];refine⟨?_,cv,sv,g3.nx+1+1,?_,?_⟩
  ·simp only[TM,TS,TL,TJ,G.new_lg,G.put_lg,setLog_lg];refine aI [false,false,false,false,true,false,false,false,true,false,true,true] [(0,4),(4,5),(4,6),(4,7),(0,8),(1,8),(2,8),(3,8),(4,8),(0,10),(1,10),(2,10),(3,10),(4,10),(5,10),(6,10),(7,10),(8,10),(9,10)] (by simp[All2,ae,aw]) (by decide) ?_;rintro p hp x y hx hy;simp only[T3,TV,U_]at hp;rcases hp with rfl|rfl|rfl|rfl|rfl|rfl|rfl|rfl|rfl|rfl|rfl|rfl|rfl|rfl|rfl|rfl|rfl|rfl|rfl<;>(simp at hx hy;subst hx;subst hy;refine bO rfl rfl rfl rfl ?_ ?_ ?_<;>simp[ae,aw,ak]<;>omega)
  ·simp[St,LRd,sx,h1,h2]
  ·have fa:∀i,i<g2.nx->g3.h.get i=g2.h.get i:=λi hi=>by have:=fr3 i (by omega);simpa using this
   have fb:∀i,i<g1.nx->g2.h.get i=g1.h.get i:=λi hi=>by have:=fr2 i (by omega);simpa using this
   have hcv':Own g2 2 cv 1 ((List.replicate n.nodes.length (0:Int)).map ci):=by simpa [ci] using hcv
   have hsv':Own g3 2 sv 1 ((List.replicate n.nodes.length (0:Nat)).map cu):=by simpa [cu] using hsv
   have hne:∀i,i<g3.nx->¬i=g3.nx+1+1:=λi hi=>by omega
   refine⟨?_,?_,?_,hcv'.fr (by simp;omega) λi hi=>?_,hsv'.fr (by simp;omega) λi hi=>?_,by omega,by first| (simp;done)| (simp;omega),λe=>?_,λe=>?_,λi hi hi2=>?_⟩
   ·simp[Q_];rw[fa 0 (by omega),k0]
   ·simp[Q_];rw[fa 1 (by omega),fb 1 (by omega),f1]
   ·simp[Q_]
   ·have:=bi v2 hi;simp[Q_,hne i (by omega)];rw[fa i (by omega)]
   ·have:=bi v3 hi;simp[Q_,hne i (by omega)]
   ·have:=bi v2 e;omega
   ·have:=bi v3 e;omega
   ·have:=bi v2 hi;have:=bi v3 hi2;omega
 rintro t df g ⟨rfl,cv,sv,q,⟨h1,h2,h4,-⟩,hp⟩;clear f0 f1 f2;have nlen:=nl g;simp only[sz,simprocAttr,h4,hp.hq,nl];refine OI (b:=b) (cv:=cv) (sv:=sv) (q:=q) hl8 hN r1 r2 r3 r4 ⟨by simp[St,LRd,sx,S.Q5,h1,h2,h4],by simpa using hp,by simp⟩ (by simp[sx]) (by simp[sx]) ?_ ?_
 ·intro t g hn a1 a2 a3;simp only[sx];exact bad t g hn a1 a2 a3
 clear h1 h2 h4 hp nlen;rintro t g ⟨⟨h48,h5,h1,h2,h4,-⟩,hp,hok⟩;rw[Ug (by rw[aY];exact Tp _)]at h5 hp;rw[UB,V4,TZ]at hp;rw[TO]at hok;have hcb:∀c∈S.Q6 n,1<=c/\c<=4:=λc hc=>by obtain⟨y,hy,rfl⟩:=T4.1 hc;exact hok y hy
 simp only[sz,simprocAttr,uI]
 by_cases d1:1024<S.Q5 (S.Q6 n)
 ·simp only[sz,simprocAttr,h2,h5,hp.h1,d1];exact bad _ _ (λh=>by have:=h.worlds;omega) (by simp[Q_]) (by simp[sx,h2]) (by simp[sx])
 simp only[sz,simprocAttr,h4,h5,hp.hq,nl,d1];refine OK (b:=b) (cv:=cv) (sv:=sv) (q:=q) (TG d) hl8 (by omega) hcb hN r1 r2 r3 r4 ⟨by simp[St,LRd,sx,h1,h2,h4],by simpa using hp,by simp⟩ (by simp[sx]) (by simp[sx]) ?_ ?_
 ·intro t g hn a1 a2 a3;simp only[sx];exact bad t g hn a1 a2 a3
 clear h1 h2 h4 h48 h5 hp;rintro t g ⟨⟨h80,h1,h2,h4,-⟩,hp,hok2⟩;rw[Ug (by simp[S.Rj])]at hp;rw[UB,V4,TZ]at hp;rw[TO]at hok2;have hpsl:(S.Rj n).length=n.nodes.length:=by simp[S.Rj]
 have hplt:∀y∈S.Rj n,y<18446744073709551616:=λy hy=>by obtain⟨x,-,rfl⟩:=T4.1 hy;exact oB _
 have hplt2:∀y∈S.Rj n,y<2 ^ (S.Rj n).length:=λy hy=>by obtain⟨x,hx,rfl⟩:=T4.1 hy;rw[hpsl];exact MC (by omega) λz hz=>bZ (hok2 x hx).1 z hz
 obtain⟨z,ez,o,-,oz,az,rfl,hoz,haz⟩:=KU (d:=d+1) (g:=g) (TG d) (hp.hs.nats' (by omega) hplt) (by omega) hplt2;have haz:=kT.1 haz;injection haz with haz;subst haz;obtain⟨_,e1,hoz⟩:=hoz;injection e1 with e1;subst e1;cases hac:S.Sk (S.Rj n) with
 | false =>
  rw[hac]at ez;simp only[sz,simprocAttr,pf,h2,h4,hp.hq,hp.h1,ez];exact bad _ _ (λh=>by have:=h.acyc;rw[hac]at this;cases this) (by simp[Q_]) (by simp[sx,h2]) (by simp[sx])
 | true =>
  rw[hac]at ez;have hnr:S.RZ n=true:=fN.2 ⟨by omega,by omega,by omega,by omega,hok,λx hx=>(hok2 x hx).1,by omega,hac,λx hx=>by
   have:=(hok2 x hx).2;simp only[S.Ss,Ts,TA]at this;exact this.1,λx hx r hr=>by
   have:=(hok2 x hx).2;simp only[S.Ss,S.R_,Ts,TA,TC]at this;have:=this.2 r hr;exact⟨this.1.1,this.1.2,this.2⟩⟩
  have q2:=hp.q2;have hq1:¬(1=q):=by omega
  have hq0:¬(q=1):=by omega
  have oc:=hoz.cell;rw[hQf];simp only[sz,simprocAttr,pf,h2,h4,hp.hq,hp.h1,ez,hq1,oc.1,oc.2];have fh:∀i,¬i=1->¬i=q->((g.h.put q (We 5 [[.int .i64 n.grain,b,cv,sv,oz]])).put 1 (We 5 [[.int .i64 n.grain,b,cv,sv,oz]])).get i=g.h.get i:=λi hi hi2=>by simp[Q_,hi,hi2]
  refine⟨λ_=>True,o,trivial,_,_,rfl,⟨_,rfl,?_⟩,?_⟩
  ·rw[S.Td,TE hnr];refine yP.2 ⟨b,cv,sv,oz,rfl,hN.wide (Tp 0),(hp.hc.intsV (by rw[aY];omega)).wd λi hi=>⟨trivial,fh i (by have:=(hp.hc.lt hi).1;omega) λe=>hp.d1 (by rw[hi,e])⟩,(hp.hs.natsV (by omega) hplt).wd λi hi=>⟨trivial,fh i (by have:=(hp.hs.lt hi).1;omega) λe=>hp.d2 (by rw[hi,e])⟩,hoz.wide (Tp 0)⟩
  ·rw[TE hnr];exact aB.2 rfl
end
end Hx
end
section
namespace Hx
open Go
noncomputable section
theorem Hw{n:Net}{o:List Int}(h:S.RZ n=true):S.Td n o=(n,S.Q6 n,S.Rj n,o):=by rw[S.Td,TE h]
theorem yI{n:Net}{P:Nat->Prop}{k:Nat}{h:H}{v:AV}(hv:EE n P k h v) :
  (S.RZ n=false/\∃cs,v=.tup [.agg cs,.int .i64 50]/\cs.length=5) \/
  (S.RZ n=true/\∃b cv sv oz o,v=.tup [.agg [.int .i64 n.grain,b,cv,sv,oz],.int .i64 0]/\SlR P k h n.nodes b/\SlR P k h (S.Q6 n) cv/\SlR P k h (S.Rj n) sv/\SlR P k h (o:List Int) oz):=by
 obtain⟨o,-,a,c,rfl,⟨cs,rfl,hc⟩,hi⟩:=hv;have hi:=aB.1 hi;injection hi with hi;subst hi;cases hn:S.RZ n with
 | false =>
  refine .inl ⟨rfl,cs,rfl,?_⟩;obtain⟨a,b,c,e,rfl,-⟩:=yP.1 hc
  rfl
 | true =>
  rw[Hw hn]at hc;obtain⟨a,b,c,e,rfl,h1,h2,h3,h4⟩:=yP.1 hc;exact .inr ⟨rfl,a,b,c,e,o,rfl,h1,h2,h3,h4⟩
theorem Lw{d k2:Nat}{g:G}{P2:Nat->Prop}{v w:AV}{n:Net}{e:List Int}(hd:0<d)(hm:Agg n NoP 0 g.h v)(he:SlR P2 k2 g.h e w):an C0 d N.RS [v,w] g=.val (.int .i64 (S.RR n e)):=by
 obtain⟨w',e2,hw'⟩:=cX he d;obtain⟨b,rows,rfl,e1,hm',hN,r1,r2,r3,r4⟩:=qe d hm;have n2:=λg=>(hw' .nil).len g;have rb:=λh=>(hw' h).ints;rw[qj];refine oo sE (xs:=[.agg [.int .i64 n.grain,b],w']) (by simp only[aK,e1,e2]) (by simp[gm]) hd ?_;have hle:=he.1;simp only[sz,simprocAttr,gm,jG,jc];obtain⟨z,ez,hz⟩:=I_ (d:=d+1) (g:=G.empty.new (We 2 [[.int .i64 n.grain,b]])) (TG d) (n:=n) (v:=.agg [.int .i64 n.grain,b]) (hm' _);rcases yI hz with⟨hn,cs,rfl,hcs⟩|⟨hn,b',cv,sv,oz,o,rfl,hb,hcv,-,-⟩
 ·have hs:S.RR n e=50:=by rw[S.RR,hn];rfl
  obtain⟨a1,a2,a3,a4,a5,rfl⟩:∃a1 a2 a3 a4 a5,cs=[a1,a2,a3,a4,a5]:=by
   match cs,hcs with
   |[a1,a2,a3,a4,a5],_=>exact⟨a1,a2,a3,a4,a5,rfl⟩
  simp only[sz,simprocAttr,ez,hs,show ¬((50:Int)=0) from by decide]
 ·have nb:=λg=>(hb.tree (h':=g) (Tp 0)).len;have hbl:=hb.1;have rc:=λh=>(hcv.tree (h':=h) (Tp 0)).ints;have hcl:=aY n
  by_cases hl:e.length=n.nodes.length
  ·have hl':(e.length:Int)=(n.nodes.length:Int):=by rw[hl]
   simp only[sz,simprocAttr,ez,n2,hb.len,hl];refine aq (m:=n.nodes.length) (by omega) (λj t df g=>df=[]/\St t [(24,w'),(5,.hptr 1 0 0 0),(4,.int .i64 0)]/\g.h.get 1=We 5 [[.int .i64 n.grain,b',cv,sv,oz]]/\((List.range j).all λv=>decide (-1<=e[v]?.getD 0)&&decide (e[v]?.getD 0<(S.Q6 n)[v]?.getD 0))=true)
    ⟨rfl,by simp[St,sx],by simp[sx],by simp⟩ (by simp[sx]) (by simp[sx]) (by decide) (by rintro j t df g v s (rfl|rfl|rfl)<;>simp[St,sx]) ?_ ?_
   ·rintro j t df g hj ⟨rfl,⟨h24,h5,h4,-⟩,hg,ha⟩ h26 h25;obtain⟨y,hy,-,-⟩:=af (l:=e) (j:=j) (by omega);obtain⟨c,hc,-,-⟩:=af (l:=S.Q6 n) (j:=j) (by omega);have u1:j<(e.map ci).length:=by simp;omega
    have u2:(e.map ci)[j]?=some (ci y):=by rw[Tt,hy];rfl
    have u3:j<((S.Q6 n).map ci).length:=by simp;omega
    have u4:((S.Q6 n).map ci)[j]?=some (ci c):=by rw[Tt,hc];rfl
    have hst:((List.range (j+1)).all λv=>decide (-1<=e[v]?.getD 0)&&decide (e[v]?.getD 0<(S.Q6 n)[v]?.getD 0))=(decide (-1<=y)&&decide (y<c)):=by rw[Uw,List.all_append,ha];simp[hy,hc]
    have bad:(decide (-1<=y)&&decide (y<c))=false->S.RR n e=2:=λh=>by
     have h1:S.RK n e=false:=by
      rw[S.RK];have:((List.range e.length).all λv=>decide (-1<=e[v]?.getD 0)&&decide (e[v]?.getD 0<(S.Q6 n)[v]?.getD 0))=false:=by rw[<-UG,TC];intro h2;have:=h2 j (TK.2 (by omega));rw[hy,hc,Tq,Tq,h]at this;cases this
      rw[this,VC]
     rw[S.RR,hn,h1];rfl
    by_cases c1:y < -1
    ·have:=bad (by simp;omega);simp only[sz,simprocAttr,h24,h26,rb,u1,u2,ci,c1,this]
    ·by_cases c2:c<=y
     ·have:=bad (by simp;omega);simp only[sz,simprocAttr,h24,h5,h26,hg,rb,rc,u1,u2,u3,u4,ci,c1,c2,this]
     ·have h3:((List.range (j+1)).all λv=>decide (-1<=e[v]?.getD 0)&&decide (e[v]?.getD 0<(S.Q6 n)[v]?.getD 0))=true:=by rw[hst];simp;omega
      simp only[sz,simprocAttr,h24,h5,h4,h26,h25,hg,rb,rc,u1,u2,u3,u4,ci,c1,c2,St,h3]
   ·rintro t df g ⟨rfl,⟨h24,h5,h4,-⟩,hg,ha⟩;have h1:S.RK n e=true:=by rw[S.RK,hl,VV rfl,ha];rfl
    have hs:S.RR n e=0:=by rw[S.RR,hn,h1];rfl
    simp only[sz,simprocAttr,jd,hs]
  ·have hl':¬((e.length:Int)=(n.nodes.length:Int)):=by omega
   have h1:S.RK n e=false:=by rw[S.RK,UU hl];rfl
   have hs:S.RR n e=2:=by rw[S.RR,hn,h1];rfl
   simp only[sz,simprocAttr,ez,n2,hb.len,hl',hs]
theorem Oe{d:Nat}{g:G}{x:Int}(hd:0<d):an C0 d N.RL [.int .i64 x] g=.val (.bool false):=by rw[wm];refine eR y8 (xs:=[.int .i64 x]) (by simp only[aK,fg 0]) (by simp[m8]) hd ?_;simp only[sz,simprocAttr,m8]
theorem OX{d:Nat}{g:G}{x:Int}(hd:0<d):an C0 d N.R7 [.int .i64 x] g=.val (.bool false):=by rw[r_];refine eR vq (xs:=[.int .i64 x]) (by simp only[aK,fg 0]) (by simp[jr]) hd ?_;simp only[sz,simprocAttr,jr]
theorem Ow{d:Nat}{g:G}{x y:Int}(hd:0<d):an C0 d N.RK [.int .i64 x,.int .i64 y] g=.val (.bool (decide (x<y))):=by rw[xB];refine eR Ad (xs:=[.int .i64 x,.int .i64 y]) (by simp only[aK,fg 0]) (by simp[oV]) hd ?_;simp only[sz,simprocAttr,oV,Oe (TG d)]
theorem Mh{i j:Nat}(h:i+j<9223372036854775808):dO .shr (.int .u64 ((i+j:Nat):Int)) (.int .u64 1)=.val (.int .u64 (((i+j) / 2:Nat):Int)):=Dt .u64 (i+j) 1 (by omega)
theorem KP{d k:Nat}{g:G}{P:Nat->Prop}{v:AV}{l:List Int}{x:Int}(hd:0<d)(hv:SlR P k g.h l v)(hl:l.length<=1000):∃(p:Nat) (b:Bool),p<=l.length/\an C0 d N.RB [v,.int .i64 x] g=.val (.tup [.int .i64 (p:Int),.bool b]):=by
 obtain⟨v',e,hv'⟩:=cX hv d;have nl:=λg=>(hv' .nil).len g;have rl:=λh=>(hv' h).ints;have key:∃r,an C0 d N.RB [v,.int .i64 x] g=.val r/\(λP k h v=>∃o:Nat×Bool,o.1<=l.length/\rK (One (o.1:Int)) (One o.2) P k h v) NoP 0 .nil r:=by
  rw[jT];refine bg lQ (xs:=[v',.int .i64 x]) (by simp only[aK,e,fg 0]) (by simp[cP]) (uj λo=>cO (m:=1) (a9 _) (a9 _) (by decide) (by decide)) (by decide) hd ?_;simp only[sz,simprocAttr,cP,nl];refine qV (λm t df g=>df=[]/\∃i j:Nat,m=j - i/\i<=j/\j<=l.length/\St t [(0,v'),(1,.int .i64 x),(6,.int .i64 (l.length:Int)),(7,.int .i64 (i:Int)),(8,.int .i64 (j:Int))]) l.length
   ⟨rfl,0,l.length,rfl,Ue _,Tp _,by simp[St,sx]⟩ ?_
  rintro m t df g ⟨rfl,i,j,rfl,hij,hj,h0,h1,h6,h7,h8,-⟩;simp only[sz,simprocAttr,d8,h7,h8];refine aR (λhb=>?_) (λhb=>?_)
  ·have hb:i<j:=by simpa using hb
   have w1:IntKind.wrap .i64 ((i:Int)+(j:Int))=((i+j:Nat):Int):=by rw[au (by omega) (by omega)];simp
   have w2:IntKind.wrap .u64 ((i+j:Nat):Int)=((i+j:Nat):Int):=xu (by omega) (by omega);have hm:(i+j) / 2<l.length:=by omega
   have hm1:i<=(i+j) / 2:=by omega
   have hm2:(i+j) / 2<j:=by omega
   have hsh:=Mh (i:=i) (j:=j) (by omega);generalize (i+j) / 2=c at hm hm1 hm2 hsh;have w3:IntKind.wrap .i64 (c:Int)=(c:Int):=au (by omega) (by omega);have w4:IntKind.wrap .i64 ((c:Int)+1)=((c+1:Nat):Int):=by rw[au (by omega) (by omega)];simp
   obtain⟨y,hy,-,-⟩:=af (l:=l) (j:=c) hm;have u1:c<(l.map ci).length:=by simpa using hm
   have u2:(l.map ci)[c]?=some (ci y):=by rw[Tt,hy];rfl
   simp only[sz,simprocAttr,h0,h1,h7,h8,w1,w2,hsh,w3,rl,u1,u2,ci,Ow (TG d)];refine aR (λhb=>?_) (λhb=>?_)
   ·simp only[sz,simprocAttr,w4];exact⟨j - (c+1),by omega,c+1,j,rfl,by omega,hj,by simp[St,sx,h0,h1,h6,h8]⟩
   ·simp only[sz,simprocAttr];exact⟨c - i,by omega,i,c,rfl,by omega,by omega,by simp[St,sx,h0,h1,h6,h7]⟩
  ·simp only[sz,simprocAttr,d9,h6,h7];have hil:i<=l.length:=by omega
   by_cases c1:i<l.length
   ·obtain⟨y,hy,-,-⟩:=af (l:=l) (j:=i) c1;have u1:i<(l.map ci).length:=by simpa using c1
    have u2:(l.map ci)[i]?=some (ci y):=by rw[Tt,hy];rfl
    have c2:(i:Int)<(l.length:Int):=by omega
    cases hq:decide (y=x) with
    | true =>
     simp only[sz,simprocAttr,h0,h1,h7,c2,rl,u1,u2,ci,hq];exact⟨λ_=>True,(i,true),hil,_,_,rfl,aB.2 rfl,kT.2 rfl⟩
    | false =>
     simp only[sz,simprocAttr,h0,h1,h7,c2,rl,u1,u2,ci,hq,OX (TG d)];exact⟨λ_=>True,(i,false),hil,_,_,rfl,aB.2 rfl,kT.2 rfl⟩
   ·have c2:¬((i:Int)<(l.length:Int)):=by omega
    simp only[sz,simprocAttr,c2];exact⟨λ_=>True,(i,false),hil,_,_,rfl,aB.2 rfl,kT.2 rfl⟩
 obtain⟨r,hr,⟨p,b⟩,hp,a,c,rfl,ha,hc⟩:=key;have ha:=aB.1 ha;have hc:=kT.1 hc;injection ha with ha;injection hc with hc;exact⟨p,b,hp,by rw[hr,ha,hc]⟩
theorem oR(d:Nat)(xs:List AV)(g:G):an C0 d N.Sg xs g=kM d xs g:=by kernel_rfl
def CloneR(b:Nat)(l:List Int)(u:AV)(g:G):Prop:=(l=[]/\u=.nils)\/∃id lo,b<=id/\id<g.nx/\u=.hsl id 0 0 l.length none/\g.h.get id=.cells 1 (l.map ci) 0 lo false/\(0<l.length->lo=true)/\(l.length=0->lo=false)
theorem CloneR.fr{b:Nat}{l:List Int}{u:AV}{g g':G}(h:CloneR b l u g)(f:Fr g g'):CloneR b l u g':=by
 rcases h with h|⟨id,lo,h1,h2,h3,h4,h5⟩
 ·exact .inl h
 ·exact .inr ⟨id,lo,h1,TX h2 f.1,h3,by rw[f.2 id h2,h4],h5⟩
theorem Ds{g:G}{id:Nat}{x:AV}{l:List Int}{K:AV->G->Prop}{D:ADf->Prop}(hx:ac g.h 1 x=some (l.map ci))(h3:g.h.get id=We 1 [])(hid:id<g.nx)(hr:l.length<=1000)
  (k:∀u g',CloneR id l u g'->Fr g g'->K u g'):(cC 1 8 (.hsl id 0 0 0 none) x g).sat K g D:=by
 unfold cC;rw[hx];cases l with
 | nil =>
  simp only[bp,G.get_eq,h3,ax,aa,Uq,Up,T8,Ts,Uv,Vi];rw[TE ⟨by simp,by simp⟩,TE (by simp)];exact k _ _ (.inr ⟨id,false,Tp _,hid,rfl,by simpa using h3,by simp,by simp⟩) (Fr.refl g)
 | cons y l =>
  simp only[bp,G.get_eq,h3,ax,aa,Uq,Up,T8,Ts,UV,Ud,Vi,Tz,T6,Vn,Vw];rw[TE ⟨by omega,by unfold aQ;simp at hr;omega⟩,TF (by omega),TE (by rfl)];refine k _ _ (.inr ⟨g.nx,true,by omega,by simp,by simp,?_,by simp,by simp⟩) (Fr.new g _);simp[aU,a_,bj]
theorem JO{d:Nat}{g:G}{l:List Int}{v:AV}{K:AV->G->Prop}{D:ADf->Prop}(hv:SlR NoP 0 .nil l v)(hl2:l.length<=1000)(kk:∀u g',CloneR g.nx l u g'->Fr g g'->K u g') :
  (an C0 d N.R6 [v] g).sat K g D:=by
 rw[pD];refine mD rP (by simp[dw]) ?_
 by_cases hn:v=.nils
 ·subst hn;have hl:l=[]:=by have h:=hv.2;unfold SlV at h;exact h
  have hne:DI false .slice .nils .nils=.val (.bool true):=rfl;simp only[sz,simprocAttr,dw,hne];exact kk _ _ (.inl ⟨hl,rfl⟩) (Fr.refl g)
 ·have hne:DI false .slice v .nils=.val (.bool false):=by
   have h:=hv.2;unfold SlV at h
   split at h
   ·exact absurd rfl hn
   ·rfl
   ·rfl
   ·exact h.1.elim
   ·exact h.elim
  simp only[sz,simprocAttr,dw,hne];refine Ds (l:=l) ((hv.tree (Tp _)).ints) (by simp[Q_]) (by simp) hl2 λu g1 hu f1=>?_;simp only[sz,simprocAttr];exact kk u g1 hu ((Fr.new g _).trans f1)
theorem tY(ps:List Int)(k:Nat)(v:Int)(hk:k<=ps.length):(S.Ru ps k v).length=ps.length+1:=by simp[S.Ru];omega
theorem Hg{d b p id2 ep2:Nat}{g:G}{l:List Int}{u:AV}{x:Int}{lim:Option Nat}{lo fz:Bool}(hu:CloneR b l u g)(hl:l.length<=1000)(hp:p<=l.length)(h2:g.h.get id2=.cells 1 [ci x] ep2 lo fz)(hne:∀i,vid u=some i->i≠id2)(hb:b<=g.nx) :
  ∃w g',an C0 d N.Sg [u,.int .i64 (p:Int),.hsl id2 ep2 0 1 lim] g=.upd w g'/\Own g' b w 1 ((S.Ru l p x).map ci)/\g.nx<=g'.nx/\(∀i,i<g.nx->vid u≠some i->g'.h.get i=g.h.get i):=by
 rw[oR];have e0:kM d [u,.int .i64 (p:Int),.hsl id2 ep2 0 1 lim] g=zk id2 p u [ci x] g:=by
  show (match g.get id2 with
   |.cells sz2 vrows ep2' _ _=>aA ((((Nat.beq sz2 1&&Nat.beq ep2 ep2')&&Nat.beq 0 0)&&Nat.beq 1 (bL vrows))&&Nat.ble 1 1) (zk id2 p u vrows g) .fail
   |_=>.fail)=_
  rw[G.get_eq,h2];dsimp only;rw[aa,TE];simp[ax]
 rw[e0];have hnew:p=0->l=[]->∃w g',qG p [ci x] g=.upd w g'/\Own g' b w 1 ((S.Ru l p x).map ci)/\g.nx<=g'.nx/\(∀i,i<g.nx->vid u≠some i->g'.h.get i=g.h.get i):=λh1 h2=>by
  subst h1;subst h2;refine⟨.hsl g.nx 0 0 1 none,g.new (.cells 1 [ci x] 0 true false),?_,.inr ⟨g.nx,0,true,hb,by simp,rfl,by simp[aU,S.Ru]⟩,by simp,λi hi _=>?_⟩
  ·unfold qG;rw[aa,TE]
   ·rfl
   ·simp[ax]
  ·rw[G.new_h,ah _ _ _ (by omega)]
 rcases hu with⟨rfl,rfl⟩|⟨id,lo2,h3,h4,rfl,h5,h6,h7⟩
 ·exact hnew (by simpa using hp) rfl
 ·cases l with
  | nil =>
   have e1:zk id2 p (.hsl id 0 0 ([]:List Int).length none) [ci x] g=qG p [ci x] g:=by rw[h7 rfl]at h5;simp only[zk,G.get_eq,h5,Uv];rw[aa,TE];simp
   rw[e1];exact hnew (by simpa using hp) rfl
  | cons y l =>
   rw[h6 (by simp)]at h5;have hid:=hne id rfl;have e1:zk id2 p (.hsl id 0 0 (y::l).length none) [ci x] g=.upd (.hsl id 1 0 ((y::l).length+1) none) (g.put id (.cells 1 ((S.Ru (y::l) p x).map ci) 1 true false)):=by
    simp only[zk,G.get_eq,h5,UV];rw[aa,TE]
    ·simp[ax,a_,bj,S.Ru]
    ·rw[show Nat.beq 1 1=true from rfl];have hb1:Nat.beq id id2=false:=by rw[<-UG,Nat.beq_eq];exact hid
     simp only[hb1,jF,ax,Uq,Ts,T8,Ud,Tz,Vi,true_and,and_true];simp at hp hl
     (repeat' apply To)<;>first|omega| (simp;done)
   rw[e1];refine⟨_,_,rfl,.inr ⟨id,1,true,h3,by simpa using h4,?_,by simp[aU]⟩,by simp,λi hi hv=>?_⟩
   ·rw[Tz,tY _ _ _ hp]
   ·rw[G.put_h,ah _ _ _ (λe=>hv (by rw[e];rfl))]
structure FacH (bx nd:List AV) (w u:AV) (vars cards:List Int) (beh:Int) (q:Nat) (g:G):Prop where
 h0:g.h.get 0=We 5 [bx]
 h1:g.h.get 1=We 3 [[.nils,.nils,.nils]]
 h2:g.h.get 2=We 3 [nd]
 h8:g.h.get q=We 3 [[w,u,.nils]]
 h9:g.h.get (q+1)=We 1 [[.int .i64 beh]]
 hw:Own g 3 w 1 (vars.map ci)
 hu:Own g (q+2) u 1 (cards.map ci)
 wq:∀i,vid w=some i->i<q
 q3:3<=q
 qn:q+2<=g.nx
def oJ(q:Nat):List (Nat×AV):=[(2,.hptr 0 0 0 0),(4,.hptr 1 0 0 0),(5,.hptr 2 0 0 0),(8,.hptr q 0 0 0),(9,.hptr (q+1) 0 0 0)]
structure FacJ (gr:Int) (b cv sv oz:AV) (nd:List AV) (w:AV) (cs vars:List Int) (pl q j:Nat) (t:T) (g:G):Prop where
 st:St t ((38,w)::(6,.int .i64 (pl:Int))::oJ q)
 hp:∃u,FacH [.int .i64 gr,b,cv,sv,oz] nd w u vars (S.Q7 cs (vars.take j)) (S.Q5 (S.Q7 cs ((vars.take j).drop (pl+1)))) q g
theorem Aa{l:List Int}{j k:Nat}{p:Int}(hp:l.take (j+1)=l.take j++[p])(hj:j<l.length)(h:k<j):(l.take (j+1)).drop (k+1)=(l.take j).drop (k+1)++[p]:=by rw[hp,List.drop_append_of_le_length (by simp;omega)]
theorem z_{l:List Int}{j k:Nat}(h:j<=k):(l.take (j+1)).drop (k+1)=(l.take j).drop (k+1):=by rw[Ve (by simp;omega),Ve (by simp;omega)]
theorem PY{d pl q:Nat}{gr:Int}{b cv sv oz w:AV}{nd:List AV}{cs vars:List Int}{Q:QT}{t:T}{g:G}(rc:∀h,ac h 1 cv=some (cs.map ci))(hvl:vars.length<=16)(hvp:∀p∈vars,0<=p/\p<cs.length)(hcb:∀c∈cs,1<=c/\c<=4)(hpl:pl<=1000)
  (h0:FacJ gr b cv sv oz nd w cs vars pl q 0 t g) (h40:tat t 40=.int .i64 0) (h39:tat t 39=.int .i64 (vars.length:Int))
  (fin:∀t g,FacJ gr b cv sv oz nd w cs vars pl q vars.length t g->Q (.exit 0) t [] g):wpL (wp C0 d none dT) Q t [] g:=by
 simp only[dT,ir];refine aq (m:=vars.length) (by omega) (λj t df g=>df=[]/\FacJ gr b cv sv oz nd w cs vars pl q j t g) ⟨rfl,h0⟩ h40 h39 (by decide)
  (by rintro j t df g v s (rfl|rfl|rfl) ⟨a1,⟨b1,b2,b3,b4,b5,b6,b7,-⟩,c1⟩<;>exact⟨a1,by simp[St,oJ,sx,b1,b2,b3,b4,b5,b6,b7],c1⟩) ?_ ?_
 ·rintro j t df g hj ⟨rfl,⟨h38,h6,h2,h4,h5,h8,h9,-⟩,u,hp⟩ h40 h39;obtain⟨p,hpj,htk,hpm⟩:=af hj;obtain⟨hp0,hpc⟩:=hvp p hpm;obtain⟨pn,rfl⟩:=Ty hp0;have hpn:pn<cs.length:=by omega
  have hcp:cs[pn]?=some cs[pn]:=Tn hpn;have hcb1:=hcb _ (TW hpn);generalize cs[pn]=c at hcp hcb1;have u1:j<(vars.map ci).length:=by simpa using hj
  have u2:(vars.map ci)[j]?=some (ci (pn:Int)):=by rw[Tt,hpj];rfl
  have u3:pn<(cs.map ci).length:=by simpa using hpn
  have u4:(cs.map ci)[pn]?=some (ci c):=by rw[Tt,hcp];rfl
  have rw_:=hp.hw.rows;have q3:=hp.q3;have qn:=hp.qn;have epc:S.Q7 cs (vars.take (j+1))=S.Q7 cs (vars.take j)++[c]:=by rw[htk,bU];simp[S.Q7,hcp]
  have hle:(S.Q7 cs (vars.take j)).length<=16:=by simp[S.Q7];omega
  have nq1:¬q=q+1:=by omega
  have nq2:¬q+1=q:=by omega
  refine bh (P:=λt' df g'=>df=[]/\g'=g/\St t' ((40,.int .i64 (j:Int))::(39,.int .i64 (vars.length:Int))::(10,.int .i64 (j:Int))::(11,.int .i64 (pn:Int))::(38,w)::(6,.int .i64 (pl:Int))::oJ q)) ?_ ?_
  ·simp only[sz,simprocAttr,h38,h40,rw_,u1,u2,ci];simp[St,oJ,sx,h38,h6,h2,h4,h5,h8,h9,h40,h39]
  clear h38 h6 h2 h4 h5 h8 h9 h40 h39;rintro t df g1 ⟨rfl,rfl,⟨h40,h39,h10,h11,h38,h6,h2,h4,h5,h8,h9,-⟩⟩;refine iZ (P:=λt' df g'=>df=[]/\St t' ((40,.int .i64 (j:Int))::(39,.int .i64 (vars.length:Int))::(10,.int .i64 (j:Int))::(11,.int .i64 (pn:Int))::(38,w)::(6,.int .i64 (pl:Int))::oJ q) /\
   ∃u,FacH [.int .i64 gr,b,cv,sv,oz] nd w u vars (S.Q7 cs (vars.take (j+1))) (S.Q5 (S.Q7 cs ((vars.take j).drop (pl+1)))) q g') ?_ ?_
  ·simp only[sz,simprocAttr,sf,h8,h2,h11,hp.h8,hp.h0,rc,u3,u4,ci];refine aT (b:=q+2) (rows:=(S.Q7 cs (vars.take j)).map ci) (new:=[[.int .i64 c]]) (hp.hu.fr (by simp;omega) λi hi=>?_) (by simp[sx,sy]) (by simp;omega) (by unfold aQ;simp;omega) λu' ga hu' n1 f1 vid1 lg1=>?_
   ·have:=(hp.hu.lt hi).2;simp[Q_];omega
   simp only[sx,sy]at n1 f1 vid1 lg1;have hq8:ga.h.get q=We 3 [[w,u,.nils]]:=by rw[f1 q (by omega) (λe=>by have:=(hp.hu.lt e).1;omega),TF (by omega),hp.h8]
   simp only[sz,simprocAttr,sf,h8,hq8,hu'.cell.1,hu'.cell.2];refine⟨?_,?_,u',?_⟩
   ·simp only[TM,TS,TL,TJ];refine aI [false,false,false,false,false,false,false,true,true,false,true] [(0,7),(1,7)] (by simp[All2,ae,aw]) (by decide) ?_;rintro p hp' x y hx hy;simp only[T3,TV,U_]at hp';rcases hp' with rfl|rfl<;>(simp at hx hy;subst hx;subst hy;refine bO rfl rfl rfl rfl ?_ ?_ ?_<;>simp[ae,aw,ak]<;>omega)
   ·simp[St,oJ,sx,h38,h6,h2,h4,h5,h8,h9,h40,h39,h10,h11]
   ·have keep:∀i,i<q+2->i≠q->(ga.h.put q (We 3 [[w,u',.nils]])).get i=g1.h.get i:=λi hi hne=>by simp only[Q_,TF hne];rw[f1 i (by omega) (λe=>by have:=(hp.hu.lt e).1;omega),TF (by omega)]
    refine⟨(keep 0 (by omega) (by omega)).trans hp.h0,(keep 1 (by omega) (by omega)).trans hp.h1,(keep 2 (by omega) (by omega)).trans hp.h2,by simp[Q_],(keep (q+1) (by omega) (by omega)).trans hp.h9,hp.hw.fr (by simp;omega) λi hi=>keep i (by have:=hp.wq i hi;omega) (by have:=hp.wq i hi;omega),?_,hp.wq,q3,by simp;omega⟩;rw[epc,Ub];exact hu'.fr (by simp;omega) λi hi=>by have:=(hu'.lt hi).1;simp[Q_,show ¬i=q by omega]
  clear hp qn rw_ h40 h39 h10 h11 h38 h6 h2 h4 h5 h8 h9;rintro t df g ⟨rfl,⟨h40,h39,h10,h11,h38,h6,h2,h4,h5,h8,h9,-⟩,u,hp⟩
  by_cases hk:pl<j
  ·have hk':(pl:Int)<(j:Int):=by omega
   have ed:S.Q5 (S.Q7 cs ((vars.take (j+1)).drop (pl+1)))=S.Q5 (S.Q7 cs ((vars.take j).drop (pl+1)))*c:=by rw[Aa htk hj hk,bU,nL];simp[S.Q7,hcp,S.Q5]
   have hpb:=ba (l:=S.Q7 cs ((vars.take (j+1)).drop (pl+1))) (bG hcb λp hp=>hvp p (Uc (Uj hp)));have hp4:=bI (a:=(S.Q7 cs ((vars.take (j+1)).drop (pl+1))).length) (b:=16) (by simp[S.Q7];omega);have h48:(4:Int) ^ 16=4294967296:=by decide
   have w1:IntKind.wrap .i64 (S.Q5 (S.Q7 cs ((vars.take j).drop (pl+1)))*c)=S.Q5 (S.Q7 cs ((vars.take (j+1)).drop (pl+1))):=by rw[<-ed,au (by omega) (by omega)]
   simp only[sz,simprocAttr,sf,h10,h6,hk',h9,hp.h9,h2,hp.h0,h11,rc,u3,u4,ci,w1];refine⟨?_,⟨?_,u,?_⟩,h40,h39⟩
   ·simp only[TM,TS,TL,TJ];exact aI [false,false,false,false,false,false,false,true] [] (by simp[All2,ae,aw]) (by decide) (by simp)
   ·simp[St,oJ,sx,h38,h6,h2,h4,h5,h8,h9]
   ·have qn:=hp.qn;have keep:∀i,i≠q+1->(g.h.put (q+1) (We 1 [[.int .i64 (S.Q5 (S.Q7 cs ((vars.take (j+1)).drop (pl+1))))]])).get i=g.h.get i:=λi hne=>by simp only[Q_,TF hne]
    exact⟨(keep 0 (by omega)).trans hp.h0,(keep 1 (by omega)).trans hp.h1,(keep 2 (by omega)).trans hp.h2,(keep q (by omega)).trans hp.h8,by simp[Q_],hp.hw.fr (by simp;omega) λi hi=>keep i (by have:=hp.wq i hi;omega),hp.hu.fr (by simp;omega) λi hi=>keep i (by have:=(hp.hu.lt hi).1;omega),hp.wq,q3,by simp;omega⟩
  ·have hk':¬((pl:Int)<(j:Int)):=by omega
   have ed:(vars.take (j+1)).drop (pl+1)=(vars.take j).drop (pl+1):=z_ (by omega);simp only[sz,simprocAttr,h10,h6,hk'];refine⟨⟨by simp[St,oJ,sx,h38,h6,h2,h4,h5,h8,h9],u,?_⟩,h40,h39⟩;rw[ed];exact hp
 ·rintro t df g ⟨rfl,h⟩;exact fin t g h
def GH(h:H)(n:Nat):G:=⟨h,n,[]⟩
@[simp] theorem GH_h (h:H) (n:Nat):(GH h n).h=h:=rfl
@[simp] theorem GH_nx (h:H) (n:Nat):(GH h n).nx=n:=rfl
theorem Own.gh{g:G}{b sz i:Nat}{v:AV}{rows:List (List AV)}(h:Own g b v sz rows)(hv:vid v=some i):Own (GH g.h (i+1)) b v sz rows:=by
 rcases h with h|⟨id,ep,lo,h1,h2,rfl,h3⟩
 ·exact .inl h
 ·injection hv with hv;subst hv;exact .inr ⟨id,ep,lo,h1,by simp,rfl,h3⟩
structure FacG (g0:G) (iw:Nat) (W:AV) (rws:List (List Int)) (B C t:Nat) (h:H):Prop where
 fr:∀i,i<g0.nx->i≠iw->h.get i=g0.h.get i
 ow:Own (GH h (iw+1)) 3 W 1 ((S.RX rws B C t).map ci)
theorem FacG.up{g0:G}{iw:Nat}{W:AV}{rws:List (List Int)}{B C t:Nat}{h h':H}(hf:FacG g0 iw W rws B C t h)(hv:vid W=some iw)(hi:iw<g0.nx)(hh:∀i,i<g0.nx->h'.get i=h.get i):FacG g0 iw W rws B C t h' :=
 ⟨λi h1 h2=>by rw[hh i h1,hf.fr i h1 h2],hf.ow.fr (by simp) λi h=>by rw[hv]at h;injection h with h;subst h;exact hh _ hi⟩
structure FacI (g0 g2:G) (iw:Nat) (W z:AV) (r:List Int) (rws:List (List Int)) (B C q j i:Nat) (t:T) (g:G):Prop where
 st:St t ((78,z)::(12,.int .i64 (j:Int))::oJ q)
 hp:FacG g0 iw W rws B C (j*C+i) g.h
 nx:g2.nx<=g.nx
 fr:∀i,g0.nx<=i->i<g2.nx->g.h.get i=g2.h.get i
theorem PZ{d A B C q j iw:Nat}{w u W z:AV}{r:List Int}{rws:List (List Int)}{pa ra:AV}{rd:Option Nat}{Q:QT}{t:T}{g g0 g2:G}(hz:SlR NoP 0 .nil r z)(hr:rws[j]?=some r)(hrl:r.length=C)(hB:0<B)(hA:rws.length=A*B)(hsz:rws.length*C<=1000000)
  (e8:g0.h.get q=We 3 [[w,u,W]]) (e2:g0.h.get 2=We 3 [[.int .i64 (C:Int),pa,ra]]) (e9:g0.h.get (q+1)=We 1 [[.int .i64 (B:Int)]]) (hq:q+1<g0.nx) (hq3:3<=q) (hiw:iw<g0.nx) (hvw:vid W=some iw) (hiq:q+1<iw) (hg2:g0.nx<=g2.nx)
  (h0:FacI g0 g2 iw W z r rws B C q j 0 t g) (h80:tat t 80=.int .i64 0) (h79:tat t 79=.int .i64 (r.length:Int))
  (fin:∀t g,FacI g0 g2 iw W z r rws B C q j r.length t g->Q (.exit 4) t [] g):wpL (wp C0 d rd dU) Q t [] g:=by
 simp only[dU];refine aq (m:=r.length) hz.1 (λi t df g=>df=[]/\FacI g0 g2 iw W z r rws B C q j i t g) ⟨rfl,h0⟩ h80 h79 (by decide)
  (by rintro j t df g v s (rfl|rfl|rfl) ⟨a1,⟨b1,b2,b3,b4,b5,b6,b7,-⟩,c1,c2,c3⟩<;>exact⟨a1,by simp[St,oJ,sx,b1,b2,b3,b4,b5,b6,b7],c1,c2,c3⟩) ?_ ?_
 ·rintro i t df g hi ⟨rfl,⟨h78,h12,h2,h4,h5,h8,h9,-⟩,hp,hnx,hfr⟩ h80 h79;obtain⟨x,hx,-,-⟩:=af hi;have rz:=λh=>(hz.tree (h':=h) (Tp 0)).ints;have u1:i<(r.map ci).length:=by simpa using hi
  have u2:(r.map ci)[i]?=some (ci x):=by rw[Tt,hx];rfl
  have hj:=(Tu.1 hr).1;have hiC:i<C:=by omega
  have hpl:=DV (A:=A) (b:=B) (card:=C) (i:=j) (x:=i) hB (by omega) hiC;rw[<-hA]at hpl;have hst:=J2 (b:=B) (card:=C) (A:=A) (i:=j) (x:=i) hB hA hr hiC hx;have k8:g.h.get q=We 3 [[w,u,W]]:=by rw[hp.fr q (by omega) (by omega),e8]
  have k2:g.h.get 2=We 3 [[.int .i64 (C:Int),pa,ra]]:=by rw[hp.fr 2 (by omega) (by omega),e2]
  have k9:g.h.get (q+1)=We 1 [[.int .i64 (B:Int)]]:=by rw[hp.fr (q+1) (by omega) (by omega),e9]
  have hwr:=hp.ow.rows;rw[GH_h]at hwr;have hjl:j<1000001:=by have:rws.length*1<=rws.length*C:=V5 _ (by omega);omega
  have q1:=OH (x:=j) (y:=B) (by omega) hB;have q2:=OL (x:=j) (y:=B) hB;have l1:j / B*C<=S.RB B C j i:=by unfold S.RB;have:(j / B*C+i)*1<=(j / B*C+i)*B:=V5 _ hB;omega
  have l2:(j / B*C+i)<=S.RB B C j i:=by unfold S.RB;have:(j / B*C+i)*1<=(j / B*C+i)*B:=V5 _ hB;omega
  have l3:(j / B*C+i)*B<=S.RB B C j i:=by unfold S.RB;omega
  have w1:IntKind.wrap .i64 (((j / B:Nat):Int)*(C:Int))=((j / B*C:Nat):Int):=by rw[<-Ut,au (by omega) (by omega)]
  have w2:IntKind.wrap .i64 (((j / B*C:Nat):Int)+(i:Int))=((j / B*C+i:Nat):Int):=by rw[au (by omega) (by omega)];simp
  have w3:IntKind.wrap .i64 (((j / B*C+i:Nat):Int)*(B:Int))=(((j / B*C+i)*B:Nat):Int):=by rw[<-Ut,au (by omega) (by omega)]
  have w4:IntKind.wrap .i64 ((((j / B*C+i)*B:Nat):Int)+((j % B:Nat):Int))=((S.RB B C j i:Nat):Int):=by rw[<-Vq];show IntKind.wrap .i64 ((S.RB B C j i:Nat):Int)=_;rw[au (by omega) (by omega)]
  have hfl:=Fd rws B C (j*C+i);have u3:S.RB B C j i<((S.RX rws B C (j*C+i)).map ci).length:=by rw[Tz,hfl];exact hpl
  have u4:((S.RX rws B C (j*C+i)).map ci)[S.RB B C j i]?=some (((S.RX rws B C (j*C+i)).map ci)[S.RB B C j i]):=Tn u3;have hone:∃y:Int,((S.RX rws B C (j*C+i)).map ci)[S.RB B C j i]=ci y:=⟨_,UN ..⟩;obtain⟨y,hy⟩:=hone;rw[hy]at u4;have hge:g0.nx<=g.nx:=by omega
  refine bh (P:=λt' df g'=>df=[]/\g'=g/\St t' ((80,.int .i64 (i:Int))::(79,.int .i64 (r.length:Int))::(14,.int .i64 (i:Int))::(15,.int .i64 x)::(78,z)::(12,.int .i64 (j:Int))::oJ q)) ?_ ?_
  ·simp only[sz,simprocAttr,h78,h80,rz,u1,u2,ci];simp[St,oJ,sx,h78,h12,h2,h4,h5,h8,h9,h80,h79]
  clear h78 h12 h2 h4 h5 h8 h9 h80 h79;rintro t df g1 ⟨rfl,rfl,⟨h80,h79,h14,h15,h78,h12,h2,h4,h5,h8,h9,-⟩⟩;simp only[sz,simprocAttr,sf,h8,h12,h9,h5,h14,h15,k8,k2,k9,q1,q2,w1,w2,w3,w4,hwr,u3];refine bw (v:=W) (sz:=1) (n:=1) (i:=S.RB B C j i) (off:=0) (x:=.int .i64 x) (row':=ci x) ((hp.ow.fr (g':=g1) (by simp;omega) λi _=>rfl).fr (by simp;omega) λi _=>by simp) u4 rfl rfl rfl λg4 hu4 n4 f4=>?_;rw[<-UJ,hst]at hu4;have f4':∀i,i≠iw->g4.h.get i=g1.h.get i:=λi hi=>by rw[f4 i (by rw[hvw];intro e;injection e with e;exact hi e.symm)];simp
  have n4':g1.nx<=g4.nx:=by rw[n4];simp;omega
  simp only[sx,sy,↓reduceIte,Nat.reduceEqDiff];refine⟨?_,⟨?_,⟨λi h1 h2=>?_,?_⟩,?_,λi h1 h2=>?_⟩,h80,h79⟩
  ·simp only[TM,TS,TL,TJ];exact aI [false,false,false,false,false,false,false,false,false,false,false,false,false,false,false,false,false,false,true] [] (by simp[All2,ae,aw]) (by decide) (by simp)
  ·simp[St,oJ,sx,h78,h12,h2,h4,h5,h8,h9]
  ·simp only[bumpG_h];rw[f4' i h2,hp.fr i h1 h2]
  ·exact hu4.gh hvw
  ·simp;omega
  ·simp only[bumpG_h];rw[f4' i (by omega),hfr i h1 h2]
 ·rintro t df g ⟨rfl,h⟩;exact fin t g h
theorem LL{d A B C q iw:Nat}{w u W pa ra pa' ra':AV}{rws:List (List Int)}{Q:QT}{t:T}{g0:G}(hra:SlR NoP 0 .nil rws ra')(hrl:∀r∈rws,r.length=C)(hB:0<B)(hA:rws.length=A*B)(hsz:rws.length*C<=1000000)
  (h75:tat t 75=.clo N.Q7 [] [.tptr 0 3 [[.int .i64 (C:Int),pa',ra']] 0 0])
  (e8:g0.h.get q=We 3 [[w,u,W]]) (e2:g0.h.get 2=We 3 [[.int .i64 (C:Int),pa,ra]]) (e9:g0.h.get (q+1)=We 1 [[.int .i64 (B:Int)]]) (hq:q+1<g0.nx) (hq3:3<=q) (hiw:iw<g0.nx) (hvw:vid W=some iw) (hiq:q+1<iw)
  (ht:St t (oJ q)) (hW:Own g0 3 W 1 ((List.replicate (rws.length*C) (0:Int)).map ci))
  (fin:∀g',FacG g0 iw W rws B C (rws.length*C) g'.h->g0.nx+2<=g'.nx->g'.h.get g0.nx=.dfr true->Q .norm t [.mark g0.nx] g') :
  wp C0 d none (.rng 105 (.t 75) [76,77] dS dV) Q t [] g0:=by
 obtain⟨h2,h4,h5,h8,h9,-⟩:=ht;refine Gf (c:=(C:Int)) (pa:=pa') hra h75 (by decide) (by decide) (λj h=>FacG g0 iw W rws B C (j*C) h) (λ_=>False) ?_ ?_ ?_ ?_ fin ?_
 ·intro j h h' hh hf;exact hf.up hvw hiw hh
 ·intro h h' _ hf;exact hf
 ·refine⟨λi _ _=>rfl,?_⟩;rw[Nat.zero_mul,J3];exact hW.gh hvw
 ·intro j r z g1 hr hz hf hn;have hrm:=hrl r (Tv hr);simp only[sz,simprocAttr,dS];intro g2 hg2n hg2;have hf2:FacG g0 iw W rws B C (j*C) g2.h:=hf.up hvw hiw λi hi=>hg2 i (by omega);simp only[sz,simprocAttr,dV,hz.len];refine PZ (g2:=g2) (A:=A) (q:=q) (iw:=iw) (w:=w) (u:=u) (W:=W) (z:=z) (r:=r) (rws:=rws) hz hr hrm hB hA hsz e8 e2 e9 hq hq3 hiw hvw hiq (by omega) ⟨by simp[St,oJ,sx,h2,h4,h5,h8,h9],by simpa using hf2,Tp _,λ_ _ _=>rfl⟩ (by simp[sx]) (by simp[sx]) ?_;rintro t g ⟨-,hp,hnx,hfr⟩;simp only[sx,sy,↓reduceIte];refine⟨hnx,hfr,.inl ⟨rfl,?_⟩⟩;rw[hrm,show j*C+C=(j+1)*C by rw[T_,UC]]at hp;exact hp
 ·intro g' hf;exact hf.elim
def S.R7(n:Net)(i:Nat)(x:Node)(p:Nat):Factor:=⟨S.Ru x.parents p (i:Int),S.Q7 (S.Q6 n) (S.Ru x.parents p (i:Int)),S.S1 x.rows (S.Q5 (S.Q7 (S.Q6 n) (x.parents.drop p))).toNat x.card.toNat⟩
def QQ(n:Net)(i:Nat)(x:Node):VS:=λP k h v=>∃p:Nat,p<=x.parents.length/\Agg (S.R7 n i x p) P k h v
theorem Hf{ps:List Int}{k:Nat}{v:Int}(hk:k<=ps.length):(S.Ru ps k v).drop (k+1)=ps.drop k:=by
 have h1:S.Ru ps k v=(ps.take k++[v])++ps.drop k:=by simp[S.Ru]
 rw[h1,List.drop_left' (by simp;omega)]
theorem Own.low{g:G}{b b':Nat}{v:AV}{sz:Nat}{rows:List (List AV)}(h:Own g b v sz rows)(hb:b'<=b):Own g b' v sz rows:=by
 rcases h with h|⟨id,ep,lo,h1,h2⟩
 ·exact .inl h
 ·exact .inr ⟨id,ep,lo,by omega,h2⟩
theorem LP{w:AV}(h:w.cells=[w])(h2:w.isTup=false):jN [.nils,.nils,.nils] [((0,1),w)]=some [w,.nils,.nils]:=by
 simp[jN,h,h2,cT]
 rfl
theorem J5{d i:Nat}{g:G}{v:AV}{n:Net}{x:Node}{o:List Int}(hd:0<d)(hr:NR n)(hm:Agg ((n,S.Q6 n,S.Rj n,o):NwM) NoP 0 g.h v)(hx:n.nodes[i]?=some x) :
  ∃r,an C0 d N.RU [v,.int .i64 (i:Int)] g=.val r/\QQ n i x NoP 0 .nil r:=by
 have e0:=cW d hm;obtain⟨cs,rfl,hc⟩:=hm;obtain⟨b,cv,sv,oz,rfl,hN,hcv,-,-⟩:=yP.1 hc;have hN:SlR NoP 0 .nil n.nodes b:=hN.tree (h':=.nil) (Tp 0);have hcv:SlR NoP 0 .nil (S.Q6 n) cv:=hcv.tree (h':=.nil) (Tp 0);obtain⟨rows,r1,r2,r3,r4⟩:=hN.all;obtain⟨row,q1,q2⟩:=r3 i x hx;obtain⟨pa,ra,rfl,hpa,hra⟩:=fm.1 q2;have hxm:=Tv hx;have hil:=(Tu.1 hx).1;have hl8:=hr.l2;have hlt:i<rows.length:=by omega
 have hry:=r4 (by omega);have hpl:=ku (hr.places x hxm) (by omega);have hpin:=hr.pin hxm;have r1:∀h',ac h' 3 b=some rows:=r1;have rc:=λh=>(hcv.tree (h':=h) (Tp 0)).ints;rw[pA];refine bg rM (xs:=[.agg [.int .i64 n.grain,b,cv,sv,oz],.int .i64 (i:Int)]) (by simp only[aK,e0,fg 0]) (by simp[fF]) (uj λo=>bz _) (by decide) hd ?_;simp only[sz,simprocAttr,fF];obtain⟨g0,hg0⟩:∃g0,g0=(G.empty.new (We 5 [[.int .i64 n.grain,b,cv,sv,oz]])).new (We 3 [[.nils,.nils,.nils]]):=⟨_,rfl⟩;rw[<-hg0];have f0:g0.h.get 0=We 5 [[.int .i64 n.grain,b,cv,sv,oz]]:=by rw[hg0];simp[sx,Q_]
 have f1:g0.h.get 1=We 3 [[.nils,.nils,.nils]]:=by rw[hg0];simp[sx]
 have f2:g0.nx=2:=by rw[hg0];simp[sx]
 clear hg0;simp only[je];refine iZ (P:=λt' df g'=>df=[]/\g'.nx=3/\g'.h.get 0=We 5 [[.int .i64 n.grain,b,cv,sv,oz]]/\g'.h.get 1=We 3 [[.nils,.nils,.nils]]/\g'.h.get 2=We 3 [[.int .i64 x.card,pa,ra]]/\St t' [(1,.int .i64 (i:Int)),(2,.hptr 0 0 0 0),(4,.hptr 1 0 0 0),(5,.hptr 2 0 0 0)]) ?_ ?_
 ·simp only[sz,simprocAttr,f0,r1,hlt,q1];simp[St,sx,f1,f2]
 rintro t df g1 ⟨rfl,n1,k0,k1,k2,h1,h2,h4,h5,-⟩;obtain⟨p,sb,hp,es⟩:=KP (d:=d+1) (g:=g1) (x:=(i:Int)) (TG d) (hpa.tree (Tp 0)) (by omega);refine iZ (P:=λt' df g'=>df=[]/\g'=g1/\St t' [(1,.int .i64 (i:Int)),(2,.hptr 0 0 0 0),(4,.hptr 1 0 0 0),(5,.hptr 2 0 0 0),(6,.int .i64 (p:Int))]) ?_ ?_
 ·simp only[sz,simprocAttr,h5,h1,k2,es];simp[St,sx,h1,h2,h4,h5]
 clear h1 h2 h4 h5;rintro t df g2 ⟨rfl,rfl,h1,h2,h4,h5,h6,-⟩;refine iZ (P:=λt' df g'=>df=[]/\∃w q,w.cells=[w]/\FacH [.int .i64 n.grain,b,cv,sv,oz] [.int .i64 x.card,pa,ra] w .nils (S.Ru x.parents p (i:Int)) [] 1 q (g'.new (We 1 [[.int .i64 1]]))/\g'.nx=q+1/\St t' [(2,.hptr 0 0 0 0),(4,.hptr 1 0 0 0),(5,.hptr 2 0 0 0),(6,.int .i64 (p:Int)),(8,.hptr q 0 0 0)]) ?_ ?_
 ·simp only[sz,simprocAttr,h5,k2];refine JO (l:=x.parents) hpa (by omega) λu ga hu fa=>?_;simp only[sz,simprocAttr,h6,h1];have hun:∀i,vid u=some i->g2.nx<=i/\i<ga.nx:=λi hi=>by
   rcases hu with⟨-,rfl⟩|⟨id,lo,a1,a2,rfl,-⟩
   ·cases hi
   ·injection hi with hi;subst hi;exact⟨a1,a2⟩
  have fa1:=fa.1;obtain⟨w,g3,e3,hw,n3,f3⟩:=Hg (d:=d+1) (b:=g2.nx) (p:=p) (id2:=ga.nx) (ep2:=0) (x:=(i:Int)) (lim:=none) (hu.fr (Fr.new ga (We 1 [[.int .i64 (i:Int)]]))) (by omega) hp (by simp[Q_];exact⟨rfl,rfl,rfl⟩) (λj hj=>by have:=hun j hj;omega) (by simp;omega);rw[e3];simp only[sz,simprocAttr,LP hw.cell.1 hw.cell.2];have n3':ga.nx+1<=g3.nx:=by simpa using n3
  have keep:∀j,j<3->g3.h.get j=g2.h.get j:=λj hj=>by rw[f3 j (by simp;omega) (λe=>by have:=hun j e;omega),<-fa.2 j (by omega)];simp[Q_,show ¬j=ga.nx by omega]
  have hwl:∀j,vid w=some j->3<=j/\j<g3.nx:=λj hj=>by have:=hw.lt hj;omega
  have ne1:∀j,j<g3.nx->¬j=g3.nx/\¬j=g3.nx+1:=λj hj=>by omega
  refine⟨w,g3.nx,hw.cell.1,⟨?_,?_,?_,?_,?_,?_,?_,?_,?_,?_⟩,?_,?_⟩
  ·simp[Q_,ne1 0 (by omega),keep 0 (by omega),k0,show ¬g3.nx=0 by omega]
  ·simp[Q_,ne1 1 (by omega),keep 1 (by omega),k1,show ¬g3.nx=0 by omega]
  ·simp[Q_,ne1 2 (by omega),keep 2 (by omega),k2]
  ·simp[Q_]
  ·simp[Q_]
  ·refine (Own.low hw (b':=3) (by omega)).fr (by simp;omega) λj hj=>?_;have:=ne1 j (hwl j hj).2;simp[Q_,this]
  ·exact .inl ⟨rfl,rfl⟩
  ·exact λj hj=>(hwl j hj).2
  ·omega
  ·simp
  ·simp
  ·simp[St,sx,h2,h4,h5,h6]
 clear h1 h2 h4 h5 h6 es;rintro t df g3 ⟨rfl,w,q,hwc,hp3,hnq,h2,h4,h5,h6,h8,-⟩;have hfl:=tY x.parents p (i:Int) hp;have fa:=hp3.hw.rows;refine iZ (P:=λt' df g'=>df=[]/\g'=(g3.new (We 1 [[.int .i64 0]])).put (q+1) (We 1 [[.int .i64 1]])/\St t' ((6,.int .i64 (p:Int))::oJ q)) ?_ ?_
 ·simp only[sz,simprocAttr,hnq];simp[St,oJ,sx,h2,h4,h5,h6,h8]
 clear h2 h4 h5 h6 h8;rintro t df g4 ⟨rfl,hg4,h6,h2,h4,h5,h8,h9,-⟩;have hp4:FacH [.int .i64 n.grain,b,cv,sv,oz] [.int .i64 x.card,pa,ra] w .nils (S.Ru x.parents p (i:Int)) [] 1 q g4:=by
  have e:∀j,g4.h.get j=(g3.new (We 1 [[.int .i64 1]])).h.get j:=λj=>by
   rw[hg4]
   by_cases hj:j=q+1<;>simp[Q_,hnq,hj]
  have en:g4.nx=(g3.new (We 1 [[.int .i64 1]])).nx:=by rw[hg4];simp
  exact⟨by rw[e,hp3.h0],by rw[e,hp3.h1],by rw[e,hp3.h2],by rw[e,hp3.h8],by rw[e,hp3.h9],hp3.hw.fr (by omega) λj _=>e j,hp3.hu.fr (by omega) λj _=>e j,hp3.wq,hp3.q3,by rw[en];exact hp3.qn⟩
 clear hg4 hp3;have hwl:∀g,dm .slice w g=.val (.int .i64 (((S.Ru x.parents p (i:Int)).length:Nat):Int)):=λg=>by
  rcases hp4.hw with⟨-,e⟩|⟨id,ep,lo,-,-,rfl,-⟩
  ·have:((S.Ru x.parents p (i:Int)).map ci).length=0:=by rw[e];rfl
   rw[Tz]at this;omega
  ·rw[Tz];rfl
 simp only[sz,simprocAttr,h8,hp4.h8,hwl];refine PY (gr:=n.grain) (b:=b) (cv:=cv) (sv:=sv) (oz:=oz) (nd:=[.int .i64 x.card,pa,ra]) (w:=w) (cs:=S.Q6 n) (vars:=S.Ru x.parents p (i:Int)) (pl:=p) (q:=q) rc (by omega) ?_ hr.cs (by omega) ⟨by simp[St,oJ,sx,h2,h4,h5,h6,h8,h9],.nils,by simpa [S.Q7,S.Q5] using hp4⟩ (by simp[sx]) (by simp[sx]) ?_
 ·intro y hy;simp only[S.Ru,Uf,T3]at hy;rcases hy with hy|rfl|hy
  ·exact hpin y (Uc hy)
  ·rw[aY];omega
  ·exact hpin y (Uj hy)
 clear h2 h4 h5 h6 h8 h9 hp4;rintro t g ⟨⟨h38,h6,h2,h4,h5,h8,h9,-⟩,u,hp5⟩;rw[TO,Hf hp]at hp5;have hcx:=hr.card x hxm;have hd1:∀c∈S.Q7 (S.Q6 n) (x.parents.drop p),1<=c/\c<=4:=bG hr.cs λp hp=>hpin p (Uj hp);have ht1:∀c∈S.Q7 (S.Q6 n) (x.parents.take p),1<=c/\c<=4:=bG hr.cs λp hp=>hpin p (Uc hp);have er:(x.rows.length:Int)=S.Q5 (S.Q7 (S.Q6 n) (x.parents.take p))*S.Q5 (S.Q7 (S.Q6 n) (x.parents.drop p)):=by
  rw[hr.rows x hxm]
  conv=>lhs;rw[<-Us p x.parents,bU,nL]
 have hB1:=eV λc hc=>(hd1 c hc).1;have hA1:=eV λc hc=>(ht1 c hc).1;have hpb:=ba (l:=S.Q7 (S.Q6 n) x.parents) (bG hr.cs hpin);have hp4:=bI (a:=(S.Q7 (S.Q6 n) x.parents).length) (b:=8) (by simp[S.Q7];omega);have h48:(4:Int) ^ 8=65536:=by decide
 have hrows:=hr.rows x hxm;obtain⟨B,hB⟩:=Ty (show 0<=S.Q5 (S.Q7 (S.Q6 n) (x.parents.drop p)) by omega);obtain⟨A,hA⟩:=Ty (show 0<=S.Q5 (S.Q7 (S.Q6 n) (x.parents.take p)) by omega);obtain⟨C,hC⟩:=Ty (show 0<=x.card by omega);have hAB:x.rows.length=A*B:=by
  have:((x.rows.length:Nat):Int)=((A*B:Nat):Int):=by rw[er,Ut,hA,hB]
  omega
 have hsz:x.rows.length*C<=1000000:=by
  have h1:x.rows.length<=65536:=by omega
  have h2:C<=4:=by omega
  have:=Nat.mul_le_mul h1 h2;omega
 have rl:=λg=>(hra.tree (h':=g) (Tp 0)).len;have rl:=λg=>(hra).len g;have w1:IntKind.wrap .i64 ((x.rows.length:Int)*(C:Int))=((x.rows.length*C:Nat):Int):=by rw[<-Ut,au (by omega) (by omega)]
 rw[hB]at hp5;simp only[iv,hC]at hp5 ⊢;obtain⟨pa',ra',er',hpa',hra'⟩:=AQ (d:=d+1) (g:=.empty) (x:=x) (v:=.agg [.int .i64 (C:Int),pa,ra]) (TG d) ⟨_,rfl,fm.2 ⟨pa,ra,by rw[hC],hpa.tree (Tp 0),hra.tree (Tp 0)⟩⟩;have q3:=hp5.q3;have qn:=hp5.qn;refine iZ (P:=λt' df g'=>df=[]/\∃W,vid W=some g.nx/\g'.nx=g.nx+1/\(∀i,i<g.nx->i≠q->g'.h.get i=g.h.get i)/\g'.h.get q=We 3 [[w,u,W]]/\Own g' 3 W 1 ((List.replicate (x.rows.length*C) (0:Int)).map ci)/\St t' (oJ q)) ?_ ?_
 ·simp only[sz,simprocAttr,h5,hp5.h2,rl,w1];refine jA (b:=3) (n:=x.rows.length*C) (by unfold aQ;omega) (by unfold aQ;omega) (by omega) λW g1 hW n1 f1 vW=>?_;have k8:g1.h.get q=We 3 [[w,u,.nils]]:=by rw[f1 q (by omega),hp5.h8]
  simp only[sz,simprocAttr,h8,k8,hW.cell.1,hW.cell.2];refine⟨W,vW,by simpa using n1,λi h1 h2=>?_,by simp[Q_],?_,by simp[St,oJ,sx,h2,h4,h5,h8,h9]⟩
  ·simp[h2];exact f1 i h1
  ·have hW':Own g1 3 W 1 ((List.replicate (x.rows.length*C) (0:Int)).map ci):=by simpa [ci] using hW
   exact hW'.fr (by simp) λi hi=>by have:=bi vW hi;simp[Q_,show ¬i=q by omega]
 clear h38 h6 h2 h4 h5 h8 h9;rintro t df g1 ⟨rfl,W,vW,n1,f1,k8,hW,h2,h4,h5,h8,h9,-⟩;have k2:g1.h.get 2=We 3 [[.int .i64 (C:Int),pa,ra]]:=by rw[f1 2 (by omega) (by omega),hp5.h2]
 have k9:g1.h.get (q+1)=We 1 [[.int .i64 (B:Int)]]:=by rw[f1 (q+1) (by omega) (by omega),hp5.h9]
 have k1:g1.h.get 1=We 3 [[.nils,.nils,.nils]]:=by rw[f1 1 (by omega) (by omega),hp5.h1]
 obtain⟨pa',ra',er',hpa',hra'⟩:=AQ (d:=d+1) (g:=g1) (x:=x) (v:=.agg [.int .i64 (C:Int),pa,ra]) (TG d) ⟨_,rfl,fm.2 ⟨pa,ra,by rw[hC],hpa.tree (Tp 0),hra.tree (Tp 0)⟩⟩;rw[hC]at er';rw[dK,dK];simp only[sz,simprocAttr,h5,k2,er'];refine LL (A:=A) (B:=B) (C:=C) (q:=q) (iw:=g.nx) (w:=w) (u:=u) (W:=W) (pa:=pa) (ra:=ra) (pa':=pa') hra' (λr hrm=>by have:=(hr.row x hxm r hrm).1;omega) (by omega) hAB hsz (by simp[sx]) k8 k2 k9 (by omega) q3 (by omega) vW (by omega) (by simp[St,oJ,sx,h2,h4,h5,h8,h9]) hW ?_;intro g' hf hn hdf;have k8':g'.h.get q=We 3 [[w,u,W]]:=by rw[hf.fr q (by omega) (by omega),k8]
 have k1':g'.h.get 1=We 3 [[.nils,.nils,.nils]]:=by rw[hf.fr 1 (by omega) (by omega),k1]
 simp only[sz,simprocAttr,it,h8,k8',h4,k1'];refine fW (by simp[Q_,show ¬g1.nx=1 by omega,hdf]) ?_;simp only[sx,sy,↓reduceIte,Nat.reduceEqDiff,h4];rw[TF (by omega)];simp only[sx,sy,↓reduceIte,Nat.reduceAdd,Nat.reduceLeDiff];have lw:=hp5.hw;have lu:=hp5.hu;have lW:=hf.ow;have hne:∀i,i<g1.nx->i≠1->((g'.h.put 1 (We 3 [[w,u,W]])).put g1.nx (.dfr false)).get i=g'.h.get i:=λi h1 h2=>by simp[Q_,h2,show ¬i=g1.nx by omega]
 have oW:Own (GH ((g'.h.put 1 (We 3 [[w,u,W]])).put g1.nx (.dfr false)) (g.nx+1)) 3 W 1 ((S.RX x.rows B C (x.rows.length*C)).map ci):=lW.fr (by simp) λi hi=>by have:=bi vW hi;exact hne i (by omega) (by omega)
 have ow:Own (GH ((g'.h.put 1 (We 3 [[w,u,W]])).put g1.nx (.dfr false)) (g.nx+1)) 3 w 1 ((S.Ru x.parents p (i:Int)).map ci):=lw.fr (by simp) λj hj=>by have:=hp5.wq j hj;have:=(lw.lt hj).1;show ((g'.h.put 1 (We 3 [[w,u,W]])).put g1.nx (.dfr false)).get j=_;rw[hne j (by omega) (by omega),hf.fr j (by omega) (by omega),f1 j (by omega) (by omega)]
 have ou:Own (GH ((g'.h.put 1 (We 3 [[w,u,W]])).put g1.nx (.dfr false)) (g.nx+1)) (q+2) u 1 ((S.Q7 (S.Q6 n) (S.Ru x.parents p (i:Int))).map ci):=lu.fr (by simp) λj hj=>by have:=lu.lt hj;show ((g'.h.put 1 (We 3 [[w,u,W]])).put g1.nx (.dfr false)).get j=_;rw[hne j (by omega) (by omega),hf.fr j (by omega) (by omega),f1 j (by omega) (by omega)]
 have hfw:(S.RX x.rows B C (x.rows.length*C))=S.S1 x.rows (S.Q5 (S.Q7 (S.Q6 n) (x.parents.drop p))).toNat x.card.toNat:=by rw[hB,hC,TH,TH];exact LK (A:=A) (by omega) hAB
 refine⟨λ_=>True,p,hp,_,rfl,eC.2 ⟨w,u,W,rfl,?_,?_,?_⟩⟩
 ·obtain⟨_,e1,h⟩:=ow.ints (k:=0) (by omega);injection e1 with e1;subst e1;exact h
 ·obtain⟨_,e1,h⟩:=ou.ints (k:=0) (by simp[S.Q7];omega);injection e1 with e1;subst e1;exact h
 ·rw[hfw]at oW;obtain⟨_,e1,h⟩:=oW.ints (k:=0) (by rw[<-hfw,Fd];omega);injection e1 with e1;subst e1;exact h
def S.Tg(n:Net)(l:List Factor):Prop:=∀(i:Nat) (x:Node),i<l.length->n.nodes[i]?=some x->∃p,p<=x.parents.length/\l[i]?=some (S.R7 n i x p)
def Qs(n:Net):VS:=λP k h v=>∃l:List Factor,((S.RZ n=true->l.length=n.nodes.length)/\S.Tg n l)/\rK (One l) (One (if S.RZ n then (0:Int) else 50)) P k h v
structure FasJ (n:Net) (W b cv sv oz:AV) (j:Nat) (t:T) (g:G):Prop where
 st:St t [(4,.hptr 1 0 0 0),(6,W)]
 hg:g.h.get 1=We 5 [[.int .i64 n.grain,b,cv,sv,oz]]
 hW:∃(rows:List (List AV)) (l:List Factor),Own g 2 W 3 rows/\rows.length=n.nodes.length/\l.length=j/\All2 (Rp.rp NoP 0 .nil) l (rows.take j)/\S.Tg n l/\∀i,j<=i->i<n.nodes.length->rows[i]?=some [.nils,.nils,.nils]
theorem Oj{d:Nat}{g:G}{v:AV}{n:Net}(hd:0<d)(hm:Agg n NoP 0 g.h v):∃r,an C0 d N.RT [v] g=.val r/\Qs n NoP 0 .nil r:=by
 obtain⟨b,rows,rfl,e1,hm',hN,r1,r2,r3,r4⟩:=qe d hm;rw[xF];refine bg Ai (xs:=[.agg [.int .i64 n.grain,b]]) (by simp only[aK,e1]) (by simp[o7]) (uj λo=>cO (m:=2) (a9 _) (a9 _) (by decide) (by decide)) (by decide) hd ?_;simp only[sz,simprocAttr,o7,q8];obtain⟨z,ez,hz⟩:=I_ (d:=d+1) (g:=G.empty.new (We 2 [[.int .i64 n.grain,b]])) (TG d) (n:=n) (v:=.agg [.int .i64 n.grain,b]) (hm' _);rcases yI hz with⟨hn,cs,rfl,hcs⟩|⟨hn,b',cv,sv,oz,o,rfl,hb,hcv,hsv,hoz⟩
 ·obtain⟨a1,a2,a3,a4,a5,rfl⟩:∃a1 a2 a3 a4 a5,cs=[a1,a2,a3,a4,a5]:=by
   match cs,hcs with
   |[a1,a2,a3,a4,a5],_=>exact⟨a1,a2,a3,a4,a5,rfl⟩
  simp only[sz,simprocAttr,ez,show ¬((50:Int)=0) from by decide];refine⟨NoP,[],⟨λh=>(by rw[hn]at h;cases h),λi x hi=>(by simp at hi)⟩,_,_,rfl,⟨_,rfl,⟨by show 0<9223372036854775808;decide,rfl⟩⟩,?_⟩;rw[hn];exact aB.2 rfl
 ·have hr:=fN.1 hn;have hl8:=hr.l2;simp only[sz,simprocAttr,ez,hb.len];refine jA (b:=2) (n:=n.nodes.length) (by unfold aQ;omega) (by unfold aQ;omega) (by simp) λW g1 hW n1 f1 vW=>?_;have k1:g1.h.get 1=We 5 [[.int .i64 n.grain,b',cv,sv,oz]]:=by rw[f1 1 (by simp)];simp[Q_]
  have hWl:∀(g:G) (rows:List (List AV)),rows.length=n.nodes.length->Own g 2 W 3 rows->dm .slice W g=.val (.int .i64 (n.nodes.length:Int)):=λg rows h1 h=>by
   rcases h with⟨rfl,e⟩|⟨id,ep,lo,-,-,rfl,-⟩
   ·cases vW
   ·rw[h1];rfl
  have hlW:=hWl g1 _ (by simp) hW;have hryW:rR W=true:=by
   rcases hW with⟨rfl,e⟩|⟨id,ep,lo,-,-,rfl,-⟩
   ·cases vW
   ·rfl
  simp only[sz,simprocAttr,hlW];simp only[pR];refine aq (m:=n.nodes.length) (by omega) (λj t df g=>df=[]/\FasJ n W b' cv sv oz j t g) ⟨rfl,by simp[St,sx],k1,_,[],hW,by simp,rfl,trivial,λi x hi=>(by simp at hi),λi _ hi=>by simp[hi]⟩ (by simp[sx]) (by simp[sx]) (by decide)
   (by rintro j t df g v s (rfl|rfl|rfl) ⟨a1,⟨b1,b2,-⟩,c1,c2⟩<;>exact⟨a1,by simp[St,sx,b1,b2],c1,c2⟩) ?_ ?_
  ·rintro j t df g hj ⟨rfl,⟨h4,h6,-⟩,hg,rows',l,hW,hrl,hll,hal,hfs,hnil⟩ h23 h22;obtain⟨x,hx,-,-⟩:=af hj;have hm5:Agg ((n,S.Q6 n,S.Rj n,o):NwM) NoP 0 g.h (.agg [.int .i64 n.grain,b',cv,sv,oz]):=⟨_,rfl,yP.2 ⟨b',cv,sv,oz,rfl,hb.tree (Tp 0),hcv.tree (Tp 0),hsv.tree (Tp 0),hoz.tree (Tp 0)⟩⟩;obtain⟨f,ef,p,hp,cs,rfl,hcs⟩:=J5 (d:=d+1) (g:=g) (i:=j) (TG d) hr hm5 hx;obtain⟨a1,a2,a3,rfl,ha1,ha2,ha3⟩:=eC.1 hcs;have hrj:=hnil j (Tp _) hj;have hWr:=hW.rows;have hjr:j<rows'.length:=by omega
   simp only[sz,simprocAttr,h23,h6,h4,hg,ef,hWr,hjr];refine bw (v:=W) (sz:=3) (n:=3) (i:=j) (off:=0) (x:=.agg [a1,a2,a3]) (row':=[a1,a2,a3]) hW hrj (by rfl) rfl ?_ λg4 hW4 n4 f4=>?_
   ·rfl
   have htk:(rows'.set j [a1,a2,a3]).take (j+1)=rows'.take j++[[a1,a2,a3]]:=by
    rw[U6,List.take_set_of_le (Tp _),Ux hjr]
    rfl
   simp only[sx,sy,↓reduceIte,Nat.reduceEqDiff];refine⟨⟨by simp[St,sx,h4,h6],?_,_,l++[S.R7 n j x p],hW4,by simpa using hrl,by simp[hll],?_,?_,λi h1 h2=>by rw[U0 (by omega),hnil i (by omega) h2]⟩,h23,h22⟩
   ·rw[f4 1 λe=>by have:=(hW.lt e).1;omega,hg]
   ·rw[htk];exact hal.append ⟨eC.2 ⟨a1,a2,a3,rfl,ha1,ha2,ha3⟩,trivial⟩
   ·intro i y hi hy
    by_cases hij:i<l.length
    ·rw[TD hij];exact hfs i y hij hy
    ·have hi:i=j:=by simp at hi;omega
     subst hi;rw[hx]at hy;injection hy with hy;subst hy;exact⟨p,hp,by rw[TB (by omega),hll];simp⟩
  ·rintro t df g ⟨rfl,⟨h4,h6,-⟩,hg,rows',l,hW,hrl,hll,hal,hfs,hnil⟩;rw[Ug (by omega)]at hal;simp only[sz,simprocAttr,pS,h6];refine⟨λ_=>True,l,⟨λ_=>hll,hfs⟩,_,_,rfl,⟨W,rfl,Own.sl (α:=Factor) hW (by omega) (hal.mono λa b r=>Rp.tree r (Tp 0)) λ_ _=>trivial⟩,?_⟩;rw[hn];exact aB.2 rfl
end
end Hx
end
section
namespace Hx
open Go
abbrev QnM:Type:=Net×List Factor×List (List Int)
theorem uV{P:Nat->Prop}{k:Nat}{h:H}{x:QnM}{cs:List AV}:Rp.rp P k h x cs↔∃a b c,cs=[.int .i64 x.1.grain,a,b,c]/\SlR P k h x.1.nodes a/\SlR P k h x.2.1 b/\SlR P k h x.2.2 c:=by
 constructor
 ·rintro⟨c1,c2,rfl,h1,c3,c4,rfl,⟨b,rfl,hb⟩,⟨c,rfl,hc⟩⟩;obtain⟨a,rfl,ha⟩:=fO.1 h1;exact⟨a,b,c,rfl,ha,hb,hc⟩
 ·rintro⟨a,b,c,rfl,ha,hb,hc⟩;exact⟨[_,a],[b,c],rfl,fO.2 ⟨a,rfl,ha⟩,[b],[c],rfl,⟨b,rfl,hb⟩,⟨c,rfl,hc⟩⟩
theorem Np{n:Net}(h:NR n){k:Nat}{x:Node}(hx:n.nodes[k]?=some x):(k:Int) ∉ x.parents:=λhm=>by
 have hk:=(Tu.1 hx).1;have hl:=h.l2;have h1:=kV.1 h.acyc k (by simp[S.Rj];exact hk);have h2:Par (S.Rj n) k=S.Re x.parents:=by simp[Par,S.Rj,hx]
 have h3:(S.Re x.parents).testBit k=true:=(wW λy hy=>by have:=bZ (h.places x (Tv hx)) y hy;omega).2 hm;have h4:=um (p:=S.Rj n) (s:=Par (S.Rj n) k) (S.Rj n).length k (by rw[h2];exact h3);rw[h1]at h4;cases h4
theorem Kz{l:List Int}{k:Int}(h:S.Rc l k=true):l.Nodup:=by rw[List.Nodup,VG];intro i j hi hj hij e;have:=CX h (Tn hi) (Tn hj) hij;omega
theorem Me{n:Net}(h:NR n){k:Nat}{x:Node}(hx:n.nodes[k]?=some x)(p:Nat):(S.Ru x.parents p (k:Int)).Nodup:=by unfold S.Ru;rw[List.perm_middle.nodup_iff,Us,List.nodup_cons];exact⟨Np h hx,Kz (h.places x (Tv hx))⟩
theorem Aw{n:Net}(h:NR n){k:Nat}{x:Node}(hx:n.nodes[k]?=some x)(p:Nat):∀y∈S.Ru x.parents p (k:Int),0<=y/\y<n.nodes.length:=λy hy=>by
 have hk:=(Tu.1 hx).1;have hp:=bZ (h.places x (Tv hx));simp only[S.Ru,Uf,T3]at hy;rcases hy with hy|rfl|hy
 ·exact hp y (Uc hy)
 ·omega
 ·exact hp y (Uj hy)
theorem eM(cs ps:List Int):(S.Q7 cs ps).length=ps.length:=by simp[S.Q7]
theorem J4{n:Net}(h:NR n){k:Nat}{x:Node}(hx:n.nodes[k]?=some x)(p:Nat):∀c∈(S.R7 n k x p).cards,1<=c/\c<=4 :=
 bG h.cs λy hy=>by rw[aY];exact Aw h hx p y hy
def S.S8(m:Nat)(f:Factor)(i:Nat)(R:List Int):Prop:=R.length=m/\∀(j:Nat) (y:Int),i<=j->f.vars[j]?=some y->R[y.toNat]?=some (S.Q5 (f.cards.drop (j+1)))
theorem HY{m i:Nat}{f:Factor}{R:List Int}{y:Int}(h:S.S8 m f (i+1) R)(hnd:f.vars.Nodup)(hin:∀y∈f.vars,0<=y/\y<m)(hy:f.vars[i]?=some y):S.S8 m f i (R.set y.toNat (S.Q5 (f.cards.drop (i+1)))):=by
 refine⟨by simp[h.1],λj z hij hz=>?_⟩;have hyi:=hin y (Tv hy);have hzi:=hin z (Tv hz)
 by_cases e:j=i
 ·subst e;rw[hy]at hz;injection hz with hz;subst hz;rw[Ux (by rw[h.1];omega)]
 ·rw[U0]
  ·exact h.2 j z (by omega) hz
  ·intro e2;have e3:y=z:=by omega
   subst e3;exact e ((List.getElem?_inj (Tu.1 hz).1 hnd).1 (by rw[hz,hy]))
structure QnOk (n:Net) (y:QnM):Prop where
 net:y.1=n
 fl:y.2.1.length=n.nodes.length
 fs:S.Tg n y.2.1
 sl:y.2.2.length=n.nodes.length
 st:∀(k:Nat) (f:Factor) (R:List Int),y.2.1[k]?=some f->y.2.2[k]?=some R->S.S8 n.nodes.length f 0 R
def S.R4(n:Net)(ls:List (List Int)):Int:=if S.RZ n then (if ls.all (S.RK n) then 0 else 2) else 50
def N1(n:Net)(ls:List (List Int)):VS:=λP k h v=>∃y:QnM,(S.R4 n ls=0->QnOk n y)/\rK (Agg y) (One (S.R4 n ls)) P k h v
end Hx
end
section
namespace Hx
open Go
noncomputable section
def ED(fl:AV)(m q k:Nat):List (Nat×AV):=[(11,.hptr q 0 0 0),(2,.hptr 0 0 0 0),(4,.hptr 1 0 0 0),(45,fl),(46,.int .i64 (m:Int)),(47,.int .i64 (k:Int))]
structure AskI (fl:AV) (m q k:Nat) (g0:G) (iR:Nat) (R:AV) (f:Factor) (fb j:Nat) (t:T) (g:G):Prop where
 st:St t ((13,.hptr fb 0 0 0)::(12,.int .i64 (k:Int))::(14,.int .i64 (S.Q5 (f.cards.drop j)))::ED fl m q k)
 nx:g0.nx<=g.nx
 fr:∀i,i<g0.nx->i≠iR->g.h.get i=g0.h.get i
 ow:∃X:List Int,Own g 2 R 1 (X.map ci)/\S.S8 m f j X
theorem PO{d m q k fb iR:Nat}{gr:Int}{va ca wa S_ R b fl fl':AV}{f:Factor}{rowsS:List (List AV)}{Q:QT}{t:T}{g g0:G}(hva:SlR NoP 0 .nil f.vars va)(hca:SlR NoP 0 .nil f.cards ca)(hcl:f.cards.length=f.vars.length)(hvl:f.vars.length<=16)(hcb:∀c∈f.cards,1<=c/\c<=4)(hnd:f.vars.Nodup)(hin:∀y∈f.vars,0<=y/\y<m)
  (e11:g0.h.get q=We 4 [[.int .i64 gr,b,fl',S_]]) (e13:g0.h.get fb=We 3 [[va,ca,wa]]) (hS:Own g0 2 S_ 1 rowsS) (hk:rowsS[k]?=some [R]) (vR:vid R=some iR) (vS:vid S_≠some iR) (n1:q≠iR/\fb≠iR) (n2:q<g0.nx/\fb<g0.nx/\iR<g0.nx)
  (h0:AskI fl m q k g0 iR R f fb f.vars.length t g) (h15:tat t 15=.int .i64 ((f.vars.length:Int) - 1))
  (fin:∀t g,AskI fl m q k g0 iR R f fb 0 t g->Q (.exit 4) t [] g):wpL (wp C0 d none m9) Q t [] g:=by
 have rva:=λh=>(hva.tree (h':=h) (Tp 0)).ints;have rca:=λh=>(hca.tree (h':=h) (Tp 0)).ints;simp only[m9];refine Bu (m:=f.vars.length) (by omega) (λj t df g=>df=[]/\AskI fl m q k g0 iR R f fb j t g) ⟨rfl,h0⟩ h15 (by decide)
  (by rintro j t df g v s (rfl|rfl|rfl|rfl|rfl) ⟨a1,⟨b1,b2,b3,b4,b5,b6,b7,b8,b9,-⟩,c1,c2,c3⟩<;>exact⟨a1,by simp[St,ED,sx,b1,b2,b3,b4,b5,b6,b7,b8,b9],c1,c2,c3⟩) ?_ ?_
 ·rintro j t df g hj ⟨rfl,⟨h13,h12,h14,h11,h2,h4,h45,h46,h47,-⟩,hnx,hfr,X,hX,hst⟩ h15;obtain⟨y,hy,-,hym⟩:=af hj;obtain⟨hy0,hym⟩:=hin y hym;obtain⟨yn,rfl⟩:=Ty hy0;have hcj:f.cards[j]?=some f.cards[j]:=Tn (by omega);have hcb1:=hcb _ (TW (show j<f.cards.length by omega));have hdr:f.cards.drop j=f.cards[j]::f.cards.drop (j+1):=UE (by omega);generalize f.cards[j]=c at hcj hcb1 hdr;have u1:j<(f.vars.map ci).length:=by simpa using hj
  have u2:(f.vars.map ci)[j]?=some (ci (yn:Int)):=by rw[Tt,hy];rfl
  have u3:j<(f.cards.map ci).length:=by simp;omega
  have u4:(f.cards.map ci)[j]?=some (ci c):=by rw[Tt,hcj];rfl
  have hXl:=hst.1;have hylt:yn<X.length:=by omega
  have u5:yn<(X.map ci).length:=by simpa using hylt
  have u6:(X.map ci)[yn]?=some (ci X[yn]):=by rw[Tt,Tn hylt];rfl
  have k11:g.h.get q=We 4 [[.int .i64 gr,b,fl',S_]]:=by rw[hfr q n2.1 n1.1,e11]
  have k13:g.h.get fb=We 3 [[va,ca,wa]]:=by rw[hfr fb n2.2.1 n1.2,e13]
  have hS':Own g 2 S_ 1 rowsS:=hS.fr hnx λi hi=>hfr i (hS.lt hi).2 λe=>vS (by rw[hi,e]);have rS:=hS'.rows;have rX:=hX.rows;have kl:k<rowsS.length:=(Tu.1 hk).1;have w0:S.Q5 (f.cards.drop j)=S.Q5 (f.cards.drop (j+1))*c:=by rw[hdr,bu,VK]
  have hpb:=ba (l:=f.cards.drop j) λc hc=>hcb c (Uj hc);have hp4:=bI (a:=(f.cards.drop j).length) (b:=16) (by simp;omega);have h48:(4:Int) ^ 16=4294967296:=by decide
  have w1:IntKind.wrap .i64 (S.Q5 (f.cards.drop (j+1))*c)=S.Q5 (f.cards.drop j):=by rw[<-w0,au (by omega) (by omega)]
  have hst':=HY hst hnd hin hy;rw[TH]at hst';simp only[sz,simprocAttr,sf,h11,h12,h13,h14,h15,k11,k13,rva,u1,u2,rS,kl,hk,rX,u5,ci];refine bw (v:=R) (sz:=1) (n:=1) (i:=yn) (off:=0) (x:=.int .i64 (S.Q5 (f.cards.drop (j+1)))) (row':=ci (S.Q5 (f.cards.drop (j+1)))) (hX.fr (by simp;omega) λi _=>by simp) u6 rfl rfl rfl λg4 hu4 n4 f4=>?_;rw[<-UJ]at hu4;have f4':∀i,i≠iR->g4.h.get i=g.h.get i:=λi hi=>by rw[f4 i (by rw[vR];intro e;injection e with e;exact hi e.symm)];simp
  have n4':g.nx<=g4.nx:=by rw[n4];simp;omega
  simp only[sz,simprocAttr];refine⟨?_,?_⟩
  ·simp only[TM,TS,TL,TJ];exact aI [false,false,false,false,false,false,false,false,false,false,false,false,true] [] (by simp[All2,ae,aw]) (by decide) (by simp)
  have k13':g4.h.get fb=We 3 [[va,ca,wa]]:=by rw[f4' fb n1.2,k13]
  simp only[sz,simprocAttr,h13,h14,h15,k13',rca,u3,u4,ci,w1];refine⟨by simp[St,ED,sx,h13,h12,h11,h2,h4,h45,h46,h47],?_,λi h1 h2=>?_,_,hu4.fr (by simp) λi _=>by simp,hst'⟩
  ·simp;omega
  ·simp only[bumpG_h];rw[f4' i h2,hfr i h1 h2]
 ·rintro t df g ⟨rfl,h⟩;exact fin t g h
structure FOk (m:Nat) (f:Factor):Prop where
 cl:f.cards.length=f.vars.length
 vl:f.vars.length<=16
 cb:∀c∈f.cards,1<=c/\c<=4
 nd:f.vars.Nodup
 vr:∀y∈f.vars,0<=y/\y<m
theorem LJ{n:Net}(h:NR n){k:Nat}{x:Node}(hx:n.nodes[k]?=some x){p:Nat}(hp:p<=x.parents.length):FOk n.nodes.length (S.R7 n k x p):=by have h1:=ku (h.places x (Tv hx)) (by omega);have h2:=h.l2;have h3:=tY x.parents p (k:Int) hp;exact⟨eM _ _,by show (S.Ru x.parents p (k:Int)).length<=16;omega,J4 h hx p,Me h hx p,Aw h hx p⟩
structure AskH (gr:Int) (b fl S_:AV) (m q:Nat) (fs:List Factor) (k:Nat) (g:G):Prop where
 h0:g.h.get 0=We 2 [[.int .i64 gr,b]]
 h1:g.h.get 1=We 4 [[.int .i64 0,.nils,.nils,.nils]]
 hq:g.h.get q=We 4 [[.int .i64 gr,b,fl,S_]]
 q2:2<=q/\q<g.nx
 sq:∀i,vid S_=some i->i<q
 hS:∃(Vs:List AV) (l:List (List Int)),Own g 2 S_ 1 (Vs.map λv=>[v])/\Vs.length=m/\l.length=k/\All2 (λX v=>Own g (q+1) v 1 (X.map ci)) l (Vs.take k)/\∀(i:Nat) (f:Factor) (X:List Int),fs[i]?=some f->l[i]?=some X->S.S8 m f 0 X
structure AskJ (gr:Int) (b fl S_:AV) (m q:Nat) (fs:List Factor) (k:Nat) (t:T) (g:G):Prop where
 st:St t [(11,.hptr q 0 0 0),(2,.hptr 0 0 0 0),(4,.hptr 1 0 0 0),(45,fl)]
 hp:AskH gr b fl S_ m q fs k g
theorem PP{d m q:Nat}{gr:Int}{b fl S_:AV}{fs:List Factor}{Q:QT}{t:T}{g:G}(hb:∀g,dm .slice b g=.val (.int .i64 (m:Int)))(hm:m<=8)(hfl:SlR NoP 0 .nil fs fl)(hfm:fs.length=m)(hok:∀(i:Nat) (f:Factor),fs[i]?=some f->FOk m f)
  (h0:AskJ gr b fl S_ m q fs 0 t g) (h47:tat t 47=.int .i64 0) (h46:tat t 46=.int .i64 (m:Int))
  (fin:∀t g,AskJ gr b fl S_ m q fs m t g->Q (.exit 2) t [] g):wpL (wp C0 d none m_) Q t [] g:=by
 obtain⟨rows,r1,r2,r3,r4⟩:=hfl.all;have r1:∀h',ac h' 3 fl=some rows:=r1;simp only[m_,sM];refine aq (m:=m) (by omega) (λk t df g=>df=[]/\AskJ gr b fl S_ m q fs k t g) ⟨rfl,h0⟩ h47 h46 (by decide)
  (by rintro j t df g v s (rfl|rfl|rfl) ⟨a1,⟨b1,b2,b3,b4,-⟩,c1⟩<;>exact⟨a1,by simp[St,sx,b1,b2,b3,b4],c1⟩) ?_ ?_
 ·rintro k t df g hk ⟨rfl,⟨h11,h2,h4,h45,-⟩,hp⟩ h47 h46;obtain⟨f,hf,-,-⟩:=af (l:=fs) (j:=k) (by omega);obtain⟨row,q1,q2⟩:=r3 k f hf;obtain⟨va,ca,wa,rfl,hva,hca,hwa⟩:=eC.1 q2;have hF:=hok k f hf;have hlt:k<rows.length:=by omega
  have hry:=r4 (by omega);obtain⟨Vs,l,hS,hVl,hll,hal,hst⟩:=hp.hS;obtain⟨q2a,q2b⟩:=hp.q2;have ne0:∀i,i<g.nx->¬i=g.nx:=λi hi=>by omega
  refine bh (P:=λt' df g'=>df=[]/\g'=(g.new (We 3 [[.nils,.nils,.nils]])).put g.nx (We 3 [[va,ca,wa]])/\St t' ((13,.hptr g.nx 0 0 0)::(12,.int .i64 (k:Int))::ED fl m q k)) ?_ ?_
  ·simp only[sz,simprocAttr,h45,h47,r1,hlt,q1];simp[St,ED,sx,h11,h2,h4,h45,h47,h46]
  clear h11 h2 h4 h45 h47 h46;rintro t df g1 ⟨rfl,hg1,⟨h13,h12,h11,h2,h4,h45,h46,h47,-⟩⟩;have f1:∀i,i<g.nx->g1.h.get i=g.h.get i:=λi hi=>by rw[hg1];simp[Q_,ne0 i hi]
  have n1:g1.nx=g.nx+1:=by rw[hg1];simp
  have k1:g1.h.get g.nx=We 3 [[va,ca,wa]]:=by rw[hg1];simp[Q_]
  clear hg1;have e0:g1.h.get 0=We 2 [[.int .i64 gr,b]]:=by rw[f1 0 (by omega),hp.h0]
  have eq:g1.h.get q=We 4 [[.int .i64 gr,b,fl,S_]]:=by rw[f1 q (by omega),hp.hq]
  have hS1:Own g1 2 S_ 1 (Vs.map λv=>[v]):=hS.fr (by omega) λi hi=>f1 i (hS.lt hi).2;have rS:=hS1.rows;have hkV:k<(Vs.map λv=>[v]).length:=by simp;omega
  have hgV:(Vs.map λv=>[v])[k]?=some [Vs[k]'(by omega)]:=by rw[Tt,Tn (by omega)];rfl
  refine iZ (P:=λt' df g'=>df=[]/\St t' ((13,.hptr g.nx 0 0 0)::(12,.int .i64 (k:Int))::ED fl m q k)/\g1.nx<g'.nx/\∃R iR,vid R=some iR/\g1.nx<=iR/\iR<g'.nx/\Own g' 2 S_ 1 ((Vs.set k R).map λv=>[v])/\Own g' (q+1) R 1 ((List.replicate m (0:Int)).map ci)/\∀i,i<g1.nx->vid S_≠some i->g'.h.get i=g1.h.get i) ?_ ?_
  ·simp only[sz,simprocAttr,sf,h11,h2,h12,e0,eq,hb];refine lH (b:=q+1) (n:=m) (by unfold aQ;omega) (by unfold aQ;omega) (by simp;omega) λR g2 hR n2 f2 vR lg2=>?_;simp only[sy]at n2 f2 vR lg2;have hS2:Own g2 2 S_ 1 (Vs.map λv=>[v]):=hS1.fr (by omega) λi hi=>by have:=hS1.lt hi;rw[f2 i (by omega)]
   have rS2:=hS2.rows;simp only[sz,simprocAttr,sf,rS2,hkV];refine bw (v:=S_) (sz:=1) (n:=1) (i:=k) (off:=0) (x:=R) (row':=[R]) (hS2.fr (by simp;omega) λi _=>by simp) hgV (by rw[hR.cell.1];rfl) hR.cell.2 (by rw[hR.cell.1];rfl) λg4 hu4 n4 f4=>?_;rw[show (Vs.map λv=>[v]).set k [R]=(Vs.set k R).map λv=>[v] from by rw[UJ]]at hu4;have f4':∀i,vid S_≠some i->g4.h.get i=g2.h.get i:=λi hi=>by rw[f4 i hi];simp
   have n4':g2.nx<=g4.nx:=by rw[n4];simp;omega
   simp only[sy,lg2];refine⟨?_,?_,?_,R,g1.nx+6,vR,by omega,?_,?_,?_,λi h1 h2=>?_⟩
   ·simp only[TM,TS,TL,TJ];refine aI [false,false,false,false,false,false,true,false,true] [(0,6),(1,6),(2,6)] (by simp[All2,ae,aw]) (by decide) ?_;rintro p hp' x y hx hy;simp only[T3,TV,U_]at hp';rcases hp' with rfl|rfl|rfl<;>(simp at hx hy;subst hx;subst hy;refine bO rfl rfl rfl rfl ?_ ?_ ?_<;>simp[ae,aw,ak]<;>omega)
   ·simp[St,ED,sx,h13,h12,h11,h2,h4,h45,h46,h47]
   ·omega
   ·omega
   ·exact hu4.fr (by simp) λi _=>by simp
   ·have hR':Own g2 (q+1) R 1 ((List.replicate m (0:Int)).map ci):=by simpa [ci] using hR
    refine hR'.fr (by simp;omega) λi hi=>?_;have:=bi vR hi;simp only[bumpG_h];exact f4' i λe=>by have:=hS1.lt e;omega
   ·rw[f4' i h2,f2 i (by omega)]
  clear h13 h12 h11 h2 h4 h45 h46 h47;rintro t df g2 ⟨rfl,⟨h13,h12,h11,h2,h4,h45,h46,h47,-⟩,n2,R,iR,vR,hiR,hiR2,hS2,hR,f2⟩;have e13:g2.h.get g.nx=We 3 [[va,ca,wa]]:=by rw[f2 g.nx (by omega) (λe=>by have:=hp.sq _ e;omega),k1]
  have e11:g2.h.get q=We 4 [[.int .i64 gr,b,fl,S_]]:=by rw[f2 q (by omega) (λe=>by have:=hp.sq _ e;omega),eq]
  have lva:=hva.len;have hvl:=hF.vl;have hR2:Own g2 2 R 1 ((List.replicate m (0:Int)).map ci):=Own.low hR (by omega);have w1:IntKind.wrap .i64 ((f.vars.length:Int) - 1)=(f.vars.length:Int) - 1:=au (by omega) (by omega);have hgV2:((Vs.set k R).map λv=>[v])[k]?=some [R]:=by rw[Tt,Ux (by omega)];rfl
  simp only[sz,simprocAttr,h13,e13,lva,w1];refine PO (g0:=g2) (fl:=fl) (fl':=fl) (m:=m) (q:=q) (k:=k) (fb:=g.nx) (iR:=iR) (R:=R) (S_:=S_) (b:=b) (gr:=gr) (va:=va) (ca:=ca) (wa:=wa) (f:=f) (rowsS:=(Vs.set k R).map λv=>[v]) hva hca hF.cl hF.vl hF.cb hF.nd hF.vr e11 e13 hS2 hgV2 vR (λe=>by have:=hp.sq _ e;omega) ⟨by omega,by omega⟩ ⟨by omega,by omega,by omega⟩
   ⟨by simp[St,ED,sx,h13,h12,h11,h2,h4,h45,h46,h47,S.Q5,Ve (show f.cards.length<=f.vars.length by rw[hF.cl];exact Tp _)],Tp _,λ_ _ _=>rfl,List.replicate m 0,hR2,by simp,λj y hj hy=>?_⟩ (by simp[sx]) ?_
  ·have:=(Tu.1 hy).1;omega
  clear h13 h12 h11 h2 h4 h45 h46 h47;rintro t g3 ⟨⟨h13,h12,h14,h11,h2,h4,h45,h46,h47,-⟩,n3,f3,X,hX,hXo⟩;simp only[sx,sy,↓reduceIte];have hfin:∀i,i<g.nx->vid S_≠some i->g3.h.get i=g.h.get i:=λi h1 h2=>by rw[f3 i (by omega) (by omega),f2 i (by omega) h2,f1 i h1]
  refine⟨⟨by simp[St,h11,h2,h4,h45],?_⟩,h47,h46⟩;have hsl:∀i,i<2\/i=q->vid S_≠some i:=λi hi e=>by have:=hp.sq i e;have:=(hS.lt e).1;omega
  refine⟨by rw[hfin 0 (by omega) (hsl 0 (by omega)),hp.h0],by rw[hfin 1 (by omega) (hsl 1 (by omega)),hp.h1],by rw[hfin q q2b (hsl q (by omega)),hp.hq],⟨q2a,by omega⟩,hp.sq,Vs.set k R,l++[X],hS2.fr n3 λi hi=>f3 i (hS2.lt hi).2 λe=>by have:=hp.sq i hi;omega,by simpa using hVl,by simp[hll],?_,?_⟩
  ·have htk:(Vs.set k R).take (k+1)=Vs.take k++[R]:=by
    rw[U6,List.take_set_of_le (Tp _),Ux (by omega)]
    rfl
   rw[htk];refine (hal.mono λX' v r=>?_).append ⟨?_,trivial⟩
   ·exact r.fr (by omega) λi hi=>by have:=r.lt hi;exact hfin i this.2 λe=>by have:=hp.sq i e;omega
   ·rcases hX with h|⟨id,ep,lo,p1,p2,rfl,p4⟩
    ·exact .inl h
    ·injection vR with vR;exact .inr ⟨id,ep,lo,by omega,p2,rfl,p4⟩
  ·intro i f' X' hf' hX'
   by_cases hi:i<l.length
   ·rw[TD hi]at hX';exact hst i f' X' hf' hX'
   ·have h1:=(Tu.1 hX').1;have:i=k:=by simp at h1;omega
    subst this;rw[hf]at hf';injection hf' with hf';subst hf';rw[TB (by omega),hll,UB]at hX';simp at hX';subst hX';exact hXo
 ·rintro t df g ⟨rfl,h⟩;exact fin t g h
theorem OY(n:Net)(ls:List (List Int)):Snb (N1 n ls) 2:=uj λy=>cO (m:=2) (bz _) (a9 _) (by decide) (by decide)
def qn0:QnM:=(⟨0,[]⟩,[],[])
theorem Nj(P:Nat->Prop)(h:H):Agg qn0 P 0 h (.agg [.int .i64 0,.nils,.nils,.nils]):=⟨_,rfl,uV.2 ⟨.nils,.nils,.nils,rfl,⟨by show 0<9223372036854775808;decide,rfl⟩,⟨by show 0<9223372036854775808;decide,rfl⟩,⟨by show 0<9223372036854775808;decide,rfl⟩⟩⟩
theorem Ha{a b c w:AV}(h:w.cells=[w])(h2:w.isTup=false)(h3:b.cells=[b])(h4:b.isTup=false):jN [.int .i64 0,.nils,.nils,.nils] [((0,2),.agg [a,c]),((2,1),b),((3,1),w)]=some [a,c,b,w]:=by
 have k1:(AV.agg [a,c]).cells=[a,c]:=rfl;have k2:(AV.agg [a,c]).isTup=false:=rfl;simp[jN,h,h2,h3,h4,cT,k1,k2]
 rfl
theorem Lh{d kk:Nat}{P:Nat->Prop}{g:G}{v w:AV}{n:Net}{ls:List (List Int)}(hd:0<d)(hm:Agg n NoP 0 g.h v)(hw:SlR P kk g.h ls w):∃r,an C0 d N.RN [v,w] g=.val r/\N1 n ls NoP 0 .nil r:=by
 obtain⟨b,rows,rfl,e1,hm',hN,r1,r2,r3,r4⟩:=qe d hm;obtain⟨w',e2,hw'⟩:=cX hw d;obtain⟨wrows,p1,p2,p3,p4⟩:=(hw' .nil).all;have p1:∀h',ac h' 1 w'=some wrows:=p1;have hwl:=hw.1;have wl:=λg=>(hw' .nil).len g;rw[zT];refine bg DE (xs:=[.agg [.int .i64 n.grain,b],w']) (by simp only[aK,e1,e2]) (by simp[sK]) (OY n ls) (by decide) hd ?_;simp only[sz,simprocAttr,sK];obtain⟨g0,hg0⟩:∃g0,g0=(G.empty.new (We 2 [[.int .i64 n.grain,b]])).new (We 4 [[.int .i64 0,.nils,.nils,.nils]]):=⟨_,rfl⟩;rw[<-hg0];have f0:g0.h.get 0=We 2 [[.int .i64 n.grain,b]]:=by rw[hg0];simp[sx,Q_]
 have f1:g0.h.get 1=We 4 [[.int .i64 0,.nils,.nils,.nils]]:=by rw[hg0];simp[sx]
 have f2:g0.nx=2:=by rw[hg0];simp[sx]
 clear hg0;simp only[uG];obtain⟨z,ez,fs,⟨hfl,hfs⟩,fl,er,rfl,hfl2,her⟩:=Oj (d:=d+1) (g:=g0) (TG d) (hm' g0.h);have her:=aB.1 her;injection her with her;subst her;obtain⟨_,e3,hfl2⟩:=hfl2;injection e3 with e3;subst e3;cases hn:S.RZ n with
 | false =>
  have hs:S.R4 n ls=50:=by rw[S.R4,hn];rfl
  rw[hn]at ez;simp only[UR,↓reduceIte]at ez;simp only[sz,simprocAttr,f0,ez,show ¬((50:Int)=0) from by decide,f1];refine⟨λ_=>True,qn0,?_,_,_,rfl,?_,?_⟩
  ·rw[hs];intro h;cases h
  ·exact Nj _ _
  ·rw[hs];exact aB.2 rfl
 | true =>
  have hr:=fN.1 hn;have hfl:=hfl hn;rw[hn]at ez;simp only[↓reduceIte]at ez;refine iZ (P:=λt' df g'=>df=[]/\g'=g0/\St t' [(1,w'),(2,.hptr 0 0 0 0),(4,.hptr 1 0 0 0),(6,fl),(7,.int .i64 0)]) ?_ ?_
  ·simp only[sz,simprocAttr,f0,ez];simp[St,sx]
  rintro t df g1 ⟨rfl,rfl,h1,h2,h4,h6,h7,-⟩;obtain⟨Qf,hQf⟩:∃Qf,Qf=fnQ C0 (d+1) [SR.cell true 4 4,SR.tm 5] (λv g'=>∃P,N1 n ls P 0 g'.h v):=⟨_,rfl⟩;rw[<-hQf];simp only[sz,simprocAttr,h1,h7,wl,sL];refine aq (m:=ls.length) hwl (λj t df g=>df=[]/\St t [(25,w'),(2,.hptr 0 0 0 0),(4,.hptr 1 0 0 0),(6,fl)]/\g=g1/\∀e∈ls.take j,S.RK n e=true) ⟨rfl,by simp[St,sx,h2,h4,h6],rfl,by simp⟩ (by simp[sx]) (by simp[sx]) (by decide)
   (by rintro j t df g v s (rfl|rfl|rfl) ⟨a1,⟨b1,b2,b3,b4,-⟩,c1,c2⟩<;>exact⟨a1,by simp[St,sx,b1,b2,b3,b4],c1,c2⟩) ?_ ?_
  ·rintro j t df g hj ⟨rfl,⟨h25,h2,h4,h6,-⟩,rfl,hall⟩ h27 h26;obtain⟨e,he,htk,hem⟩:=af hj;obtain⟨row,q1,q2⟩:=p3 j e he;obtain⟨z,rfl,hz⟩:=f6.1 q2;have hlt:j<wrows.length:=by omega
   have hch:=Lw (d:=d+1) (g:=g) (e:=e) (w:=z) (TG d) (hm' g.h) (hz.tree (h':=g.h) (Tp _));cases hev:S.RK n e with
   | true =>
    have hs:S.RR n e=0:=by rw[S.RR,hn,hev];rfl
    rw[hs]at hch;simp only[sz,simprocAttr,h25,h27,h26,h2,p1,hlt,q1,f0,hch];refine⟨by simp[St,sx,h2,h4,h6,h25],λy hy=>?_⟩;rw[htk]at hy;rcases Uf.1 hy with h|h
    ·exact hall y h
    ·rw[Vk.1 h];exact hev
   | false =>
    have hs:S.RR n e=2:=by rw[S.RR,hn,hev];rfl
    have hs2:S.R4 n ls=2:=by
     have:ls.all (S.RK n)=false:=by rw[<-UG,TC];intro h;rw[h e hem]at hev;cases hev
     rw[S.R4,hn,this];rfl
    rw[hs]at hch;rw[hQf];simp only[sz,simprocAttr,h25,h27,h2,h4,p1,hlt,q1,f0,f1,hch,show ¬((2:Int)=0) from by decide];refine⟨λ_=>True,qn0,?_,_,_,rfl,?_,?_⟩
    ·rw[hs2];intro h;cases h
    ·exact Nj _ _
    ·rw[hs2];exact aB.2 rfl
  ·rintro t df g ⟨rfl,⟨h25,h2,h4,h6,-⟩,rfl,hall⟩;rw[TO]at hall;have hs:S.R4 n ls=0:=by rw[S.R4,hn,TC.2 hall];rfl
   have hl8:=hr.l2;have fll:=λg=>hfl2.len g;simp only[sx,↓reduceIte];unfold sO;refine iZ (P:=λt' df g'=>df=[]/\∃S_ q,St t' [(2,.hptr 0 0 0 0),(4,.hptr 1 0 0 0),(6,fl),(11,.hptr q 0 0 0)]/\AskH n.grain b fl S_ n.nodes.length q fs 0 g') ?_ ?_
   ·simp only[sz,simprocAttr,sf,h2,h6,f0,fll,hfl];refine lH (b:=2) (n:=n.nodes.length) (by unfold aQ;omega) (by unfold aQ;omega) (by first| (simp;done)| (simp;omega)) λS_ g2 hS n2 f2' vS lg2=>?_;simp only[sy]at n2 f2' vS lg2;have hflc:fl.cells=[fl]/\fl.isTup=false:=by
     have h:=hfl2.2;unfold SlV at h
     split at h<;>first|exact⟨rfl,rfl⟩|exact h.elim
    simp only[sz,simprocAttr,sf,Ha hS.cell.1 hS.cell.2 hflc.1 hflc.2,lg2];have n2':g.nx+5=g2.nx:=by omega
    have k0:g2.h.get 0=We 2 [[.int .i64 n.grain,b]]:=by rw[f2' 0 (by omega),f0]
    have k1:g2.h.get 1=We 4 [[.int .i64 0,.nils,.nils,.nils]]:=by rw[f2' 1 (by omega),f1]
    refine⟨?_,S_,g2.nx+1+1,by simp[St,sx,h2,h4,h6],⟨?_,?_,?_,⟨by omega,by simp⟩,λi hi=>by have:=bi vS hi;omega,List.replicate n.nodes.length .nils,[],?_,by simp,rfl,trivial,λi f X _ h=>by simp at h⟩⟩
    ·simp only[TM,TS,TL,TJ,G.new_lg,G.put_lg,setLog_lg];refine aI [false,false,false,false,true,false,true,true] [(0,4),(1,4),(0,6),(1,6),(2,6),(3,6),(4,6),(5,6)] (by simp[All2,ae,aw]) (by decide) ?_;rintro p hp' x y hx hy;simp only[T3,TV,U_]at hp';rcases hp' with rfl|rfl|rfl|rfl|rfl|rfl|rfl|rfl<;>(simp at hx hy;subst hx;subst hy;refine bO rfl rfl rfl rfl ?_ ?_ ?_<;>simp[ae,aw,ak]<;>omega)
    ·simp[Q_,k0]
    ·simp[Q_,k1]
    ·simp[Q_]
    ·have hS':Own g2 2 S_ 1 ((List.replicate n.nodes.length AV.nils).map λv=>[v]):=by simpa using hS
     refine hS'.fr (by simp;omega) λi hi=>?_;have:=bi vS hi;simp[Q_,show ¬i=g2.nx+1+1 by omega]
   clear h25 h2 h4 h6;rintro t df g2 ⟨rfl,S_,q,⟨h2,h4,h6,h11,-⟩,hp⟩;have hbl:=hN.len;simp only[sz,simprocAttr,h6,fll,hfl];refine PP (m:=n.nodes.length) (q:=q) (gr:=n.grain) (b:=b) (fl:=fl) (S_:=S_) (fs:=fs) hbl hl8 hfl2 hfl (λi f hf=>?_) ⟨by simp[St,sx,h2,h4,h11],hp⟩ (by simp[sx]) (by simp[sx]) ?_
   ·have hi:=(Tu.1 hf).1;obtain⟨x,hx,-,-⟩:=af (l:=n.nodes) (j:=i) (by omega);obtain⟨p,hpp,hf2⟩:=hfs i x hi hx;rw[hf]at hf2;injection hf2 with hf2;subst hf2;exact LJ hr hx hpp
   clear h2 h4 h6 h11 hp;rintro t g3 ⟨⟨h11,h2,h4,h45,-⟩,hp⟩;obtain⟨Vs,l,hS,hVl,hll,hal,hst⟩:=hp.hS;rw[Ug (by omega)]at hal;rw[hQf];have q2:=hp.q2.1;simp only[sz,simprocAttr,sN,h11,h4,hp.hq,hp.h1];have hne:∀i,i≠1->(g3.h.put 1 (We 4 [[.int .i64 n.grain,b,fl,S_]])).get i=g3.h.get i:=λi hi=>by simp[Q_,hi]
   refine⟨λ_=>True,(n,fs,l),λ_=>⟨rfl,hfl,hfs,hll,hst⟩,_,_,rfl,⟨_,rfl,uV.2 ⟨b,fl,S_,rfl,hN.wide (Tp 0),hfl2.wide (Tp 0),?_⟩⟩,?_⟩
   ·have hS':Own (g3.put 1 (We 4 [[.int .i64 n.grain,b,fl,S_]])) 2 S_ 1 (Vs.map λv=>[v]):=hS.fr (by simp) λi hi=>by have:=(hS.lt hi).1;simp[Q_,show ¬i=1 by omega]
    refine Own.sl (α:=List Int) hS' (by show l.length<_;omega) ?_ λ_ _=>trivial;have hal2:∀(l:List (List Int)) (Vs:List AV),All2 (λX v=>Own g3 (q+1) v 1 (X.map ci)) l Vs->(∀X∈l,X.length<9223372036854775808)->All2 (Rp.rp (λ_=>True) 0 (g3.put 1 (We 4 [[.int .i64 n.grain,b,fl,S_]])).h) l (Vs.map λv=>[v]):=by
     intro l
     induction l with
     | nil=>intro Vs h _;cases Vs with
      |nil=>trivial
      |cons v Vs=>exact h.elim
     | cons X l ih=>intro Vs h hX;cases Vs with
      |nil=>exact h.elim
      | cons v Vs =>
       refine⟨?_,ih Vs h.2 λY hY=>hX Y (by simp[hY])⟩;have ho:Own (g3.put 1 (We 4 [[.int .i64 n.grain,b,fl,S_]])) (q+1) v 1 (X.map ci):=h.1.fr (by simp) λi hi=>by have:=(h.1.lt hi).1;simp[Q_,show ¬i=1 by omega]
       obtain⟨_,e1,hh⟩:=ho.ints (k:=0) (hX X (by simp));exact f6.2 ⟨_,e1,hh⟩
    refine hal2 l Vs hal λX hX=>?_;obtain⟨i,hi,he⟩:=Ui.1 hX;have:=(hst i _ X (Tn (show i<fs.length by omega)) (by rw[Tn hi,he])).1;omega
   ·rw[hs];exact aB.2 rfl
theorem IC{α:Type}{l:List α}{i:Nat}{x y:α}(h1:l[i]?=some x)(h2:l[i]?=some y):x=y:=by rw[h1]at h2;injection h2
structure WtI (y:QnM) (b fl S_ wv va ca wa:AV) (gr wt:Int) (p:Int) (cards pv:List Int) (m k fb i:Nat) (t:T) (g:G):Prop where
 st:St t [(1,wv),(2,.hptr 0 0 0 0),(12,fl),(13,.int .i64 (m:Int)),(14,.int .i64 (k:Int)),(5,.int .i64 wt),(6,.int .i64 (k:Int)),(7,.hptr fb 0 0 0),(20,va),(8,.int .i64 (p - S.Q9 (cards.drop i) (pv.drop i)))]
 h0:g.h.get 0=We 4 [[.int .i64 gr,b,fl,S_]]
 hf:g.h.get fb=We 3 [[va,ca,wa]]
 nn:0<=p - S.Q9 (cards.drop i) (pv.drop i)
 nx:1<=g.nx
theorem K5{d m k fb kv kz:Nat}{y:QnM}{b fl S_ wv va ca wa:AV}{gr wt p:Int}{f:Factor}{R vals:List Int}{mm:Nat}{Q:QT}{t:T}{g:G}(hva:SlR NoP kv .nil f.vars va)(hF:FOk mm f)(hR:S.S8 mm f 0 R)(hvl:vals.length=mm)
  (hS:∃(srows:List (List AV)) (z:AV),(∀h,ac h 1 S_=some srows)/\srows[k]?=some [z]/\k<srows.length/\SlR NoP kz .nil R z) (rv:∀h,ac h 1 wv=some (vals.map ci)) (hp:p=S.Q9 f.cards (S.Q7 vals f.vars)) (hin:InC f.cards (S.Q7 vals f.vars)) (hpb:p<=10000000)
  (h0:WtI y b fl S_ wv va ca wa gr wt p f.cards (S.Q7 vals f.vars) m k fb 0 t g) (h22:tat t 22=.int .i64 0) (h21:tat t 21=.int .i64 (f.vars.length:Int))
  (fin:∀t g,WtI y b fl S_ wv va ca wa gr wt p f.cards (S.Q7 vals f.vars) m k fb f.vars.length t g->Q (.exit 2) t [] g):wpL (wp C0 d none cY) Q t [] g:=by
 obtain⟨srows,z,s1,s2,s3,hz⟩:=hS;have rva:=λh=>(hva.tree (h':=h) (Tp _)).ints;have rz:=λh=>(hz.tree (h':=h) (Tp _)).ints;simp only[cY];refine aq (m:=f.vars.length) hva.1 (λi t df g=>df=[]/\WtI y b fl S_ wv va ca wa gr wt p f.cards (S.Q7 vals f.vars) m k fb i t g) ⟨rfl,h0⟩ h22 h21 (by decide)
  (by rintro j t df g v s (rfl|rfl|rfl) ⟨a1,⟨b1,b2,b3,b4,b5,b6,b7,b8,b9,b10,-⟩,c1,c2,c3,c4⟩<;>exact⟨a1,by simp[St,sx,b1,b2,b3,b4,b5,b6,b7,b8,b9,b10],c1,c2,c3,c4⟩) ?_ ?_
 ·rintro i t df g hi ⟨rfl,⟨h1,h2,h12,h13,h14,h5,h6,h7,h20,h8,-⟩,e0,ef,hnn,hnx⟩ h22 h21;obtain⟨u,hu,-,hum⟩:=af hi;obtain⟨hu0,hum⟩:=hF.vr u hum;obtain⟨un,rfl⟩:=Ty hu0;have hcl:=hF.cl;have hdr:f.cards.drop i=f.cards[i]::f.cards.drop (i+1):=UE (by omega);have hval:vals[un]?=some vals[un]:=Tn (by omega);have hpvi:(S.Q7 vals f.vars)[i]?=some vals[un]:=by simp[S.Q7,hu,hval]
  have hdp:(S.Q7 vals f.vars).drop i=vals[un]::(S.Q7 vals f.vars).drop (i+1):=by
   have hl:i<(S.Q7 vals f.vars).length:=by rw[eM];exact hi
   rw[UE hl];rw[Tn hl]at hpvi;injection hpvi with hpvi;rw[hpvi]
  have hv0:0<=vals[un]:=by obtain⟨v',h1,h2,-⟩:=hin.get (i:=i) (c:=f.cards[i]) (Tn (by omega));rw[IC hpvi h1];exact h2
  generalize vals[un]=x at hval hpvi hdp hv0;have hRu:=hR.2 i (un:Int) (Ue _) hu;rw[TH]at hRu;have hRl:=(Tu.1 hRu).1;have u1:i<(f.vars.map ci).length:=by simpa using hi
  have u2:(f.vars.map ci)[i]?=some (ci (un:Int)):=by rw[Tt,hu];rfl
  have u3:un<(vals.map ci).length:=by simp;omega
  have u4:(vals.map ci)[un]?=some (ci x):=by rw[Tt,hval];rfl
  have u5:un<(R.map ci).length:=by simpa using hRl
  have u6:(R.map ci)[un]?=some (ci (S.Q5 (f.cards.drop (i+1)))):=by rw[Tt,hRu];rfl
  have hidx:S.Q9 (f.cards.drop i) ((S.Q7 vals f.vars).drop i)=x*S.Q5 (f.cards.drop (i+1))+S.Q9 (f.cards.drop (i+1)) ((S.Q7 vals f.vars).drop (i+1)):=by rw[hdr,hdp,S.Q9]
  have hb1:=bY (cards:=f.cards.drop (i+1)) (vals:=(S.Q7 vals f.vars).drop (i+1)) (λc hc=>hF.cb c (Uj hc)) (hin.drop (i+1));have hb2:=bY (cards:=f.cards.drop i) (vals:=(S.Q7 vals f.vars).drop i) (λc hc=>hF.cb c (Uj hc)) (hin.drop i);have hpp:=eV (cs:=f.cards.drop (i+1)) λc hc=>(hF.cb c (Uj hc)).1;have hxs:0<=x*S.Q5 (f.cards.drop (i+1)):=Ur hv0 (by omega);have w1:IntKind.wrap .i64 (x*S.Q5 (f.cards.drop (i+1)))=x*S.Q5 (f.cards.drop (i+1)):=au (by omega) (by omega);have w2:IntKind.wrap .i64 (p - S.Q9 (f.cards.drop i) ((S.Q7 vals f.vars).drop i)+x*S.Q5 (f.cards.drop (i+1)))=p - S.Q9 (f.cards.drop (i+1)) ((S.Q7 vals f.vars).drop (i+1)):=by rw[au (by omega) (by omega)];omega
  simp only[sz,simprocAttr,h1,h2,h6,h8,h20,h22,h21,e0,rva,u1,u2,rv,u3,u4,s1,s2,s3,rz,u5,u6,ci,w1,w2];refine⟨by simp[St,sx,h1,h2,h12,h13,h14,h5,h6,h7,h20],e0,ef,by omega,by first|exact hnx| (simp;done)| (simp;omega)⟩
 ·rintro t df g ⟨rfl,h⟩;exact fin t g h
structure WtJ (n:Net) (vals:List Int) (b fl S_ wv:AV) (k:Nat) (t:T) (g:G):Prop where
 st:St t [(1,wv),(2,.hptr 0 0 0 0),(12,fl),(5,.int .i64 (S.Q5 ((List.range k).map (S.RO n vals))))]
 h0:g.h.get 0=We 4 [[.int .i64 n.grain,b,fl,S_]]
 nx:1<=g.nx
theorem K6{d kk ky:Nat}{P:Nat->Prop}{g:G}{v w:AV}{n:Net}{y:QnM}{vals:List Int}(hd:0<d)(hr:NR n)(hm:Agg y NoP ky g.h v)(hq:QnOk n y)(hv:SlR P kk g.h vals w)(hc:InC (S.Q6 n) vals) :
  an C0 d N.RQ [v,w] g=.val (.int .i64 (S.RL n vals)):=by
 have e0:=cW d hm;obtain⟨cs,rfl,hcs⟩:=hm;obtain⟨b,fl,S_,rfl,hN,hfl,hS⟩:=uV.1 hcs;have hfl:SlR NoP ky .nil y.2.1 fl:=hfl.tree (Tp _);have hS:SlR NoP ky .nil y.2.2 S_:=hS.tree (Tp _);obtain⟨w',e2,hw'⟩:=cX hv d;have hgr:y.1.grain=n.grain:=by rw[hq.net]
 obtain⟨frows,f1,f2,f3,f4⟩:=hfl.all;have f1:∀h',ac h' 3 fl=some frows:=f1;obtain⟨srows,s1,s2,s3,s4⟩:=Ef hS;have rv:=λh=>(hw' h).ints;have hvl:=hc.len;rw[aY]at hvl;have hl8:=hr.l2;have hfll:=hq.fl;rw[mZ];refine oo oU (xs:=[.agg [.int .i64 y.1.grain,b,fl,S_],w']) (by simp only[aK,e0,e2]) (by simp[dR]) hd ?_;rw[hgr];have ll:=hfl.len;simp only[sz,simprocAttr,dR,gf,ll,hfll];simp only[fB,fD];refine aq (m:=n.nodes.length) (by omega) (λk t df g=>df=[]/\WtJ n vals b fl S_ w' k t g) ⟨rfl,by simp[St,sx,S.Q5],by simp[sx],by simp⟩ (by simp[sx]) (by simp[sx]) (by decide)
  (by rintro j t df g v s (rfl|rfl|rfl) ⟨a1,⟨b1,b2,b3,b4,-⟩,c1,c2⟩<;>exact⟨a1,by simp[St,sx,b1,b2,b3,b4],c1,c2⟩) ?_ ?_
 ·rintro k t df g hk ⟨rfl,⟨h1,h2,h12,h5,-⟩,g0,hnx⟩ h14 h13;obtain⟨x,hx,-,-⟩:=af hk;obtain⟨p,hp,hf⟩:=hq.fs k x (by omega) hx;obtain⟨row,q1,q2⟩:=f3 k _ hf;obtain⟨va,ca,wa,rfl,hva,hca,hwa⟩:=eC.1 q2;have hF:=LJ hr hx hp;obtain⟨pn,i1,i2,i3⟩:=PX hr hc hx p;have hlt:k<frows.length:=by omega
  have hry:=f4 (by omega);obtain⟨R,hR,-,-⟩:=af (l:=y.2.2) (j:=k) (by rw[hq.sl];exact hk);obtain⟨z,z1,z2,z3⟩:=s3 k R hR;have hinp:InC (S.R7 n k x p).cards (S.Q7 vals (S.R7 n k x p).vars):=kp hc λu hu=>by rw[aY];exact Aw hr hx p u hu
  have hib:=bY hF.cb hinp;have hpb:=ba (l:=(S.R7 n k x p).cards) hF.cb;have hfv:=hF.vl;have hp4:=bI (a:=(S.R7 n k x p).cards.length) (b:=9) (by
   have h1:=ku (hr.places x (Tv hx)) (by omega);have h3:=tY x.parents p (k:Int) hp;show (S.Q7 _ _).length<=9;rw[eM];omega)
  have h48:(4:Int) ^ 9=262144:=by decide
  have ei:S.Q9 (S.R7 n k x p).cards (S.Q7 vals (S.R7 n k x p).vars)=(pn:Int):=i1;have lva:=hva.len;have rwa:=λh=>(hwa.tree (h':=h) (Tp _)).ints;refine bh (P:=λt' df g'=>df=[]/\g'=(g.new (We 3 [[.nils,.nils,.nils]])).put g.nx (We 3 [[va,ca,wa]])/\St t' [(1,w'),(2,.hptr 0 0 0 0),(12,fl),(13,.int .i64 (n.nodes.length:Int)),(14,.int .i64 (k:Int)),(5,.int .i64 (S.Q5 ((List.range k).map (S.RO n vals)))),(6,.int .i64 (k:Int)),(7,.hptr g.nx 0 0 0)]) ?_ ?_
  ·simp only[sz,simprocAttr,h14,h12,f1,hlt,q1];simp[St,sx,h1,h2,h12,h13,h14,h5]
  clear h1 h2 h12 h5 h14 h13;rintro t df g1 ⟨rfl,hg1,⟨h1,h2,h12,h13,h14,h5,h6,h7,-⟩⟩;have k0:g1.h.get 0=We 4 [[.int .i64 n.grain,b,fl,S_]]:=by rw[hg1];simp[Q_,show ¬0=g.nx by omega,g0]
  have k1:g1.h.get g.nx=We 3 [[va,ca,wa]]:=by rw[hg1];simp[Q_]
  have kn:g1.nx=g.nx+1:=by rw[hg1];simp
  simp only[sz,simprocAttr,h7,k1,lva];refine K5 (y:=y) (b:=b) (fl:=fl) (S_:=S_) (wv:=w') (va:=va) (ca:=ca) (wa:=wa) (gr:=n.grain) (wt:=S.Q5 ((List.range k).map (S.RO n vals))) (p:=(pn:Int)) (f:=S.R7 n k x p) (R:=R) (vals:=vals) (mm:=n.nodes.length) (m:=n.nodes.length) (k:=k) (fb:=g.nx) hva hF (hq.st k _ R hf hR) hvl ⟨srows,z,s1,z1,z2,z3⟩ rv ei.symm hinp (by omega)
   ⟨by simp[St,sx,h1,h2,h12,h13,h14,h5,h6,h7,ei],by simpa using k0,by simpa using k1,by simp[ei],by omega⟩ (by simp[sx]) (by simp[sx]) ?_
  clear h1 h2 h12 h13 h14 h5 h6 h7;rintro t g2 ⟨⟨h1,h2,h12,h13,h14,h5,h6,h7,h20,h8,-⟩,k0,k1,-,hnx2⟩;have hnil:S.Q9 ((S.R7 n k x p).cards.drop (S.R7 n k x p).vars.length) ((S.Q7 vals (S.R7 n k x p).vars).drop (S.R7 n k x p).vars.length)=0:=by rw[Ve (by rw[hF.cl];exact Tp _)];rfl
  rw[hnil,Int.sub_zero]at h8;have u1:pn<((S.R7 n k x p).w.map ci).length:=by rw[Tz];exact (Tu.1 i3).1
  have u2:((S.R7 n k x p).w.map ci)[pn]?=some (ci (S.RO n vals k)):=by rw[Tt];exact congrArg (Option.map ci) i3
  have wb:=uW hr hc (j:=k+1) (by omega);have ws:=H8 n vals k;have w1:IntKind.wrap .i64 (S.Q5 ((List.range k).map (S.RO n vals))*S.RO n vals k)=S.Q5 ((List.range (k+1)).map (S.RO n vals)):=by rw[<-ws,au (by omega) (by omega)]
  simp only[sz,simprocAttr,fC,h5,h7,k1,h8,rwa,u1,u2,ci,w1];exact⟨⟨by simp[St,sx,h1,h2,h12],k0,hnx2⟩,h14,h13⟩
 ·rintro t df g ⟨rfl,⟨h1,h2,h12,h5,-⟩,g0,hnx⟩;simp only[sz,simprocAttr,fE,h5]
  rfl
def S.S2(vals e:List Int)(i:Nat):Bool:=decide (e[i]?.getD 0 = -1) || decide (e[i]?.getD 0=vals[i]?.getD 0)
def S.jm(vals e:List Int):Bool:=(List.range e.length).all (S.S2 vals e)
theorem AH{vals e:List Int}(h:∀x∈e,-1<=x):S.jm vals e=S.Rr vals e:=by
 have key:S.S2 vals e=S.SY vals e:=by
  funext i;have h1:-1<=e[i]?.getD 0:=by
   cases hx:e[i]? with
   |none=>decide
   |some x=>exact h x (Tv hx)
  unfold S.S2 S.SY;generalize e[i]?.getD 0=x at h1;congr 1;rw[decide_eq_decide];omega
 rw[S.jm,S.Rr,key]
theorem AN{d k k2:Nat}{g:G}{P P2:Nat->Prop}{v w:AV}{vals e:List Int}(hd:0<d)(hv:SlR P k g.h vals v)(hw:SlR P2 k2 g.h e w)(hl:e.length<=vals.length) :
  an C0 d N.RO [v,w] g=.val (.bool (S.jm vals e)):=by
 obtain⟨v',e1,r1⟩:=cX hv d;obtain⟨w',e2,r2⟩:=cX hw d;have ra:∀h',ac h' 1 v'=some (vals.map ci):=λh'=>(r1 h').ints;have rb:∀h',ac h' 1 w'=some (e.map ci):=λh'=>(r2 h').ints;have n2:=λg=>(r2 .nil).len g;rw[u_];refine eR xN (xs:=[v',w']) (by simp only[aK,e1,e2]) (by simp[lR]) hd ?_;simp only[sz,simprocAttr,lR,nc,n2];refine aq (m:=e.length) hw.1 (λj t df g=>df=[]/\St t [(0,v'),(8,w'),(5,.bool true)]/\(List.range j).all (S.S2 vals e)=true) ⟨rfl,by simp[St,sx],rfl⟩ (by simp[sx]) (by simp[sx]) (by decide) (by rintro j t df g v s (rfl|rfl|rfl)<;>simp[St,sx]) ?_ ?_
 ·rintro j t df g hj ⟨rfl,⟨h0,h8,h5,-⟩,hA⟩ h10 h9;obtain⟨x,hx,-,-⟩:=af hj;obtain⟨z,hz,-,-⟩:=af (l:=vals) (j:=j) (by omega);have q1:j<(e.map ci).length:=by simpa using hj
  have q2:j<(vals.map ci).length:=by rw[Tz];omega
  have q3:(e.map ci)[j]?=some (ci x):=by rw[Tt,hx];rfl
  have q4:(vals.map ci)[j]?=some (ci z):=by rw[Tt,hz];rfl
  have hat:S.S2 vals e j=(decide (x = -1) || decide (x=z)):=by simp[S.S2,hx,hz]
  by_cases c1:x = -1
  ·subst c1;simp only[sz,simprocAttr,h10,h9,h8,rb,q1,q3,ci];refine⟨by simp[St,sx,h0,h8,h5],?_⟩;rw[ct,hA,hat];simp
  ·by_cases c2:x=z
   ·subst c2;simp only[sz,simprocAttr,h10,h9,h8,h0,ra,rb,q1,q2,q3,q4,ci,c1];refine⟨by simp[St,sx,h0,h8,h5],?_⟩;rw[ct,hA,hat];simp
   ·have:S.S2 vals e j=false:=by rw[hat];simp[c1,c2]
    have hf:S.jm vals e=false:=by rw[S.jm,eO hj this]
    simp only[sz,simprocAttr,h10,h8,h0,ra,rb,q1,q2,q3,q4,ci,c1,c2,gY,hf]
 ·rintro t df g ⟨rfl,⟨h0,h8,h5,-⟩,hA⟩;simp only[sz,simprocAttr,gY,h5];rw[S.jm,hA]
theorem Lp{α:Type} [Rp α]{P:Nat->Prop}{k:Nat}{h:H}{l:List α}{w:AV}(hw:SlR P k h l w)(g:G):Lo w g=.upd (.hptr g.nx 0 0 0) (g.new (We 1 [[w]])):=by rw[GX _ _ hw.cell.2,hw.cell.1];rfl
def Le{α:Type} [Rp α](x:α)(sz:Nat):VS:=λP k h v=>(∃id cs,v=.hptr id 0 0 0/\P id/\h.get id=We sz [cs]/\Rp.rp P k h x cs)\/∃t cs,v=.tptr t sz [cs] 0 0/\t<=k/\Rp.rp NoP k .nil x cs
theorem F0{α:Type} [Rp α]{x:α}{sz:Nat}{P:Nat->Prop}{k:Nat}{h:H}{v:AV}{n:Nat}(d:Nat)(r:Le x sz P k h v)(hn:Rp.dp α<=n)(hd:Rp.dp α<=20:=by decide):∃v',Hx.snap h d (n+1) v=some v'/\Le x sz NoP (max k d) .nil v':=by
 rcases r with⟨id,cs,rfl,-,hg,r⟩|⟨t,cs,rfl,ht,r⟩
 ·obtain⟨cs',e,r'⟩:=Rp.snap (n:=n) d r hn (by show _<=24;omega);obtain⟨m,e2,l2⟩:=Rp.tag (n:=aD) r' (by show _<=24;omega);refine⟨.tptr (Nat.max d (Nat.max m 0)) sz [cs'] 0 0,?_,.inr ⟨_,cs',rfl,?_,r'⟩⟩
  ·simp only[Hx.snap,hg,show Nat.beq 0 0=true from rfl,aK,e,fq,gQ,e2]
  ·show max d (max m 0)<=max k d;omega
 ·exact⟨.tptr t sz [cs] 0 0,rfl,.inr ⟨t,cs,rfl,by omega,Rp.mono r (λi hi=>hi.elim) (by omega)⟩⟩
theorem I8{α:Type} [Rp α]{x:α}{sz:Nat}{k:Nat}{h:H}{v:AV}{n:Nat}(r:Le x sz NoP k h v):∃m,eS (n+1) v=some m/\m<=k:=by
 rcases r with⟨id,cs,rfl,hP,-⟩|⟨t,cs,rfl,ht,r⟩
 ·exact hP.elim
 ·exact⟨t,rfl,ht⟩
def MtV(y:QnM)(e:List Int):VS:=λP k h v=>∃p q,v=.clo N.Q5 [] [p,q]/\Le y 4 P k h p/\Le e 1 P k h q
theorem Qg(y:QnM)(e:List Int):Snb (MtV y e) 2:=by
 refine⟨λ{P k h v n} d r hn=>?_,λ{k h v n} r hn=>?_⟩
 ·obtain⟨p,q,rfl,r1,r2⟩:=r;obtain⟨n,rfl⟩:∃q,n=q+2:=⟨n - 2,by omega⟩;obtain⟨p',e1,r1'⟩:=F0 (n:=n) d r1 (TU (show Rp.dp QnM<=20 by decide) (by omega));obtain⟨q',e2,r2'⟩:=F0 (n:=n) d r2 (TU (show Rp.dp (List Int)<=20 by decide) (by omega));refine⟨.clo N.Q5 [] [p',q'],?_,p',q',rfl,r1',r2'⟩;simp only[Hx.snap,aK]at e1 e2 ⊢;rw[e1,e2]
 ·obtain⟨p,q,rfl,r1,r2⟩:=r;obtain⟨n,rfl⟩:∃q,n=q+2:=⟨n - 2,by omega⟩;obtain⟨m1,e1,l1⟩:=I8 (n:=n) r1;obtain⟨m2,e2,l2⟩:=I8 (n:=n) r2;refine⟨Nat.max m1 (Nat.max m2 0),?_,by show max m1 (max m2 0)<=k;omega⟩;show gQ (eS (n+1)) [p,q]=_;simp only[gQ,e1,e2]
theorem tE{d kk:Nat}{g:G}{v w:AV}{y:QnM}{e:List Int}(hd:0<d)(hm:Agg y NoP 0 g.h v)(hw:SlR NoP kk g.h e w)(hk:kk<d:=by omega) :
  ∃cs z t1 t2,an C0 d N.Rq [v,w] g=.val (.clo N.Q5 [] [.tptr t1 4 [cs] 0 0,.tptr t2 1 [[z]] 0 0])/\Rp.rp NoP kk .nil y cs/\SlR NoP kk .nil e z:=by
 have e0:=cW d hm;obtain⟨cs,rfl,hc⟩:=hm;obtain⟨a,b,c,rfl,h1,h2,h3⟩:=uV.1 hc;have key:∃r,an C0 d N.Rq [.agg [.int .i64 y.1.grain,a,b,c],w] g=.val r/\MtV y e NoP kk .nil r:=by rw[lN];refine bg m6 (xs:=[.agg [.int .i64 y.1.grain,a,b,c],w]) (by simp only[aK,e0,qP d hw]) (by simp[dj]) (Qg y e) (by decide) hk ?_;simp only[sz,simprocAttr,dj,fj,Lp hw];refine⟨λ_=>True,_,_,rfl,.inl ⟨0,_,rfl,trivial,by simp[sx,Q_],Rp.tree hc (Ue _)⟩,.inl ⟨1,[w],rfl,trivial,by simp[sx],?_⟩⟩;exact⟨w,rfl,hw.wide (Tp _)⟩
 obtain⟨r,hr,p,q,rfl,r1,r2⟩:=key;rcases r1 with⟨id,cs,rfl,hP,-⟩|⟨t,cs,rfl,ht,r1⟩
 ·exact hP.elim
 rcases r2 with⟨id,cs,rfl,hP,-⟩|⟨t2,cs2,rfl,ht2,r2⟩
 ·exact hP.elim
 obtain⟨z,rfl,hz⟩:=f6.1 r2;exact⟨cs,z,t,t2,hr,r1,hz⟩
theorem MO{cs vs:List Int}(h:InC cs vs)(hc:∀c∈cs,1<=c){i:Nat}{x c:Int}(hi:vs[i]?=some x)(hci:cs[i]?=some c)(hx:x≠c - 1):InC cs (vs.take i++(x+1)::List.replicate (vs.length - (i+1)) 0):=by
 have hil:=(Tu.1 hi).1;have hl:=h.len;refine xW (by simp;omega) λj c' v hj hv=>?_;obtain⟨v',h1,h2,h3⟩:=h.get hj;have hcp:=hc c' (Tv hj)
 by_cases h4:j<i
 ·rw[TD (by simp;omega),Uy h4]at hv;rw[h1]at hv;injection hv with hv;omega
 ·rw[TB (by simp;omega)]at hv;rw[Un,V8 (by omega)]at hv
  by_cases h5:j=i
  ·subst h5;rw[UB]at hv;simp at hv;rw[hi]at h1;injection h1 with h1;rw[hci]at hj;injection hj with hj;omega
  ·obtain⟨m,hm⟩:∃m,j - i=m+1:=⟨j - i - 1,by omega⟩;rw[hm,List.getElem?_cons_succ]at hv;have:=Tv hv;rw[Vj]at this;omega
theorem N0{cs:List Int}(hc:∀c∈cs,1<=c):InC cs (List.replicate cs.length 0) :=
 xW (by simp) λj c v hj hv=>by have:=Tv hv;rw[Vj]at this;have:=hc c (Tv hj);omega
theorem Et{vs:List Int}{m:Nat}(h:m<vs.length):(vs.take (m+1)++List.replicate (vs.length - (m+1)) 0).set m 0=vs.take m++List.replicate (vs.length - m) 0:=by
 rw[List.take_succ_eq_append_getElem h,UO,U8 _ _ (by simp;omega),Un,V8 (by omega),UB];rw[show vs.length - m=(vs.length - (m+1))+1 by omega,Uu]
 rfl
theorem Es{vs:List Int}{m:Nat}(h:m<vs.length)(y:Int):(vs.take (m+1)++List.replicate (vs.length - (m+1)) 0).set m y=vs.take m++y::List.replicate (vs.length - (m+1)) 0:=by
 rw[List.take_succ_eq_append_getElem h,UO,U8 _ _ (by simp;omega),Un,V8 (by omega),UB]
 rfl
structure OdoJ (n:Net) (vs:List Int) (L:List (Nat×AV)) (u:AV) (g0:G) (m:Nat) (t:T) (g:G):Prop where
 st:tat t 6=.int .i64 ((m:Int) - 1)
 ss:St t L
 ow:Own g g0.nx u 1 ((vs.take m++List.replicate (vs.length - m) 0).map ci)
 mx:∀(j:Nat) (c:Int),m<=j->(S.Q6 n)[j]?=some c->vs[j]?.getD 0=c - 1
def LM(id:Nat)(gr:Int)(b fl S_ w u:AV)(k t1 t2:Nat):List (Nat×AV):=[(0,.yld id),(1,.tptr t1 4 [[.int .i64 gr,b,fl,S_]] 0 0),(2,.tptr t2 1 [[w]] 0 0),(4,u),(5,.int .i64 (k:Int))]
theorem Km{d id k m t1 t2 ky:Nat}{n:Net}{b fl S_ w u:AV}{vs:List Int}{Q:QT}{t:T}{g g0:G}(hr:NR n)(hN:SlR NoP ky .nil n.nodes b)(hc:InC (S.Q6 n) vs)(hm:m<=n.nodes.length)
  (h0:OdoJ n vs (LM id n.grain b fl S_ w u k t1 t2) u g0 m t g)
  (fin:∀m' t g',m'<=n.nodes.length->OdoJ n vs (LM id n.grain b fl S_ w u k t1 t2) u g0 m' t g'->g.nx<=g'.nx->(∀i,vid u≠some i->g'.h.get i=g.h.get i)->(m'=0\/∃x c,vs[m' - 1]?=some x/\(S.Q6 n)[m' - 1]?=some c/\x≠c - 1/\0<m')->Q (.exit 2) t [] g') :
  wpL (wp C0 d none bM) Q t [] g:=by
 obtain⟨rows,r1,r2,r3,r4⟩:=hN.all;have r1:∀h',ac h' 3 b=some rows:=r1;have hvl:=hc.len;rw[aY]at hvl;have hl8:=hr.l2;refine qV (λm t df g'=>df=[]/\m<=n.nodes.length/\OdoJ n vs (LM id n.grain b fl S_ w u k t1 t2) u g0 m t g'/\g.nx<=g'.nx/\∀i,vid u≠some i->g'.h.get i=g.h.get i) m ⟨rfl,hm,h0,Tp _,λ_ _=>rfl⟩ ?_;rintro m t df g1 ⟨rfl,hm,⟨h6,⟨h0,h1,h2,h4,h5,-⟩,how,hmx⟩,hnx,hfr⟩;simp only[bM];cases m with
 | zero =>
  have c1:¬((0:Int)<=((0:Nat):Int) - 1):=by omega
  simp only[sz,simprocAttr,h6,c1];refine fin 0 _ _ (Ue _) ⟨?_,?_,?_,hmx⟩ ?_ ?_ (.inl rfl)
  ·simp[sx,h6]
  ·simp[St,LM,sx,h0,h1,h2,h4,h5]
  ·exact how
  ·exact hnx
  ·exact hfr
 | succ m =>
  have c1:(0:Int)<=((m+1:Nat):Int) - 1:=by omega
  have e1:((m+1:Nat):Int) - 1=(m:Int):=by omega
  rw[e1]at c1 h6;obtain⟨x,hx,-,-⟩:=af (l:=n.nodes) (j:=m) (by omega);obtain⟨row,q1,q2⟩:=r3 m x hx;obtain⟨pa,ra,rfl,-,-⟩:=fm.1 q2;have hlt:m<rows.length:=by omega
  have hry:=r4 (by omega);have hci:(S.Q6 n)[m]?=some x.card:=by simp[S.Q6,hx]
  obtain⟨v,hv,hv0,hv1⟩:=hc.get hci;have hcx:=hr.card x (Tv hx);have u1:m<((vs.take (m+1)++List.replicate (vs.length - (m+1)) 0).map ci).length:=by simp;omega
  have u2:((vs.take (m+1)++List.replicate (vs.length - (m+1)) 0).map ci)[m]?=some (ci v):=by rw[Tt,TD (by simp;omega),Uy (by omega),hv];rfl
  have ru:=how.rows;have w1:IntKind.wrap .i64 (x.card - 1)=x.card - 1:=au (by omega) (by omega)
  by_cases c2:v=x.card - 1
  ·simp only[sz,simprocAttr,h6,h1,h4,c1,ru,u1,u2,r1,hlt,q1,hry,wP,eo,ci,w1,c2];refine bw (v:=u) (sz:=1) (n:=1) (i:=m) (off:=0) (x:=.int .i64 0) (row':=ci 0) how u2 rfl rfl rfl λg4 hu4 n4 f4=>?_;rw[<-UJ,Et (by omega)]at hu4;have w2:IntKind.wrap .i64 ((m:Int) - 1)=(m:Int) - 1:=au (by omega) (by omega);simp only[sz,simprocAttr,h6,w2];refine⟨m,by omega,by omega,⟨by simp[sx],by simp[St,LM,sx,h0,h1,h2,h4,h5],hu4,λj c hj hc'=>?_⟩,by omega,λi hi=>by rw[f4 i hi,hfr i hi]⟩
   by_cases e:j=m
   ·subst e;rw[hci]at hc';injection hc' with hc';rw[hv,Tq];omega
   ·exact hmx j c (by omega) hc'
  ·simp only[sz,simprocAttr,h6,h1,h4,c1,ru,u1,u2,r1,hlt,q1,hry,wP,eo,ci,w1,c2];refine fin (m+1) _ _ hm ⟨?_,?_,?_,hmx⟩ ?_ ?_ (.inr ⟨v,x.card,hv,hci,c2,by omega⟩)
   ·simp[sx,h6]
   ·simp[St,LM,sx,h0,h1,h2,h4,h5]
   ·exact how
   ·exact hnx
   ·exact hfr
theorem P3{a b u:AV}(ha:a.cells=[a]/\a.isTup=false)(hb:b.cells=[b]/\b.isTup=false)(hu:u.cells=[u]/\u.isTup=false):jN [.int .i64 0,.int .i64 0,.nils] [((0,1),a),((1,1),b),((2,1),u)]=some [a,b,u]:=by
 simp[jN,ha,hb,hu,cT]
 rfl
theorem Kn{d id t1 t2 ky ke:Nat}{n:Net}{y:QnM}{e:List Int}{b fl S_ w:AV}{g0:G}{K:AV->G->Prop}(hd:0<d)(hr:NR n)(hq:QnOk n y)(hcs:Rp.rp NoP ky .nil y [.int .i64 n.grain,b,fl,S_])(hw:SlR NoP ke .nil e w)(hel:e.length<=n.nodes.length)
  (J:Nat->H->Prop) (E:G->Prop) (hJ:∀j h h',(∀i,i<g0.nx->h'.get i=h.get i)->J j h->J j h')
  (skip:∀(j:Nat) (h:H),j<S.Rx n->S.jm (S.Rb (S.Q6 n) j) e=false->J j h->J (j+1) h)
  (step:∀(j:Nat) (u:AV) (g:G) (K':AV->G->Prop) (D:ADf->Prop),j<S.Rx n->S.jm (S.Rb (S.Q6 n) j) e=true->g0.nx<=g.nx->J j g.h->SlR (λi=>g0.nx<=i/\i<g.nx) 0 g.h (S.Rb (S.Q6 n) j) u ->
   (∀g',J (j+1) g'.h->g.nx<=g'.nx->(∀i,g0.nx<=i->i<g.nx->g'.h.get i=g.h.get i)->K' (.bool true) g')->(∀g',E g'->K' (.bool false) g')->(cz (I C0) d id [.agg [.int .i64 (j:Int),.int .i64 (S.RL n (S.Rb (S.Q6 n) j)),u]] g).sat K' g D)
  (h0:J 0 g0.h) (fin:∀g',J (S.Rx n) g'.h->g0.nx<=g'.nx->K (.tup []) g') (finE:∀g',E g'->K (.tup []) g') :
  wp C0 d none aM.code (fnQ C0 d aM.res K) (cy 0 [.yld id,.tptr t1 4 [[.int .i64 n.grain,b,fl,S_]] 0 0,.tptr t2 1 [[w]] 0 0] .nil) [] g0:=by
 obtain⟨b',fl',S',e1,hN,hfl,hS⟩:=uV.1 hcs;injection e1 with e1 e2;injection e2 with e2 e3;injection e3 with e3 e4;injection e4 with e4 e5;subst e2;subst e3;subst e4;have hN:SlR NoP ky .nil n.nodes b:=by rw[<-hq.net];exact hN
 have hl8:=hr.l2;have hl1:=hr.l1;obtain⟨W1,W2,W3⟩:=hr.wl;have hcs1:=λc hc=>(hr.cs c hc).1;have nl:=hN.len;have hcl:=aY n;obtain⟨Qf,hQf⟩:∃Qf,Qf=fnQ C0 d aM.res K:=⟨_,rfl⟩;rw[<-hQf];simp only[sz,simprocAttr,aM,wP,eo,nl];refine jA (b:=g0.nx) (n:=n.nodes.length) (by unfold aQ;omega) (by unfold aQ;omega) (Tp _) λu g1 hu n1 fr1 v1=>?_;simp only[sz,simprocAttr];have hul:∀(g:G) (l:List Int),l.length=n.nodes.length->Own g g0.nx u 1 (l.map ci)->∀g2:G,dm .slice u g2=.val (.int .i64 (n.nodes.length:Int)):=λg l hl ho g2=>by rw[bQ ho.rows];simp[hl]
 obtain⟨INV,hINV⟩:∃INV:Nat->PT,INV=(λm t df g=>df=[]/\∃(j:Nat) (vs:List Int),m=S.Rx n - j/\j<S.Rx n/\InC (S.Q6 n) vs/\S.Q9 (S.Q6 n) vs=(j:Int)/\St t (LM id n.grain b fl S_ w u j t1 t2)/\Own g g0.nx u 1 (vs.map ci)/\J j g.h/\g0.nx<=g.nx):=⟨_,rfl⟩;refine qV INV (S.Rx n) ?_ ?_
 ·rw[hINV];exact⟨rfl,0,List.replicate n.nodes.length 0,rfl,by omega,by rw[<-hcl];exact N0 hcs1,by rw[Az];rfl,by simp[St,LM,sx],by simpa [ci] using hu,hJ 0 _ _ (λi hi=>fr1 i hi) h0,by omega⟩
 intro m t df g hI;have hI2:=hI;rw[hINV]at hI2;obtain⟨rfl,j,vs,rfl,hj,hin,hidx,⟨h0,h1,h2,h4,h5,-⟩,ho,hJj,hnx⟩:=hI2;clear hI;have hvl:=hin.len;rw[aY]at hvl;have hval:S.Rb (S.Q6 n) (j:Int)=vs:=by rw[<-hidx];exact Bq hcs1 hin
 have hvu:vid u=some g0.nx:=v1;have hsl:SlR (λi=>g0.nx<=i/\i<g.nx) 0 g.h vs u:=Own.sl (α:=Int) ho (by omega) (Q5 (λa=>aB.2 rfl) _) λi hi=>ho.lt hi;have hmt:=AN (d:=d) (g:=g) (v:=u) (w:=w) (vals:=vs) (e:=e) hd hsl (hw.tree (h':=g.h) (Tp _)) (by omega);have hlu:=hul g vs hvl ho;have w1:IntKind.wrap .i64 ((n.nodes.length:Int) - 1)=(n.nodes.length:Int) - 1:=au (by omega) (by omega);obtain⟨R,hR⟩:∃R:SC,R=@SC.seq (.ops [⟨some 28,none,.mv (.t 4)⟩,⟨some 29,none,.len .slice (.t 28)⟩,⟨some 30,none,.bin .sub (.t 29) (.k (.int .i64 1))⟩,⟨some 6,none,.mv (.t 30)⟩]) (@SC.seq (.blk 2 (.loop bM)) bN):=⟨_,rfl⟩;simp only[dP,cP3];rw[<-hR,dK,ym];obtain⟨Q1,hQ1⟩:∃Q1,Q1=kB 1 (kS (wp C0 d none cj (kL INV (S.Rx n - j) (kB 0 Qf))) (kL INV (S.Rx n - j) (kB 0 Qf))):=⟨_,rfl⟩;rw[<-hQ1];have rest:∀(t:T) (g:G),St t (LM id n.grain b fl S_ w u j t1 t2)->Own g g0.nx u 1 (vs.map ci)->J (j+1) g.h->g0.nx<=g.nx->wp C0 d none R Q1 t [] g:=by
  rintro t g ⟨h0,h1,h2,h4,h5,-⟩ ho hJj hnx;rw[hR,hQ1];simp only[sz,simprocAttr,h4,hlu,w1];refine Km (t1:=t1) (t2:=t2) (id:=id) (k:=j) (m:=n.nodes.length) (n:=n) (b:=b) (fl:=fl) (S_:=S_) (w:=w) (u:=u) (vs:=vs) (g0:=g0) hr hN hin (Tp _) ⟨by simp[sx],by simp[St,LM,sx,h0,h1,h2,h4,h5],?_,λi c hi hc=>?_⟩ ?_
  ·rw[Ug (by omega),show vs.length - n.nodes.length=0 by omega];simpa using ho
  ·have:=(Tu.1 hc).1;omega
  rintro m' t2 g2 hm' ⟨h6,⟨h0,h1,h2,h4,h5,-⟩,ho2,hmx⟩ hn2 hf2 hcase;have hJ2:J (j+1) g2.h:=hJ _ _ _ (λi hi=>hf2 i λe=>by rw[hvu]at e;injection e with e;omega) hJj;rcases hcase with rfl|⟨x,c,hx,hc,hxc,hm0⟩
  ·have hlast:j+1=S.Rx n:=by have:=D1 (cs:=S.Q6 n) (vs:=vs) hin.len.symm λi c hc=>hmx i c (Ue _) hc;omega
   have c1:(((0:Nat):Int) - 1<0):=by omega
   rw[hQf];simp only[sz,simprocAttr,bN,aM,h6,c1];rw[hlast]at hJ2;exact fin g2 hJ2 (by omega)
  ·obtain⟨i,rfl⟩:∃i,m'=i+1:=⟨m' - 1,by omega⟩;rw[Nat.add_sub_cancel]at hx hc;have hil:=(Tu.1 hx).1;have e1:((i+1:Nat):Int) - 1=(i:Int):=by omega
   rw[e1]at h6;have c1:¬((i:Int)<0):=by omega
   have u1:i<((vs.take (i+1)++List.replicate (vs.length - (i+1)) 0).map ci).length:=by simp;omega
   have u2:((vs.take (i+1)++List.replicate (vs.length - (i+1)) 0).map ci)[i]?=some (ci x):=by rw[Tt,TD (by simp;omega),Uy (by omega),hx];rfl
   have ru:=ho2.rows;obtain⟨x',hx',hx0,hx1⟩:=hin.get hc;rw[IC hx' hx]at hx0 hx1;have hcb:=hr.cs c (Tv hc);have w2:IntKind.wrap .i64 (x+1)=x+1:=au (by omega) (by omega);simp only[sz,simprocAttr,bN,h6,c1,h4,ru,u1,u2,ci,w2];refine bw (v:=u) (sz:=1) (n:=1) (i:=i) (off:=0) (x:=.int .i64 (x+1)) (row':=ci (x+1)) ho2 u2 rfl rfl rfl λg4 hu4 n4 f4=>?_;rw[<-UJ,Es hil]at hu4;have hin2:=MO hin hcs1 hx hc hxc;have hidx2:=Ml (cs:=S.Q6 n) (vs:=vs) hin.len.symm hx λk c hk hc=>hmx k c (by omega) hc;rw[hidx]at hidx2;have hlt2:=bY hr.cs hin2;have w3:IntKind.wrap .i64 ((j:Int)+1)=((j+1:Nat):Int):=by rw[au (by omega) (by omega)];rfl
   simp only[sz,simprocAttr,cj,h5,w3];refine⟨S.Rx n - (j+1),by omega,?_⟩;rw[hINV];refine⟨rfl,j+1,_,rfl,by omega,hin2,by rw[hidx2];rfl,by simp[St,LM,sx,h0,h1,h2,h4],hu4,hJ _ _ _ (λi hi=>f4 i λe=>by rw[hvu]at e;injection e with e;omega) hJ2,by omega⟩
 cases hm:S.jm vs e with
 | false =>
  rw[hm]at hmt;rw[dK];simp only[sz,simprocAttr,h4,h2,eo,hmt];exact rest _ _ (by simp[St,LM,sx,h0,h1,h2,h4,h5]) ho (skip j _ hj (by rw[hval];exact hm) hJj) hnx
 | true =>
  rw[hm]at hmt;rw[dK];have hwt:=K6 (d:=d) (g:=g) (v:=.agg [.int .i64 n.grain,b,fl,S_]) (w:=u) (vals:=vs) (y:=y) hd hr ⟨_,rfl,Rp.tree hcs (Tp _)⟩ hq hsl hin;simp only[sz,simprocAttr,h0,h1,h5,h4,h2,eo,hmt,hwt,P3 (a:=.int .i64 (j:Int)) (b:=.int .i64 (S.RL n vs)) ⟨rfl,rfl⟩ ⟨rfl,rfl⟩ ho.cell];have st:=λK' D=>step j u g K' D hj (by rw[hval];exact hm) hnx hJj (by rw[hval];exact hsl);rw[hval]at st;show (cz (I C0) d id [.agg [.int .i64 (j:Int),.int .i64 (S.RL n vs),u]] g).sat _ _ _;refine st _ _ (λg' hJ' hn' hf'=>?_) λg' hE=>?_
  ·simp only[sz,simprocAttr];exact rest _ _ (by simp[St,LM,sx,h0,h1,h2,h4,h5]) (ho.fr hn' λi hi=>hf' i (ho.lt hi).1 (ho.lt hi).2) hJ' (by omega)
  ·rw[hQ1,hQf];simp only[sz,simprocAttr,aM];exact finE g' hE
theorem KG{C:Cfg}{d id nt:Nat}{t:T}{ps:List Nat}{assign body:Code}{a b:SC}{dfr:Nat}{args:List AV}{g:G}{K:AV->G->Prop}{D:ADf->Prop}{t':T}
  (hg:g.h.get id=.loop nt t ps assign body dfr .ready none) (ha:dz C nt assign=a) (hb:dz C nt body=b) (hp:cV t nt ps args=some t')
  (h:wp C d (some id) a (λe t1 df g1=>e=.norm/\df=[]/\g1.h.get id=.loop nt t ps assign body dfr .ready none /\
   wp C d (some id) b (λe _ df g2=>df=[]/\g2.h.get id=.loop nt t ps assign body dfr .busy none/\((e=.norm/\K (.bool true) (g2.put id (.loop nt t ps assign body dfr .ready none)))\/(e=.ret/\K (.bool false) (g2.put id (.loop nt t ps assign body dfr .done (some .ret))))))
    t1 [] (g1.put id (.loop nt t ps assign body dfr .busy none))) t' [] g) :
  (cz (I C) d id args g).sat K g D:=by
 subst ha;subst hb;unfold cz;rw[show g.get id=_ from hg];dsimp only;rw[hp];dsimp only;have h1:=mM h;cases hc:(I C).code nt d (some id) assign t' [] g with
 |fail=>rw[hc]at h1;exact h1.elim
 | ok e t1 df g1 =>
  rw[hc]at h1;obtain⟨rfl,rfl,hg1,h2⟩:=h1;dsimp only;rw[show g1.get id=_ from hg1];dsimp only;have h3:=mM h2;cases hc2:(I C).code nt d (some id) body t1 [] (g1.put id (.loop nt t ps assign body dfr .busy none)) with
  |fail=>rw[hc2]at h3;exact h3.elim
  | ok e t2 df2 g2 =>
   rw[hc2]at h3;obtain⟨rfl,h4,h5⟩:=h3;dsimp only;rw[show g2.get id=_ from h4];rcases h5 with⟨rfl,h5⟩|⟨rfl,h5⟩<;>exact h5
theorem Fa:C0.ext N.Q5=none:=by kernel_rfl
theorem x6{d nt p r t1 t2 ky ke:Nat}{n:Net}{y:QnM}{e:List Int}{cs:List AV}{w:AV}{ca cb:SC}{Q:QT}{t:T}{df:List ADf}{g:G}(hd:0<d)(hr:NR n)(hq:QnOk n y)(hcs:Rp.rp NoP ky .nil y cs)(hw:SlR NoP ke .nil e w)(hel:e.length<=n.nodes.length)
  (hv:tat t r=.clo N.Q5 [] [.tptr t1 4 [cs] 0 0,.tptr t2 1 [[w]] 0 0]) (hp:p<nt)
  (J:Nat->H->Prop) (E:H->Prop) (hJ:∀j h h',(∀i,i<g.nx->h'.get i=h.get i)->J j h->J j h') (hE:∀h h',(∀i,i<g.nx->h'.get i=h.get i)->E h->E h') (h0:J 0 g.h)
  (skip:∀(j:Nat) (h:H),j<S.Rx n->S.jm (S.Rb (S.Q6 n) j) e=false->J j h->J (j+1) h)
  (step:∀(j:Nat) (u:AV) (g1:G),j<S.Rx n->S.jm (S.Rb (S.Q6 n) j) e=true->J j g1.h->g.nx+2<=g1.nx->SlR (λi=>g.nx+2<=i/\i<g1.nx) 0 g1.h (S.Rb (S.Q6 n) j) u ->
   wp C0 d (some (g.nx+1)) ca (λe t1 df g1'=>e=.norm/\df=[]/\Fr g1 g1'/\∀g2:G,g2.nx=g1'.nx->(∀i,i≠g.nx+1->g2.h.get i=g1'.h.get i) ->
    wp C0 d (some (g.nx+1)) cb (λe _ df g3=>df=[]/\RowQ g.nx g2 g3 e (J (j+1) g3.h) (E g3.h)) t1 [] g2)
    (fQ t p (.agg [.int .i64 (j:Int),.int .i64 (S.RL n (S.Rb (S.Q6 n) j)),u])) [] g1)
  (fin:∀g',J (S.Rx n) g'.h->g.nx+2<=g'.nx->g'.h.get g.nx=.dfr true->Q .norm t (.mark g.nx::df) g')
  (finE:∀g',E g'.h->g.nx+2<=g'.nx->g'.h.get g.nx=.dfr true->Q .ret t (.mark g.nx::df) g') :
  wp C0 d none (.rng nt (.t r) [p] ca cb) Q t df g:=by
 obtain⟨b,fl,S_,rfl,-,-,-⟩:=uV.1 hcs;rw[hq.net]at hv hcs;refine Bv (fn:=N.Q5) (first:=[]) (cap:=[.tptr t1 4 [[.int .i64 n.grain,b,fl,S_]] 0 0,.tptr t2 1 [[w]] 0 0]) (s:=aM) hv Fa lP (by simp[aM]) ?_;intro assign body ha hb;have e1:((g.new (.dfr true)).new (.loop nt t [p] assign body g.nx .ready none)).nx=g.nx+2:=by simp
 refine Kn (g0:=(g.new (.dfr true)).new (.loop nt t [p] assign body g.nx .ready none)) (id:=g.nx+1) hd hr hq hcs hw hel
  (λj h=>J j h/\h.get g.nx=.dfr true/\h.get (g.nx+1)=.loop nt t [p] assign body g.nx .ready none)
  (λg'=>E g'.h/\g'.h.get g.nx=.dfr true/\g'.h.get (g.nx+1)=.loop nt t [p] assign body g.nx .done (some .ret)/\g.nx+2<=g'.nx) ?_ ?_ ?_ ?_ ?_ ?_
 ·rintro j h h' hh ⟨a1,a2,a3⟩;rw[e1]at hh;exact⟨hJ j h h' (λi hi=>hh i (by omega)) a1,by rw[hh _ (by omega),a2],by rw[hh _ (by omega),a3]⟩
 ·rintro j h hj hm ⟨a1,a2,a3⟩;exact⟨skip j h hj hm a1,a2,a3⟩
 ·rintro j u g1 K' D hj hm hn ⟨a1,a2,a3⟩ hsl kk kE;rw[e1]at hn kk hsl;refine KG a3 ha hb (t':=fQ t p (.agg [.int .i64 (j:Int),.int .i64 (S.RL n (S.Rb (S.Q6 n) j)),u])) ?_ ?_
  ·simp only[cV,aa,UF,TE hp];rfl
  ·refine cR _ (step j u g1 hj hm a1 (by omega) hsl) ?_;rintro e t1 df g1' ⟨rfl,rfl,hfr,h⟩;have hl0:g.nx+1<g1.nx:=by omega
   have hl:g.nx+1<g1'.nx:=TX hl0 hfr.1;have a2':g1'.h.get g.nx=.dfr true:=by rw[hfr.2 _ (by omega),a2]
   have a3':g1'.h.get (g.nx+1)=.loop nt t [p] assign body g.nx .ready none:=by rw[hfr.2 _ hl0,a3]
   refine⟨rfl,rfl,a3',?_⟩;refine cR _ (h (g1'.put (g.nx+1) (.loop nt t [p] assign body g.nx .busy none)) (by simp) (λi hi=>by simp[Q_,hi])) ?_;rintro e t2 df g3 ⟨rfl,⟨b2,b3,b1⟩⟩;have b4:g3.h.get (g.nx+1)=.loop nt t [p] assign body g.nx .busy none:=by rw[b3 _ (by omega) (by simpa using hl)];simp[Q_]
   have b5:g3.h.get g.nx=.dfr true:=by rw[b3 _ (by omega) (by simp;omega)];simp[Q_,a2']
   refine⟨rfl,b4,?_⟩;have b2':g1'.nx<=g3.nx:=by simpa using b2
   have hf1:=hfr.1;rcases b1 with⟨rfl,b1⟩|⟨rfl,b1⟩
   ·refine .inl ⟨rfl,kk _ ⟨hJ _ g3.h _ (λi hi=>by simp[Q_,show ¬i=g.nx+1 by omega]) b1,?_,?_⟩ (by simp;omega) λi h1 h2=>?_⟩
    ·simp[Q_,b5]
    ·simp[Q_]
    ·have hne:¬i=g.nx+1:=by omega
     have:=b3 i (by omega) (by simp;omega);simp[Q_,hne]at this ⊢;rw[this,hfr.2 i h2]
   ·refine .inr ⟨rfl,kE _ ⟨hE g3.h _ (λi hi=>by simp[Q_,show ¬i=g.nx+1 by omega]) b1,?_,?_,?_⟩⟩
    ·simp[Q_,b5]
    ·simp[Q_]
    ·simp;omega
 ·refine⟨hJ 0 g.h _ (λi hi=>?_) h0,?_,?_⟩
  ·simp[Q_,show ¬i=g.nx+1 by omega,show ¬i=g.nx by omega]
  ·simp[Q_]
  ·simp[Q_]
 ·rintro g' ⟨a1,a2,a3⟩ hn;rw[e1]at hn;refine⟨_,_,_,_,_,_,.inl ⟨a3,fin _ (hJ _ g'.h _ (λi hi=>by simp[Q_,show ¬i=g.nx+1 by omega]) a1) (by simpa using hn) ?_⟩⟩;simp[Q_,a2]
 ·rintro g' ⟨a1,a2,a3,hn⟩;refine⟨_,_,_,_,_,_,.inr ⟨a3,finE _ (hE g'.h _ (λi hi=>by simp[Q_,show ¬i=g.nx+1 by omega]) a1) (by simpa using hn) ?_⟩⟩;simp[Q_,a2]
theorem wG{n:Net}{e:List Int}(h:S.RK n e=true):e.length=n.nodes.length/\∀x∈e,-1<=x:=by simp only[S.RK,Ts,TA,TC]at h;refine⟨h.1,λx hx=>?_⟩;obtain⟨i,hi,he⟩:=Ui.1 hx;have:=(h.2 i (TK.2 hi)).1;rw[Tn hi,he]at this;exact this
def S.pe(n:Net)(e:List Int)(w:Nat):Bool:=S.Rr (S.Rb (S.Q6 n) (w:Int)) e
theorem MR(n:Net)(e:List Int):S.SA n e=S.Rn n (S.pe n e) (S.Rx n):=rfl
theorem zx{n:Net}(h:NR n){p:Nat->Bool}{j:Nat}(hj:j<=1024):0<=S.Rn n p j/\S.Rn n p j<=171992678400000000:=by have:=v6 h p j;omega
theorem LV(g:G)(o o':AObj):Fr g ((g.new o).put g.nx o'):=⟨by simp,λi hi=>by simp[Q_,show ¬i=g.nx by omega]⟩
theorem Oy{d kk:Nat}{g:G}{v w:AV}{n:Net}{y:QnM}{e:List Int}(hd:0<d)(hr:NR n)(hm:Agg y NoP 0 g.h v)(hq:QnOk n y)(he:SlR NoP kk g.h e w)(hev:S.RK n e=true)(hk:kk<=d:=by omega) :
  an C0 d N.RP [v,w] g=.val (.int .i64 (S.SA n e)):=by
 have e0:=cW d hm;have ew:=qP d he;obtain⟨cs,rfl,hcs⟩:=hm;obtain⟨b,fl,S_,rfl,-,-,-⟩:=uV.1 hcs;obtain⟨el,ege⟩:=wG hev;obtain⟨W1,W2,W3⟩:=hr.wl;rw[oP];refine oo qt (xs:=[.agg [.int .i64 y.1.grain,b,fl,S_],w]) (by simp only[aK,e0,ew]) (by simp[e_]) hd ?_;simp only[sz,simprocAttr,e_];unfold iq;refine iZ (P:=λt' df g'=>df=[]/\g'.nx=2/\g'.h.get 0=We 4 [[.int .i64 y.1.grain,b,fl,S_]]/\g'.h.get 1=We 1 [[.int .i64 0]]/\St t' [(1,w),(2,.hptr 0 0 0 0),(5,.hptr 1 0 0 0)]) ?_ ?_
 ·simp only[sz,simprocAttr];simp[St,sx]
 rintro t df g0 ⟨rfl,f2,f0,f1,h1,h2,h5,-⟩;obtain⟨cs,z,t1,t2,ez,hcs',hz⟩:=tE (d:=d+1) (g:=g0) (y:=y) (e:=e) (v:=.agg [.int .i64 y.1.grain,b,fl,S_]) (w:=w) (TG d) ⟨_,rfl,Rp.tree hcs (Tp _)⟩ (he.tree (Tp _));rw[dK,dK];simp only[sz,simprocAttr,h1,h2,f0,ez];refine x6 (t1:=t1) (t2:=t2) (n:=n) (y:=y) (e:=e) (cs:=cs) (w:=z) (TG d) hr hq hcs' hz (by omega) (by simp[sx]) (by decide)
  (λj h=>h.get 1=We 1 [[.int .i64 (S.Rn n (S.pe n e) j)]]) (λ_=>False) (λj h h' hh h1=>by rw[hh 1 (by omega),h1]) (λ_ _ _ h=>h) f1 ?_ ?_ ?_ (λ_ h=>h.elim)
 ·intro j h hj hmt h1;have hp:S.pe n e j=false:=by rw[S.pe,<-AH ege];exact hmt
  rw[h1,S.Rn,hp];simp
 ·intro j u g1 hj hmt h1 hn hu;have hp:S.pe n e j=true:=by rw[S.pe,<-AH ege];exact hmt
  have hb:=zx hr (p:=S.pe n e) (j:=j+1) (by omega);have hs:S.Rn n (S.pe n e) (j+1)=S.Rn n (S.pe n e) j+S.RL n (S.Rb (S.Q6 n) (j:Int)):=by rw[S.Rn,hp];simp
  have w1:IntKind.wrap .i64 (S.Rn n (S.pe n e) j+S.RL n (S.Rb (S.Q6 n) (j:Int)))=S.Rn n (S.pe n e) (j+1):=by rw[<-hs,au (by omega) (by omega)]
  simp only[sz,simprocAttr,gy];refine⟨LV _ _ _,?_⟩;intro g2 n2 f2';have k6:g2.h.get g1.nx=We 3 [[.int .i64 (j:Int),.int .i64 (S.RL n (S.Rb (S.Q6 n) (j:Int))),u]]:=by rw[f2' _ (by omega),TE rfl]
  have k1:g2.h.get 1=We 1 [[.int .i64 (S.Rn n (S.pe n e) j)]]:=by rw[f2' 1 (by omega),TF (by omega),TF (by omega),h1]
  simp only[sz,simprocAttr,gz,h5,k1,k6,w1];exact⟨by simp,λi h1 h2=>by simp[Q_,show ¬i=1 by omega],.inl ⟨rfl,by simp[Q_]⟩⟩
 ·intro g' h1 hn hdf;simp only[sz,simprocAttr,gB,h5,h1];refine fW hdf ?_;simp only[sx,↓reduceIte];rw[MR]
theorem Bb{k:Nat}{l:List Int}{v:AV}{h:H}(hl:SlR NoP k .nil l v):Rp.rp (λ_=>True) k h l [v]:=by obtain⟨w,hw,q⟩:=Rp.tree (P:=λ_=>True) (k':=k) (h':=h) (show Rp.rp NoP k .nil l [v] from ⟨v,rfl,hl⟩) (Tp _);exact⟨w,hw,q⟩
theorem QB{k:Nat}{a b:List Int}{va vb:AV}{q:Nat}{h:H}(ha:SlR NoP k .nil a va)(hb:SlR NoP k .nil b vb)(hq:h.get q=We 1 [[va],[vb]]):SlR (λ_=>True) k h [a,b] (.hsl q 0 0 2 none):=by refine⟨by show 2<_;decide,trivial,[[va],[vb]],?_,Bb ha,Bb hb,trivial⟩;show ac h 1 _=_;simp only[ac,hq];rfl
theorem QW{a:List Int}{va:AV}{q k:Nat}{h:H}(ha:SlR NoP k .nil a va)(hq:h.get q=We 1 [[va]]):SlR (λ_=>True) k h [a] (.hsl q 0 0 1 none):=by refine⟨by show 1<_;decide,trivial,[[va]],?_,Bb ha,trivial⟩;show ac h 1 _=_;simp only[ac,hq];rfl
theorem zI{n:Net}{ls:List (List Int)}{P:Nat->Prop}{k:Nat}{h:H}{v:AV}(hv:N1 n ls P k h v) :
  ∃y cs,v=.tup [.agg cs,.int .i64 (S.R4 n ls)]/\(S.R4 n ls=0->QnOk n y)/\Rp.rp P k h y cs/\∃a1 a2 a3 a4,cs=[a1,a2,a3,a4]:=by
 obtain⟨y,hy,a,c,rfl,⟨cs,rfl,hc⟩,hi⟩:=hv;have hi:=aB.1 hi;injection hi with hi;subst hi;obtain⟨a2,a3,a4,rfl,-⟩:=uV.1 hc;exact⟨y,_,rfl,hy,hc,_,_,_,_,rfl⟩
theorem F9(n:Net)(e:List Int):S.R4 n [e]=S.RR n e:=by rw[S.R4,S.RR];simp
theorem F_{n:Net}{e:List Int}:S.RR n e=0↔S.RZ n=true/\S.RK n e=true:=by rw[S.RR];cases S.RZ n<;>cases S.RK n e<;>simp
def S.pb(n:Net)(e f:List Int)(w:Nat):Bool:=S.Rr (S.Rb (S.Q6 n) (w:Int)) e&&S.Rr (S.Rb (S.Q6 n) (w:Int)) f
def S.Ta(n:Net)(e f:List Int):Int:=S.Rn n (S.pb n e f) (S.Rx n)
def S.Sz(n:Net)(e f:List Int):Int:=if S.R4 n [e,f]=0 then (if S.SA n e=0 then 7 else 0) else S.R4 n [e,f]
def S.SJ(n:Net)(e f:List Int):QI:=if S.Sz n e f=0 then S.Su (S.Ta n e f).toNat (S.SA n e).toNat else (0,0)
theorem yJ{n:Net}{e f:List Int}:S.R4 n [e,f]=0↔S.RZ n=true/\S.RK n e=true/\S.RK n f=true:=by rw[S.R4];cases S.RZ n<;>cases h1:S.RK n e<;>cases h2:S.RK n f<;>simp[h1,h2]
theorem PQ{a b:AV}(ha:a.cells=[a]/\a.isTup=false)(hb:b.cells=[b]/\b.isTup=false)(g:G):BA 1 2 [.nils] [0,1] [a,b] g=.upd (.hsl g.nx 0 0 2 none) (g.new (We 1 [[a],[b]])):=by
 simp[BA,dy,ha,hb]
 rfl
theorem DY{A:PT}{t:T}{df:List ADf}{g:G}(p:T->G->Prop)(hp:p t g)(h:∀t1 g1,p t1 g1->A t1 df g1):A t df g:=h t g hp
structure GvJ (g0:G) (q:Nat) (s:Int) (h:H):Prop where
 fr:∀i,i<g0.nx->i≠q->h.get i=g0.h.get i
 hq:h.get q=We 1 [[.int .i64 s]]
theorem Kg{d ka kb:Nat}{Pa Pb:Nat->Prop}{g:G}{v w0 z0:AV}{n:Net}{e f:List Int}(hd:0<d)(hm:Agg n NoP 0 g.h v)(he:SlR Pa ka g.h e w0)(hf:SlR Pb kb g.h f z0)(hka:ka<=d:=by omega)(hkb:kb<=d:=by omega) :
  an C0 d N.Rc [v,w0,z0] g=.val (.tup [.agg [.int .i64 (S.SJ n e f).1,.int .i64 (S.SJ n e f).2],.int .i64 (S.Sz n e f)]):=by
 have key:∃r,an C0 d N.Rc [v,w0,z0] g=.val r/\rK (Agg (S.SJ n e f)) (One (S.Sz n e f)) NoP 0 .nil r:=by
  obtain⟨b,rows,rfl,e1,hm',hN,r1,r2,r3,r4⟩:=qe d hm;obtain⟨w,ew,hw⟩:=cX he d;rw[Nat.max_eq_right hka]at hw;have hw:=hw .nil;obtain⟨z,ez,hz⟩:=cX hf d;rw[Nat.max_eq_right hkb]at hz;have hz:=hz .nil;have hbd:u9 [.int .i64 0,.int .i64 0] [] []=.val (.agg [.int .i64 0,.int .i64 0]):=rfl;rw[xD];refine bg Ag (xs:=[.agg [.int .i64 n.grain,b],w,z]) (by simp only[aK,e1,ew,ez]) (by simp[o5]) (cO (m:=2) (bz _) (a9 _) (by decide) (by decide)) (by decide) hd ?_;simp only[sz,simprocAttr,o5,Lp hz];obtain⟨g0,hg0⟩:∃g0,g0=((G.empty.new (We 2 [[.int .i64 n.grain,b]])).new (We 1 [[z]])).new (We 2 [[.int .i64 0,.int .i64 0]]):=⟨_,rfl⟩;rw[<-hg0];have f0:g0.h.get 0=We 2 [[.int .i64 n.grain,b]]:=by rw[hg0];simp[sx,Q_]
  have f1:g0.h.get 1=We 1 [[z]]:=by rw[hg0];simp[sx,Q_]
  have f2:g0.h.get 2=We 2 [[.int .i64 0,.int .i64 0]]:=by rw[hg0];simp[sx]
  have f3:g0.nx=3:=by rw[hg0];simp[sx]
  clear hg0;unfold qZ;simp only[sz,simprocAttr,f0,f1,PQ hw.cell hz.cell];refine bH (Lh (n:=n) (ls:=[e,f]) (TG d) (hm' _) (QB hw hz (by simp[Q_]))) λv hv=>?_;obtain⟨y,cs,rfl,hy,hc,a1,a2,a3,a4,rfl⟩:=zI hv
  by_cases h0:S.R4 n [e,f]=0
  ·have hyo:=hy h0;obtain⟨h1,h2,h3⟩:=yJ.1 h0;have hr:=fN.1 h1;obtain⟨el,ege⟩:=wG h2;obtain⟨fl,fge⟩:=wG h3;obtain⟨W1,W2,W3⟩:=hr.wl;simp only[sz,simprocAttr,f3,h0];rw[Oy (y:=y) (n:=n) (e:=e) (TG d) hr ⟨_,rfl,Rp.tree hc (Tp _)⟩ hyo (hw.tree (Tp _)) h2]
   by_cases hm0:S.SA n e=0
   ·have hE:S.Sz n e f=7:=by rw[S.Sz,TE h0,TE hm0]
    have hj:S.SJ n e f=(0,0):=by rw[S.SJ,hE];rfl
    simp only[sz,simprocAttr,f3,hm0,f2];rw[hj,hE];exact⟨λ_=>True,_,_,rfl,nY.2 rfl,aB.2 rfl⟩
   ·have hE:S.Sz n e f=0:=by rw[S.Sz,TE h0,TF hm0]
    have hj:S.SJ n e f=S.Su (S.Ta n e f).toNat (S.SA n e).toNat:=by rw[S.SJ,hE];rfl
    simp only[sz,simprocAttr,f3,hm0];refine bH (Q:=λr=>∃cs z t1 t2,r=.clo N.Q5 [] [.tptr t1 4 [cs] 0 0,.tptr t2 1 [[z]] 0 0]/\Rp.rp NoP d .nil y cs/\SlR NoP d .nil e z) ?_ ?_
    ·obtain⟨cs',z',t1,t2,ez,h1,h2⟩:=tE (d:=d+1) (y:=y) (e:=e) (v:=.agg [a1,a2,a3,a4]) (w:=w) (TG d) ⟨_,rfl,Rp.tree hc (Tp _)⟩ (hw.tree (Tp _));exact⟨_,ez,cs',z',t1,t2,rfl,h1,h2⟩
    rintro _ ⟨cs',z',t1,t2,rfl,hcs',hz'⟩;simp only[sx];refine DY (λt g=>g.nx=6/\g.h.get 1=We 1 [[z]]/\g.h.get 2=We 2 [[.int .i64 0,.int .i64 0]]/\g.h.get 5=We 1 [[.int .i64 0]]/\St t [(5,.hptr 1 0 0 0),(6,.hptr 2 0 0 0),(10,.int .i64 (S.SA n e)),(11,.hptr 5 0 0 0),(33,.clo N.Q5 [] [.tptr t1 4 [cs'] 0 0,.tptr t2 1 [[z']] 0 0])]) ?_ ?_
    ·refine⟨by simp[f3],by simp[Q_,f3,f1],by simp[Q_,f3,f2],by simp[Q_],by simp[St,sx]⟩
    rintro t g1 ⟨n1,k1,k2,k5,h5,h6,h10,h11,h33,-⟩;refine x6 (t1:=t1) (t2:=t2) (n:=n) (y:=y) (e:=e) (cs:=cs') (w:=z') (TG d) hr hyo hcs' hz' (by omega) h33 (by decide)
     (λj h=>GvJ g1 5 (S.Rn n (S.pb n e f) j) h) (λ_=>False) (λj h h' hh hg=>⟨λi h1 h2=>by rw[hh i h1,hg.fr i h1 h2],by rw[hh 5 (by omega),hg.hq]⟩) (λ_ _ _ h=>h) ⟨λ_ _ _=>rfl,k5⟩ ?_ ?_ ?_ (λ_ h=>h.elim)
    ·intro j h hj hmt hg;have hp:S.pb n e f j=false:=by rw[S.pb,<-AH ege,hmt];rfl
     refine⟨hg.fr,?_⟩;rw[hg.hq,S.Rn,hp];simp
    ·intro j u g2 hj hmt hg hn hu;have hb:=zx hr (p:=S.pb n e f) (j:=j+1) (by omega);have hvl:(S.Rb (S.Q6 n) (j:Int)).length=n.nodes.length:=by simp[S.Rb,aY]
     simp only[sz,simprocAttr,pK];refine⟨LV _ _ _,?_⟩;intro g3 n3 f3';have j12:g3.h.get g2.nx=We 3 [[.int .i64 (j:Int),.int .i64 (S.RL n (S.Rb (S.Q6 n) (j:Int))),u]]:=by rw[f3' _ (by omega),TE rfl]
     have jo:∀i,i<6->g3.h.get i=g2.h.get i:=λi hi=>by rw[f3' i (by omega),TF (by omega),TF (by omega)]
     have j1:g3.h.get 1=We 1 [[z]]:=by rw[jo 1 (by omega),hg.fr 1 (by omega) (by omega),k1]
     have j5:g3.h.get 5=We 1 [[.int .i64 (S.Rn n (S.pb n e f) j)]]:=by rw[jo 5 (by omega),hg.hq]
     have hu3:SlR (λ_=>True) 0 g3.h (S.Rb (S.Q6 n) (j:Int)) u:=hu.wd λi hi=>⟨trivial,by rw[f3' i (by omega),TF (by omega),TF (by omega)]⟩;have hmt3:=AN (d:=d+1) (g:=g3) (v:=u) (w:=z) (vals:=S.Rb (S.Q6 n) (j:Int)) (e:=f) (TG d) hu3 (hz.tree (h':=g3.h) (Tp _)) (by omega);rw[AH fge]at hmt3;cases hmf:S.Rr (S.Rb (S.Q6 n) (j:Int)) f with
     | true =>
      rw[hmf]at hmt3;have hp:S.pb n e f j=true:=by rw[S.pb,<-AH ege,hmt,hmf];rfl
      have hs:S.Rn n (S.pb n e f) (j+1)=S.Rn n (S.pb n e f) j+S.RL n (S.Rb (S.Q6 n) (j:Int)):=by rw[S.Rn,hp];simp
      have w1:IntKind.wrap .i64 (S.Rn n (S.pb n e f) j+S.RL n (S.Rb (S.Q6 n) (j:Int)))=S.Rn n (S.pb n e f) (j+1):=by rw[<-hs,au (by omega) (by omega)]
      simp only[sz,simprocAttr,jV,h5,h11,j12,j1,j5,hmt3,w1];exact⟨by simp,λi h1 h2=>by simp[Q_,show ¬i=5 by omega],.inl ⟨rfl,λi h1 h2=>by simp[Q_,h2];rw[jo i (by omega),hg.fr i h1 h2],by simp[Q_]⟩⟩
     | false =>
      rw[hmf]at hmt3;have hp:S.pb n e f j=false:=by rw[S.pb,hmf,VC]
      have hs:S.Rn n (S.pb n e f) (j+1)=S.Rn n (S.pb n e f) j:=by rw[S.Rn,hp];simp
      simp only[sz,simprocAttr,jV,h5,j12,j1,hmt3];exact⟨Tp _,λi h1 h2=>rfl,.inl ⟨rfl,λi h1 h2=>by rw[jo i (by omega),hg.fr i h1 h2],by rw[hs];exact j5⟩⟩
    ·intro g' hg hn hdf;have hb:=zx hr (p:=S.pb n e f) (j:=S.Rx n) (by omega);have hb1:=FK hr e;obtain⟨a,ha⟩:=Ty hb.1;obtain⟨c,hc'⟩:=Ty hb1.1;have hq5:=hg.hq;have q2:g'.h.get 2=We 2 [[.int .i64 0,.int .i64 0]]:=by rw[hg.fr 2 (by omega) (by omega),k2]
     have hbo:S.Ta n e f=(a:Int):=ha;rw[ha]at hq5;rw[hc']at h10 hm0;have hmk:=Fh (d:=d+1) (g:=g') (n:=a) (m:=c) (TG d) (by omega) (by omega) (by omega);simp only[sz,simprocAttr,pL,h11,h10,h6,hq5,hmk,q2];refine fW (by simp[Q_,show ¬g1.nx=2 by omega,hdf]) ?_;simp only[sx,sy,↓reduceIte,Nat.reduceEqDiff,h6];rw[TF (by omega)];simp only[sx,sy,↓reduceIte,Nat.reduceAdd,Nat.reduceLeDiff];rw[hj,hE,hbo,hc'];exact⟨λ_=>True,_,_,rfl,nY.2 rfl,aB.2 rfl⟩
  ·have hE:S.Sz n e f=S.R4 n [e,f]:=by rw[S.Sz,TF h0]
   have hj:S.SJ n e f=(0,0):=by rw[S.SJ,hE,TF h0]
   simp only[sz,simprocAttr,f3,h0,f2];rw[hj,hE];exact⟨λ_=>True,_,_,rfl,nY.2 rfl,aB.2 rfl⟩
 obtain⟨r,hr,a,c,rfl,ha,hc⟩:=key;have hc:=aB.1 hc;injection hc with hc;rw[hr,nY.1 ha,hc]
end
end Hx
end
section
namespace Hx
open Go
set_option maxRecDepth 100000
noncomputable section
def gwX:SC:=match nFn C0 53 with|some ⟨_,_,.seq _ (.seq (.seq _ (.cond _ x _)) _)⟩=>x|_=>.skip
def ccX:SC:=match nFn C0 N.Ra with|some ⟨_,_,.seq _ (.seq _ (.seq (.seq _ (.blk _ (.loop (.seq _ (.seq _ (.seq (.blk _ (.seq _ (.seq _ (.seq _ (.cond _ x _))))) _)))))) _))⟩=>x|_=>.skip
def pU:SC:=sQ [oM 26 0,oM 4 26] (.ret)
def rx:SC:=.ops [oM 17 0,oM 18 0,o 19 (.raw (.call ⟨.builtin .cap,#[.tmp 18],#[36]⟩)),o 20 (.slc 1 (.t 17) [] [.t 19]),oM 21 1,o 22 (.raw (.call ⟨.builtin .append,#[.tmp 20,.tmp 21],#[36,3]⟩)),oM 23 0,oN 24 23,o 25 (.slc 1 (.t 22) [] [.t 24]),oM 0 25]
def pV:SC:=.seq (sQ [oM 8 1,oM 9 0,o 10 (.raw (.call ⟨.builtin .cap,#[.tmp 9],#[36]⟩)),oM 11 0,oN 12 11,Wf 13 .sub 10 12,Wf 14 .sub 8 13,oM 1 14] (sQ [oM 15 1,Wg 16 .gtr 15 0] (.cond (.t 16) rx (.skip)))) pU
def pi:SF:=⟨27,[.tm 4],sQ [o 4 (.mv (.k (.nils)))] (.seq (sQ [oM 5 1,Wg 6 .lss 5 0] (.cond (.t 6) gwX (.skip))) pV)⟩
def gG:SC:=.ops [oA 22 11,oM 11 22]
def gC:SC:=sQ [Wf 12 .lss 11 10] (.seq (.cond (.t 12) (.skip) (.exit 0)) (.seq (.blk 1 (sQ [oX 13 9 11,oL 14 13,oM 5 14] (sQ [oM 15 3,oM 16 5,oN 17 16,Wf 18 .add 15 17,oM 3 18] (sQ [oM 19 3,Wg 20 .lss 19 0] (.cond (.t 20) ccX (.skip)))))) gG))
def gD:SC:=sQ [Wf 28 .lss 27 26] (.seq (.cond (.t 28) (.skip) (.exit 2)) (.seq (.blk 3 (sQ [oX 29 25 27,oL 30 29,oM 8 30] (.ops [oM 31 6,oM 32 8,o 33 (.app 1 8 (.t 31) (.t 32)),oM 6 33]))) (.ops [oA 34 27,oM 27 34])))
def gH:SC:=sQ [oM 35 6,oM 2 35] (.ret)
def gI:SC:=sQ [oM 23 3,o 24 (.call 53 [.k (.nils),.t 23]),oM 6 24] (.seq (sQ [oM 25 0,oN 26 25,oK 27 0] (.blk 2 (.loop gD))) gH)
def fd:SF:=⟨36,[.tm 2],sQ [o 2 (.mv (.k (.nils)))] (sQ [oK 3 0] (.seq (sQ [oM 9 0,oN 10 9,oK 11 0] (.blk 0 (.loop gC))) gI))⟩
theorem Al:nFn C0 53=some pi:=by kernel_rfl
theorem xI(d:Nat)(xs:List AV)(g:G):an C0 d 53 xs g=orF ((I C0).call d 53 xs g):=by kernel_rfl
theorem qu:nFn C0 N.Ra=some fd:=by kernel_rfl
theorem oQ(d:Nat)(xs:List AV)(g:G):an C0 d N.Ra xs g=am (I C0) d g N.Ra xs:=by kernel_rfl
theorem KN{d n:Nat}{rd:Option Nat}{t:T}{g:G}:(cB C0 (.call ⟨.builtin .cap,#[.tmp n],#[36]⟩)).run (I C0) d rd t g=ET (tat t n) g:=by
 have h:(cB C0 (.call ⟨.builtin .cap,#[.tmp n],#[36]⟩)).run (I C0) d rd t g=ET ((gp AV.undef n).run t) g:=by kernel_rfl
 rw[h,gp_run];rfl
theorem HO{d n m:Nat}{rd:Option Nat}{t:T}{g:G}:(cB C0 (.call ⟨.builtin .append,#[.tmp n,.tmp m],#[36,3]⟩)).run (I C0) d rd t g=mB 1 8 [.int .i64 0] (tat t n) (tat t m) g:=by
 have h:(cB C0 (.call ⟨.builtin .append,#[.tmp n,.tmp m],#[36,3]⟩)).run (I C0) d rd t g=mB 1 8 [.int .i64 0] ((gp AV.undef n).run t) ((gp AV.undef m).run t) g:=by kernel_rfl
 rw[h,gp_run,gp_run];rfl
theorem PN{g:G}{id ep len sz bytes:Nat}{x:AV}{lo:Bool}{rows new:List (List AV)}{K:AV->G->Prop}{D:ADf->Prop}(hg:g.h.get id=.cells sz rows ep lo false)(hx:ac g.h sz x=some new)(hl:len+new.length<=rows.length)(hb:(len+new.length)*bytes<=aQ)
  (k:∀g',g'.nx=g.nx->g'.h.get id=.cells sz (rows.take len++(new++rows.drop (len+new.length))) ep lo false->(∀i,i≠id->g'.h.get i=g.h.get i)->K (.hsl id ep 0 (len+new.length) none) g') :
  (cC sz bytes (.hsl id ep 0 len none) x g).sat K g D:=by
 unfold cC;rw[hx];dsimp only;simp only[bp,G.get_eq,hg,ax,aa,show Nat.beq ep ep=true from Uq ep,show Nat.beq sz sz=true from Uq sz,Up,T8,Ts,T6,Vn,Vw];rw[TE ⟨by omega,hb⟩,TE hl];cases new with
 | nil =>
  refine k g rfl ?_ λ_ _=>rfl;rw[hg];simp
 | cons r new =>
  dsimp only;rw[TE ⟨hl,rfl⟩];refine k _ rfl ?_ λi hi=>by simp[Q_,hi]
  have hp:gX rows len (r::new)=rows.take len++(r::new++rows.drop (len+(r::new).length)):=by
   cases new with
   | nil =>
    show Gn len r rows=_;rw[f8,List.set_eq_take_append_cons_drop,TE (by simp at hl;omega)];simp
   | cons r2 new =>
    show jO len rows++(r::r2::new++i_ (len+bL (r::r2::new)) rows)=_;rw[a_,bj,ax]
  rw[hp];simp[Q_]
theorem Or{d n:Nat}{g:G}{K:AV->G->Prop}{D:ADf->Prop}(hn:0<n)(hn2:n<=1000)
  (k:∀g',g'.nx=g.nx+1->g'.h.get g.nx=.cells 1 (List.replicate n [.int .i64 0]) 0 true false->(∀i,i<g.nx->g'.h.get i=g.h.get i)->K (.hsl g.nx 0 0 0 none) g') :
  (an C0 d 53 [.nils,.int .i64 (n:Int)] g).sat K g D:=by
 rw[xI];refine mD Al (by simp[pi]) ?_;have d1:¬(n:Int)<0:=by omega
 have d2:(0:Int)<(n:Int):=by omega
 have c0:∀g:G,ET .nils g=.val (.int .i64 0):=λ_=>rfl;have w0:IntKind.wrap .i64 (n:Int)=(n:Int):=au (by omega) (by omega);have w1:IntKind.wrap .i64 ((n:Int) - IntKind.wrap .i64 0)=(n:Int):=by rw[au (x:=0) (by omega) (by omega),Int.sub_zero,au (by omega) (by omega)]
 have s0:∀g:G,Ei 1 .nils none (some (.int .i64 0)) g=.val .nils:=λ_=>rfl;have az:∀g:G,mB 1 8 [.int .i64 0] .nils (.int .i64 (n:Int)) g=.upd (.hsl g.nx 0 0 n none) (g.new (.cells 1 (List.replicate n [.int .i64 0]) 0 true false)):=λg=>by
  obtain⟨m,rfl⟩:∃m,n=m+1:=⟨n - 1,by omega⟩;have h:dA aQ (.int .i64 ((m+1:Nat):Int))=some (m+1):=by simp only[dA,aa,T8];rw[TE (by unfold aQ;omega)]
  unfold mB;rw[h];dsimp only;rw[aa,TE (by rw[T8];unfold aQ;omega)];have:ie (m+1) [AV.int .i64 0]=[.int .i64 0]::List.replicate m [.int .i64 0]:=rfl;rw[this];unfold bp;dsimp only;rw[aa,TE (by rw[T8,ax];simp;unfold aQ;omega),ax];simp[Uu]
 have c1:∀g:G,dm .slice .nils g=.val (.int .i64 0):=λ_=>rfl;have s1:∀g:G,∀id:Nat,g.h.get id=.cells 1 (List.replicate n [.int .i64 0]) 0 true false->Ei 1 (.hsl id 0 0 n none) none (some (.int .i64 0)) g=.val (.hsl id 0 0 0 none):=λg id hg=>by
  have b1:dA n (.int .i64 0)=some 0:=by show aA (Nat.ble 0 n) (some 0) none=some 0;rw[aa,TE (by simp)]
  have e:nR 1 (.hsl id 0 0 n none) none (some (.int .i64 0)) none g.h=some (.hsl id 0 0 0 none):=by
   simp only[nR,hg,ax,TY,aa,bF,Vn,Vw,b1];rw[TE (by simp)];rw[TF (by simp;omega)]
   rfl
  unfold Ei;rw[e];rfl
 simp only[sz,simprocAttr,pi,d1];simp only[sz,simprocAttr,pV,KN,c0,c1,w1,d2,rx,HO,s0,az,List.head?_nil,List.head?_cons];rw[s1 _ _ (by simp[Q_])];simp only[sz,simprocAttr,pU];exact k _ rfl (by simp[Q_]) λi hi=>by simp[Q_,show ¬i=g.nx by omega]
theorem Cw{d k:Nat}{g:G}{P:Nat->Prop}{L:List (List Int)}{w:AV}(hd:0<d)(hw:SlR P k g.h L w)(h0:0<L.flatten.length)(hl:L.flatten.length<=1000) :
  ∃r,an C0 d N.Ra [w] g=.val r/\IT 0 L.flatten r:=by
 obtain⟨w',e,hw'⟩:=cX hw d;obtain⟨rows,r1,r2,r3,r4⟩:=Ef (hw' .nil);have lw:∀g:G,dm .slice w' g=.val (.int .i64 (L.length:Int)):=λg=>(hw' .nil).len g;have hfl:∀j,((L.take j).flatten).length<=L.flatten.length:=λj=>by
  have:L.flatten=(L.take j).flatten++(L.drop j).flatten:=by rw[<-List.flatten_append,Us]
  rw[this,TP];omega
 have hfs:∀j c,L[j]?=some c->(L.take (j+1)).flatten=(L.take j).flatten++c:=λj c hc=>by have hi:=Tu.1 hc;rw[List.take_succ_eq_append_getElem hi.1,hi.2,List.flatten_append];simp
 obtain⟨n,hn⟩:∃n,n=L.flatten.length:=⟨_,rfl⟩;rw[<-hn]at h0 hl hfl;rw[oQ];refine bg qu (xs:=[w']) (by simp only[aK,e]) (by simp[fd]) (a9 _) (by decide) hd ?_;simp only[sz,simprocAttr,fd,gC,gG,lw];refine aq (m:=L.length) (hw' .nil).1 (λj t df g=>df=[]/\g=G.empty/\St t [(0,w'),(9,w'),(3,.int .i64 (((L.take j).flatten.length:Nat):Int))]) ⟨rfl,rfl,by simp[St,sx]⟩ (by simp[sx]) (by simp[sx]) (by decide)
  (by rintro j t df g v s (rfl|rfl|rfl) ⟨a1,a2,⟨b1,b2,b3,-⟩⟩<;>exact⟨a1,a2,by simp[St,sx,b1,b2,b3]⟩) ?_ ?_
 ·rintro j t df g hj ⟨rfl,rfl,⟨h0,h9,h3,-⟩⟩ h11 h10;obtain⟨c,hc,-,-⟩:=af hj;obtain⟨z,z1,z2,hz⟩:=r3 j c hc;have lz:∀g:G,dm .slice z g=.val (.int .i64 (c.length:Int)):=λg=>hz.len g;have hs:=hfs j c hc;have hb:=hfl (j+1);have w1:IntKind.wrap .i64 ((((L.take j).flatten.length:Nat):Int)+(c.length:Int))=(((L.take (j+1)).flatten.length:Nat):Int):=by rw[hs,TP]at hb ⊢;rw[au (by omega) (by omega)];omega
  have d1:¬(((L.take (j+1)).flatten.length:Nat):Int)<0:=by omega
  simp only[sz,simprocAttr,h9,h11,r1,z1,z2,h3,lz,w1,d1];simp[St,sx,h0,h9,h10]
 ·rintro t df g ⟨rfl,rfl,⟨h0',h9,h3,-⟩⟩;rw[TO,<-hn]at h3;simp only[sz,simprocAttr,gI,h3];refine Or (n:=n) h0 hl λg2 n2 g0 f2=>?_;simp only[sz,simprocAttr,h0',lw,gD];refine aq (m:=L.length) (hw' .nil).1 (λj t df g=>df=[]/\g.nx=1/\g.h.get 0=.cells 1 ((L.take j).flatten.map ci++List.replicate (n - (L.take j).flatten.length) [.int .i64 0]) 0 true false/\St t [(25,w'),(6,.hsl 0 0 0 (L.take j).flatten.length none)]) ⟨rfl,n2,by have:g2.h.get 0=_:=g0;simpa using this,by simp[St,sx]⟩ (by simp[sx]) (by simp[sx]) (by decide)
   (by rintro j t df g v s (rfl|rfl|rfl) ⟨a1,a2,a3,⟨b1,b2,-⟩⟩<;>exact⟨a1,a2,a3,by simp[St,sx,b1,b2]⟩) ?_ ?_
  ·rintro j t df g hj ⟨rfl,hn1,hg0,⟨h25,h6,-⟩⟩ h27 h26;obtain⟨c,hc,-,-⟩:=af hj;obtain⟨z,z1,z2,hz⟩:=r3 j c hc;have hs:=hfs j c hc;have hb:=hfl (j+1);rw[hs,TP]at hb;simp only[sz,simprocAttr,h25,h27,r1,z1,z2,h6];obtain⟨F,hF⟩:∃F,F=(L.take j).flatten:=⟨_,rfl⟩;rw[hs];rw[<-hF]at hg0 hb ⊢;have e1:(F.map ci++List.replicate (n - F.length) [AV.int .i64 0]).take F.length=F.map ci:=by rw[List.take_append_of_le_length (by simp),Ug (by simp)]
   have e2:(F.map ci++List.replicate (n - F.length) [AV.int .i64 0]).drop (F.length+(c.map ci).length)=List.replicate (n - (F++c).length) [AV.int .i64 0]:=by rw[List.drop_append,List.drop_eq_nil_of_le (by simp)];simp;omega
   refine PN (new:=c.map ci) hg0 (hz.tree (h':=g.h) (Tp _)).ints (by simp;omega) (by simp;unfold aQ;omega) λg3 n3 q3 f3=>?_;rw[e1,e2,<-UO,<-Ub]at q3;simp only[sz,simprocAttr];exact⟨⟨by omega,q3,by simp[St,sx,h25]⟩,by simp[h27],by simp[h26]⟩
  ·rintro t df g ⟨rfl,hn1,hg0,⟨h25,h6,-⟩⟩;rw[TO]at h6 hg0;simp only[sz,simprocAttr,gH,h6];have hO:Own g 0 (.hsl 0 0 0 L.flatten.length none) 1 (L.flatten.map ci):=.inr ⟨0,0,true,Tp _,by omega,by rw[Tz],by rw[hg0,<-hn];simp⟩;exact⟨_,hO.ints (by omega)⟩
structure CdOk (l:List Int):Prop where
 c:∀x∈l,1<=x/\x<=4
 l8:l.length<=8
 p:S.Q5 l<=1024
end
end Hx
end
section
namespace Hx
open Go
def S.sm(F:Nat->Int):Nat->Int
 |0=>0
 |j+1=>S.sm F j+F j
theorem lJ{F G:Nat->Int}:∀{k:Nat},(∀i,i<k->F i=G i)->S.sm F k=S.sm G k
 |0,_=>rfl
 |k+1,h=>by rw[S.sm,S.sm,lJ λi hi=>h i (by omega),h k (by omega)]
theorem Ny(c:Int)(F:Nat->Int):∀k,S.sm (λi=>c*F i) k=c*S.sm F k
 |0=>by simp[S.sm]
 |k+1=>by rw[S.sm,S.sm,Ny c F k,Int.mul_add]
theorem Gs(c:Int):∀k:Nat,S.sm (λ_=>c) k=k*c
 |0=>by simp[S.sm]
 | k+1=>by
  rw[S.sm,Gs c k];have:((k+1:Nat):Int)=(k:Int)+1:=by omega
  rw[this,Vz,VA]
theorem Nx(F:Nat->Int)(a:Nat):∀b,S.sm F (a+b)=S.sm F a+S.sm (λj=>F (a+j)) b
 |0=>by simp[S.sm]
 |b+1=>by rw[<-Vd,S.sm,S.sm,Nx F a b];omega
theorem Gt(F:Nat->Int)(b:Nat):∀a,S.sm F (a*b)=S.sm (λi=>S.sm (λj=>F (i*b+j)) b) a
 |0=>by simp[S.sm]
 |a+1=>by rw[T_,UC,Nx,S.sm,Gt F b a]
def S.Rz:List Int->(List Int->Int)->Int
 |[],F=>F []
 |c::cs,F=>S.sm (λx=>S.Rz cs λvs=>F ((x:Int)::vs)) c.toNat
theorem eX:∀{cs:List Int} {F G:List Int->Int},(∀vs,InC cs vs->F vs=G vs)->S.Rz cs F=S.Rz cs G
 |[],_,_,h=>h [] trivial
 | c::cs,F,G,h=>by rw[S.Rz,S.Rz];exact lJ λi hi=>eX λvs hv=>h _ ⟨⟨by omega,by omega⟩,hv⟩
theorem Eu(k:Int):∀(cs:List Int) (F:List Int->Int),S.Rz cs (λv=>k*F v)=k*S.Rz cs F
 |[],_=>rfl
 | c::cs,F=>by rw[S.Rz,S.Rz,<-Ny];exact lJ λi _=>Eu k cs _
theorem GE:∀cs:List Int,S.Rz cs (λ_=>0)=0
 |[]=>rfl
 | c::cs=>by rw[S.Rz,lJ (G:=λ_=>0) λi _=>GE cs,Gs];simp
theorem IF:∀{a va b vb:List Int},InC a va->InC b vb->InC (a++b) (va++vb)
 |[],[],_,_,_,h=>h
 |_::_,_::_,_,_,h1,h2=>⟨h1.1,IF h1.2 h2⟩
theorem v8:∀{cs pre pv:List Int} (F:List Int->Int),(∀c∈pre++cs,1<=c)->InC pre pv ->
  S.sm (λj=>F (S.Rb (pre++cs) (S.Q9 pre pv*S.Q5 cs+(j:Int)))) (S.Q5 cs).toNat=S.Rz cs λvs=>F (pv++vs)
 | [],pre,pv,F,hc,hp=>by
  have e:S.Rb pre (S.Q9 pre pv*S.Q5 []+((0:Nat):Int))=pv:=by
   have:S.Q9 pre pv*S.Q5 []+((0:Nat):Int)=S.Q9 pre pv:=by simp[S.Q5]
   rw[this];exact Bq (λc h=>hc c (by simp[h])) hp
  show S.sm _ 1=F (pv++[]);rw[S.sm,S.sm,TZ,TZ,e];omega
 | c::cs,pre,pv,F,hc,hp=>by
  have hcc:=hc c (by simp);have hP:1<=S.Q5 cs:=eV λx hx=>hc x (by simp[hx]);obtain⟨P,hPe⟩:=Ty (show 0<=S.Q5 cs by omega);obtain⟨C,hCe⟩:=Ty (show 0<=c by omega);have e1:(S.Q5 (c::cs)).toNat=C*P:=by rw[bu,hPe,hCe,<-Ut,TH]
  rw[e1,Gt,S.Rz,hCe,TH];refine lJ λi hi=>?_;have ih:=v8 (cs:=cs) (pre:=pre++[(C:Int)]) (pv:=pv++[(i:Int)]) F (by rw[<-hCe];simpa using hc) (IF hp ⟨⟨by omega,by omega⟩,trivial⟩);rw[hPe,TH]at ih;have el:=hp.len;rw[mF _ _ el.symm]at ih;have e2:∀vs,pv++[(i:Int)]++vs=pv++(i:Int)::vs:=λvs=>by simp
  simp only[e2]at ih;rw[<-ih];refine lJ λj _=>?_;have e3:pre++[(C:Int)]++cs=pre++(C:Int)::cs:=by simp
  rw[e3];congr 2;have e4:S.Q9 [(C:Int)] [(i:Int)]=(i:Int):=by simp[S.Q9,S.Q5]
  have e5:S.Q5 [(C:Int)]=(C:Int):=by simp[S.Q5]
  rw[e4,e5,bu,hPe,Vz,Vq,Ut,UK];omega
end Hx
end
section
namespace Hx
open Go
theorem Jq(n:Net)(p:Nat->Bool):∀k,S.Rn n p k=S.sm (λj=>if p j then S.RL n (S.Rb (S.Q6 n) (j:Int)) else 0) k
 |0=>rfl
 |k+1=>by rw[S.Rn,S.sm,Jq n p k]
end Hx
end
