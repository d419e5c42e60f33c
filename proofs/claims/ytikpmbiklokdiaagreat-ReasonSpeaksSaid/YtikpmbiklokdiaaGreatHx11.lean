/- A part of the proof: what the functions of the chapter compute. -/
import Derived.Test.YtikpmbiklokdiaaGreatHx10
set_option linter.all false
set_option maxRecDepth 20000
set_option maxHeartbeats 8000000
namespace Hx
open Go
noncomputable section
variable {g g0:G}{d k i j m q B kk ky:Nat}{v w b u S_ fl:AV}{n:Net}{e l ps vals vs:List Int}{t:T}{P:Nat->Prop}{Q:QT}{x:Node}{h:H}{K:AV->G->Prop}{p gr:Int}{D:ADf->Prop}
theorem xO:∀{l:List Int} {v:Nat},(∀x∈l,0<=x/\x<64)->((S.O9 l).testBit v=true↔(v:Int)∈l):=by
 have key:∀(l:List Int) (s v:Nat),(∀x∈l,0<=x/\x<64)->((l.foldl (λs x=>s ||| S.Ph x.toNat) s).testBit v=true↔s.testBit v=true\/(v:Int)∈l):=by
  intro l
  induction l with
  |nil=>intro s v _;simp
  | cons x l ih =>
   intro s v h;have hx:=h x (by simp);rw[SK,ih _ _ λy hy=>h y (by simp[hy]),rH,ym (show x.toNat<64 by omega),Rk,QQ,Q8];constructor
   ·rintro ((h|h)|h)
    ·exact .inl h
    ·exact .inr (.inl (by omega))
    ·exact .inr (.inr h)
   ·rintro (h|h|h)
    ·exact .inl (.inl h)
    ·exact .inl (.inr (by omega))
    ·exact .inr h
 intro l v h;have:=key l 0 v h;simpa [S.O9] using this
theorem Kj(hk:k<=64)(h:∀x∈l,0<=x/\x<k):S.O9 l<2 ^ k:=by
 have hb:∀i,k<=i->(S.O9 l).testBit i=false:=λi hi=>by rw[<-RL,xO λx hx=>by have:=h x hx;omega];intro hm;have:=h _ hm;omega
 exact Nat.lt_pow_two_of_testBit _ λi hi=>hb i hi
structure RdH (n:Net) (b cv sv:AV) (q:Nat) (X:List Int) (Y:List Nat) (g:G):Prop where
 h0:g.h.get 0=TD 2 [[Uk n.grain,b]]
 h1:g.h.get 1=TD 5 [[Uk 0,.nils,.nils,.nils,.nils]]
 hq:g.h.get q=TD 5 [[Uk n.grain,b,cv,sv,.nils]]
 hc:Own g 2 cv 1 (X.map ci)
 hs:Own g 2 sv 1 (Y.map cu)
 q2:2<=q
 qn:q<g.nx
 d1:vid cv≠some q
 d2:vid sv≠some q
 d3:∀i,vid cv=some i->vid sv≠some i
theorem RdH.fr{n:Net}{b cv sv:AV}{q:Nat}{X:List Int}{Y:List Nat}{g':G}(h:RdH n b cv sv q X Y g)(f:Fr g g'):RdH n b cv sv q X Y g' :=
 ⟨by rw[f.2 0 (by have:=h.qn;have:=h.q2;omega),h.h0],by rw[f.2 1 (by have:=h.qn;have:=h.q2;omega),h.h1],by rw[f.2 q h.qn,h.hq],h.hc.step f,h.hs.step f,h.q2,QV h.qn f.1,h.d1,h.d2,h.d3⟩
def S.Qd(n:Net)(o:List Int):NwM:=if S.O_ n then (n,S.O2 n,S.O6 n,o) else (⟨0,[]⟩,[],[],[])
def CS(n:Net):VS:=λP k h v=>∃o:List Int,True/\yf (Agg (S.Qd n o)) (One (if S.O_ n then (0:Int) else 50)) P k h v
section
variable {d:Nat}{n:Net}{b cv sv:AV}{q:Nat}{rows:List (List AV)}
def LRd(q:Nat):List (Nat×AV):=[(1,Ul 0),(2,Ul 1),(4,Ul q)]
theorem N6[XOc](hn:¬NR n)(h1:g.h.get 1=TD 5 [[Uk 0,.nils,.nils,.nils,.nils]])(t2:tat t 2=Ul 1)(t3:tat t 3=Uk 50) :
  fnQ C0 d lE.res (λv g'=>∃P,CS n P 0 g'.h v) .ret t [] g:=by
 have hf:S.O_ n=false:=by
  cases h:S.O_ n with
  |false=>rfl
  |true=>exact absurd (cp.1 h) hn
 simp only[lE,sx,sy,↓reduceIte,Nat.reduceAdd,Nat.reduceLeDiff,t2,t3,h1];refine⟨λ_=>True,[],trivial,_,_,rfl,⟨_,rfl,?_⟩,?_⟩
 ·rw[S.Qd,hf];exact wO.2 ⟨.nils,.nils,.nils,.nils,rfl,⟨by show 0<9223372036854775808;decide,rfl⟩,⟨by show 0<9223372036854775808;decide,rfl⟩,⟨by show 0<9223372036854775808;decide,rfl⟩,⟨by show 0<9223372036854775808;decide,rfl⟩⟩
 ·rw[hf];exact aI.2 rfl
structure Rd0 (n:Net) (b cv sv:AV) (q j:Nat) (t:T) (g:G):Prop where
 st:St t ((48,b)::(5,Uk (S.O4 ((S.O2 n).take j)))::LRd q)
 hp:RdH n b cv sv q ((S.O2 n).take j++List.replicate (n.nodes.length - j) 0) (List.replicate n.nodes.length 0) g
 ok:∀x∈n.nodes.take j,1<=x.card/\x.card<=4
theorem Mp[XOc](hl:n.nodes.length<=8)(hN:SlR NoP 0 .nil n.nodes b)(r1:∀h,af h 3 b=some rows)(r2:rows.length=n.nodes.length)
  (r3:∀(i:Nat) (x:Node),n.nodes[i]?=some x->∃pa ra,rows[i]?=some [Uk x.card,pa,ra]/\i<rows.length/\SlR NoP 0 .nil x.parents pa/\SlR NoP 0 .nil x.rows ra) (r4:0<n.nodes.length->md b=true)
  (h0:Rd0 n b cv sv q 0 t g) (h50:tat t 50=Uk 0) (h49:tat t 49=Uk (n.nodes.length:Int))
  (bad:∀t g,¬NR n->g.h.get 1=TD 5 [[Uk 0,.nils,.nils,.nils,.nils]]->tat t 2=Ul 1->tat t 3=Uk 50->Q .ret t [] g)
  (fin:∀t g,Rd0 n b cv sv q n.nodes.length t g->Q (.exit 0) t [] g):wpL (wp C0 d none nf) Q t [] g:=by
 simp only[nf];refine bz (m:=n.nodes.length) (by omega) (λj t df g=>df=[]/\Rd0 n b cv sv q j t g) ⟨rfl,h0⟩ h50 h49 (by decide)
  (by rintro j t df g v s (rfl|rfl|rfl) ⟨a1,⟨b1,b2,b3,b4,N,-⟩,c1,u⟩<;>exact⟨a1,by simp[St,LRd,sx,b1,b2,b3,b4,N],c1,u⟩) ?_ ?_
 ·rintro j t df g R ⟨rfl,⟨⟨f,h5,h1,h2,h4,-⟩,hp,H⟩⟩ h50 h49;obtain⟨x,hx,I,J⟩:=ae R;obtain⟨pa,ra,q1,hlt,W,Y⟩:=r3 j x hx;have Z:=r4 (by omega);have q2:=hp.q2;have qn:=hp.qn;have o:¬(1=g.nx):=by omega
  have M:¬(q=g.nx):=by omega
  have f1:Fr g (g.new (TD 3 [[Uk 0,.nils,.nils]])):=Fr.new _ _;have badn:¬(1<=x.card/\x.card<=4)->¬NR n:=λh hr=>h (hr.card x J)
  by_cases c1:x.card<1
  ·simp only[sz,simprocAttr,h2,f,h50,r1,hlt,q1,hp.h1,o,c1];exact bad _ _ (badn (by omega)) (by simp[O6]) (by simp[sx,h2]) (by simp[sx])
  ·by_cases u:4<x.card
   ·simp only[sz,simprocAttr,h2,f,h50,r1,hlt,q1,hp.h1,o,c1,u];exact bad _ _ (badn (by omega)) (by simp[O6]) (by simp[sx,h2]) (by simp[sx])
   ·have l:∀y∈n.nodes.take (j+1),1<=y.card/\y.card<=4:=λy w=>by
     rw[I]at w;rcases Q0.1 w with h|h
     ·exact H y h
     ·rw[Rg.1 h];omega
    have D:∀c∈(S.O2 n).take (j+1),1<=c/\c<=4:=λc hc=>by rw[S.O2,<-List.map_take]at hc;obtain⟨y,w,rfl⟩:=Ri.1 hc;exact l y w
    have X:=bO D;have V:=dI (a:=((S.O2 n).take (j+1)).length) (b:=8) (by rw[Q_];omega);have L:(4:Int) ^ 8=65536:=by decide
    have E:(S.O2 n)[j]?=some x.card:=by simp[S.O2,hx]
    have ets:(S.O2 n).take (j+1)=(S.O2 n).take j++[x.card]:=by rw[SG,E];rfl
    have e1:S.O4 ((S.O2 n).take (j+1))=S.O4 ((S.O2 n).take j)*x.card:=by rw[ets];exact sG _ _
    have w1:IntKind.wrap .i64 (S.O4 ((S.O2 n).take j)*x.card)=S.O4 ((S.O2 n).take (j+1)):=by rw[<-e1,aA (by omega) (by omega)]
    have r:((S.O2 n).take j).length=j:=by rw[Q_,aP];omega
    have B:(((S.O2 n).take j++List.replicate (n.nodes.length - j) 0).map ci)[j]?=some (ci 0):=by rw[Qx,QL (by omega),r,RF,List.getElem?_replicate,QA (by omega)];rfl
    have A:j<(((S.O2 n).take j++List.replicate (n.nodes.length - j) 0).map ci).length:=by simp[aP];omega
    have C:((S.O2 n).take j++List.replicate (n.nodes.length - j) 0).set j x.card=(S.O2 n).take (j+1)++List.replicate (n.nodes.length - (j+1)) 0:=by rw[R2 _ _ (by omega),r,RF,ets,show n.nodes.length - j=(n.nodes.length - (j+1))+1 by omega,RT,Sf,RG];rfl
    have U:=hp.fr f1;obtain⟨g2,p⟩:∃g2,g2=(g.new (TD 3 [[Uk 0,.nils,.nils]])).put g.nx (TD 3 [[Uk x.card,pa,ra]]):=⟨_,rfl⟩;have f2:Fr g g2:=by rw[p];exact M3 (by simp) λi hi=>by simp[O6,show ¬i=g.nx by omega]
    have k:=hp.fr f2;have K:g2.h.get g.nx=TD 3 [[Uk x.card,pa,ra]]:=by rw[p];simp[O6]
    refine jo (P:=λt' df g'=>df=[]/\g'=g2/\St t' ((48,b)::(5,Uk (S.O4 ((S.O2 n).take j)))::LRd q)/\tat t' 6=Uk (j:Int)/\tat t' 7=Ul g.nx/\tat t' 50=Uk (j:Int)/\tat t' 49=Uk (n.nodes.length:Int)) ?_ ?_
    ·simp only[sz,simprocAttr,f,h49,h50,r1,hlt,q1];rw[p];simp[St,LRd,sx,h1,h2,h4,h5,f]
    clear h1 h2 h4 h5 f h49 h50;rintro t df g3 ⟨rfl,rfl,⟨f,h5,h1,h2,h4,-⟩,O,h7,h50,h49⟩;have F:=k.hc.rows;simp only[sz,simprocAttr,h4,O,h7,K,k.hq,F,A,c1,u];refine ck (v:=cv) (sz:=1) (n:=1) (i:=j) (off:=0) (x:=Uk x.card) (row':=ci x.card) k.hc B rfl rfl rfl λg4 hu4 n4 f4=>?_;rw[Fp,C]at hu4;have z:g4.h.get g.nx=TD 3 [[Uk x.card,pa,ra]]:=by rw[f4 _ λe=>by have:=(hp.hc.lt e).2;omega,K]
    simp only[sz,simprocAttr,h5,h7,h49,h50,z,w1];refine⟨by simp[St,LRd,sx,h1,h2,h4,f],⟨?_,?_,?_,hu4,?_,q2,by rw[n4];exact k.qn,hp.d1,hp.d2,hp.d3⟩,l⟩
    ·rw[f4 0 λe=>by have:=(hp.hc.lt e).1;omega,k.h0]
    ·rw[f4 1 λe=>by have:=(hp.hc.lt e).1;omega,k.h1]
    ·rw[f4 q hp.d1,k.hq]
    ·exact k.hs.fr (by omega) λi hi=>f4 i λe=>hp.d3 i e hi
 ·rintro t df g ⟨rfl,h⟩;exact fin t g h
end
def ja(ps:List Int)(i:Nat):Int:=if i=0 then -1 else ps[i - 1]?.getD 0
theorem wJ(h:ps[i]?=some p):ja ps (i+1)=p:=by unfold ja;rw[Qw (by omega),Nat.add_sub_cancel,h];rfl
structure PlI (ps:List Int) (k:Int) (v i:Nat):Prop where
 rng:∀(j:Nat) (p:Int),j<i->ps[j]?=some p->0<=p/\p<k/\p≠(v:Int)
 inc:∀(j:Nat) (p q:Int),j+1<i->ps[j]?=some p->ps[j+1]?=some q->p<q
theorem KE{k:Int}{v:Nat}(h:PlI ps k v i)(hp:ps[i]?=some p)(h1:ja ps i<p)(h2:p<k)(h3:p≠(v:Int)):PlI ps k v (i+1):=by
 refine⟨λj q hj hq=>?_,λj a c hj ha hc=>?_⟩
 ·by_cases e:j=i
  ·subst e;rw[hp]at hq;injection hq with hq;subst hq;refine⟨?_,h2,h3⟩
   by_cases e0:j=0
   ·subst e0;unfold ja at h1;simp at h1;omega
   ·have b:j - 1<ps.length:=by have:=(Qt.1 hp).1;omega
    have:=h.rng (j - 1) ps[j - 1] (by omega) (Qu b);unfold ja at h1;rw[Qw e0,Qu b,QC]at h1;omega
  ·exact h.rng j q (by omega) hq
 ·by_cases e:j+1=i
  ·subst e;rw[hp]at hc;injection hc with hc;subst hc;rw[wJ ha]at h1;exact h1
  ·exact h.inc j a c (by omega) ha hc
theorem FB{k:Int}{v:Nat}(h:PlI ps k v ps.length):S.Px ps k=true:=by
 unfold S.Px;rw[QS];intro i hi;have hi:=QX.1 hi;have hp:ps[i]?=some ps[i]:=Qu hi;obtain⟨a,b,-⟩:=h.rng i _ hi hp
 by_cases e:i=0
 ·subst e;simp only[S.PL,hp,QC];simp;omega
 ·have hq:ps[i - 1]?=some ps[i - 1]:=Qu (by omega);have:=h.inc (i - 1) _ ps[i] (by omega) hq (by rw[show i - 1+1=i by omega];exact hp);simp only[S.PL,hp,hq,QC];simp;omega
theorem NR.pl{n:Net}(h:NR n){v:Nat}(hx:n.nodes[v]?=some x)(hp:x.parents[i]?=some p):ja x.parents i<p/\p<n.nodes.length/\p≠(v:Int):=by
 have hm:=Qz hx;have k:=h.places x hm;have h1:=dH k p (Qz hp);have hl2:=h.l2;refine⟨?_,h1.2,λe=>?_⟩
 ·unfold ja
  split
  ·omega
  ·rename_i e;have b:=(Qt.1 hp).1;have hq:x.parents[i - 1]?=some x.parents[i - 1]:=Qu (by omega);rw[hq,QC];exact ua k hq (by rw[show i - 1+1=i by omega];exact hp)
 ·have c:=(Qt.1 hx).1;have ha:=uk.1 h.acyc v (by simp[S.O6];exact c);have a:Par (S.O6 n) v=S.O9 x.parents:=by simp[Par,S.O6,hx]
  have hb:(Par (S.O6 n) v).testBit v=true:=by rw[a,xO λy hy=>by have:=dH k y hy;omega,<-e];exact Qz hp
  have:=x_ (p:=S.O6 n) (s:=Par (S.O6 n) v) (S.O6 n).length v hb;rw[this]at ha;cases ha
section
variable {d:Nat}{n:Net}{b cv sv:AV}{q:Nat}{rows:List (List AV)}
def S.Pt(n:Net)(j:Nat)(m:Nat):List Nat:=(S.O6 n).take j++m::List.replicate (n.nodes.length - (j+1)) 0
structure Rd1 (n:Net) (x:Node) (b cv sv pa:AV) (q j p9 i:Nat) (t:T) (g:G):Prop where
 st:St t ((80,b)::(81,Uk (n.nodes.length:Int))::(82,Uk (j:Int))::(88,pa)::(8,Uk (j:Int))::(9,Ul p9)::(10,Uk (ja x.parents i))::LRd q)
 hp:RdH n b cv sv q (S.O2 n) (S.Pt n j (S.O9 (x.parents.take i))) g
 ok:PlI x.parents n.nodes.length j i
theorem Mq[XOc]{pa:AV}{p9:Nat}{c9:List AV}(hl:n.nodes.length<=8)(hN:SlR NoP 0 .nil n.nodes b)(hx:n.nodes[j]?=some x)(hpa:SlR NoP 0 .nil x.parents pa)
  (h0:Rd1 n x b cv sv pa q j p9 0 t g) (h90:tat t 90=Uk 0) (h89:tat t 89=Uk (x.parents.length:Int)) (e9:g.h.get p9=TD 3 [c9]) (p9s:vid sv≠some p9)
  (bad:∀t g,¬NR n->g.h.get 1=TD 5 [[Uk 0,.nils,.nils,.nils,.nils]]->tat t 2=Ul 1->tat t 3=Uk 50->Q .ret t [] g)
  (fin:∀t g',Rd1 n x b cv sv pa q j p9 x.parents.length t g'->g'.h.get p9=TD 3 [c9]->g.nx<=g'.nx->Q (.exit 4) t [] g'):wpL (wp C0 d none nh) Q t [] g:=by
 have Y:=(Qt.1 hx).1;have nl:=λg=>hN.len g;have rp:=λh=>(hpa.tree (h':=h) (Qv 0)).ints;have y:(S.O6 n).length=n.nodes.length:=by simp[S.O6]
 have z:((S.O6 n).take j).length=j:=by rw[Q_,y];omega
 simp only[nh];refine bz (m:=x.parents.length) hpa.1 (λi t df g'=>df=[]/\Rd1 n x b cv sv pa q j p9 i t g'/\g'.h.get p9=TD 3 [c9]/\g.nx<=g'.nx) ⟨rfl,h0,e9,Qv _⟩ h90 h89 (by decide)
  (by rintro i t df g v s (rfl|rfl|rfl) ⟨a1,⟨⟨b1,b2,b3,b4,R,U,V,W,X,I,-⟩,c1,A⟩,B⟩<;>exact⟨a1,⟨by simp[St,LRd,sx,b1,b2,b3,b4,R,U,V,W,X,I],c1,A⟩,B⟩) ?_ ?_
 ·rintro i t df g hi ⟨rfl,⟨⟨c,f,l,k,h8,h9,a,h1,h2,h4,-⟩,hp,M⟩,e9,en⟩ h90 h89;obtain⟨p,r,O,-⟩:=ae hi;have F:i<(x.parents.map ci).length:=by simpa using hi
  have H:(x.parents.map ci)[i]?=some (ci p):=by rw[Qx,r];rfl
  have badn:¬(ja x.parents i<p/\p<n.nodes.length/\p≠(j:Int))->¬NR n:=λh hr=>h (hr.pl hx r);have q2:=hp.q2
  by_cases c1:p<=ja x.parents i
  ·simp only[sz,simprocAttr,h2,a,k,h90,rp,F,H,ci,hp.h1,c1];exact bad _ _ (badn (by omega)) (by simp[O6]) (by simp[sx,h2]) (by simp[sx])
  by_cases A:(n.nodes.length:Int)<=p
  ·simp only[sz,simprocAttr,h2,h4,a,k,h90,rp,F,H,ci,hp.hq,nl,hp.h1,c1,A];exact bad _ _ (badn (by omega)) (by simp[O6]) (by simp[sx,h2]) (by simp[sx])
  by_cases B:p=(j:Int)
  ·subst B;simp only[sz,simprocAttr,h2,h4,h8,a,k,h90,rp,F,H,ci,hp.hq,nl,hp.h1,c1,A,eq_self];exact bad _ _ (badn (by omega)) (by simp[O6]) (by simp[sx,h2]) (by simp[sx])
  have w:=KE M r (by omega) (by omega) B;obtain⟨p0,-,-⟩:=w.rng i p (by omega) r;obtain⟨p,rfl⟩:=QD p0;have C:((S.Pt n j (S.O9 (x.parents.take i))).map cu)[j]?=some (cu (S.O9 (x.parents.take i))):=by rw[Qx,S.Pt,QL (by omega),z,RF];rfl
  have J:j<((S.Pt n j (S.O9 (x.parents.take i))).map cu).length:=by simp[S.Pt,y];omega
  have K:(S.Pt n j (S.O9 (x.parents.take i))).set j (S.O9 (x.parents.take (i+1)))=S.Pt n j (S.O9 (x.parents.take (i+1))):=by simp only[S.Pt];rw[R2 _ _ (by omega),z,RF,Sf]
  have em:S.O9 (x.parents.take (i+1))=S.O9 (x.parents.take i) ||| S.Ph p:=by rw[O,Bg];rfl
  have E:bT .shl (Um 1) (Uk (p:Int))=.val (Um (S.Ph p:Int)):=eK .i64 p;have D:=vH (S.O9 (x.parents.take i)) (S.Ph p) (sC _) (mX p);rw[<-em]at D;have N:=hp.hs.rows;have L:=wJ r;refine fA (P:=λt' df g'=>df=[]/\g'=g/\St t' ((80,b)::(81,Uk (n.nodes.length:Int))::(82,Uk (j:Int))::(88,pa)::(8,Uk (j:Int))::(9,Ul p9)::(10,Uk (ja x.parents i))::LRd q)/\tat t' 12=Uk (p:Int)/\tat t' 90=Uk (i:Int)/\tat t' 89=Uk (x.parents.length:Int)) ?_ ?_
  ·simp only[sz,simprocAttr,k,h90,rp,F,H,ci];simp[St,LRd,sx,h1,h2,h4,h8,h9,a,c,f,l,k,h89]
  clear h1 h2 h4 h8 h9 a c f l k h89 h90;rintro t df g' ⟨rfl,rfl,⟨c,f,l,k,h8,h9,a,h1,h2,h4,-⟩,u,h90,h89⟩;refine fA (P:=λt' df g''=>df=[]/\g''=g'/\St t' ((80,b)::(81,Uk (n.nodes.length:Int))::(82,Uk (j:Int))::(88,pa)::(8,Uk (j:Int))::(9,Ul p9)::(10,Uk (ja x.parents i))::LRd q)/\tat t' 12=Uk (p:Int)/\tat t' 90=Uk (i:Int)/\tat t' 89=Uk (x.parents.length:Int)) ?_ ?_
  ·simp only[sz,simprocAttr,h4,h8,a,u,h89,h90,hp.hq,nl,c1,A,B];simp[St,LRd,sx,h1,h2,h4,h8,h9,a,c,f,l,k]
  clear h1 h2 h4 h8 h9 a u c f l k h89 h90;rintro t df g'' ⟨rfl,rfl,⟨c,f,l,k,h8,h9,a,h1,h2,h4,-⟩,u,h90,h89⟩;simp only[sz,simprocAttr,sf,h4,h8,u,hp.hq,N,J,C,cu,E,D];refine ck (v:=sv) (sz:=1) (n:=1) (i:=j) (off:=0) (x:=Um (S.O9 (x.parents.take (i+1)):Int)) (row':=cu (S.O9 (x.parents.take (i+1)))) (hp.hs.fr (by simp;omega) λi _=>by simp) C rfl rfl rfl λg4 hu4 n4 f4=>?_;rw[show (((S.Pt n j (S.O9 (x.parents.take i))).map cu).set j (cu (S.O9 (x.parents.take (i+1)))))=(S.Pt n j (S.O9 (x.parents.take (i+1)))).map cu from by rw[<-RD,K]]at hu4;have o:∀i,vid sv≠some i->g4.h.get i=g''.h.get i:=λi hi=>by rw[f4 i hi];simp
  have Z:g''.nx<=g4.nx:=by rw[n4];simp;omega
  simp only[sx,sy,↓reduceIte,Nat.reduceEqDiff];refine⟨?_,⟨⟨?_,⟨?_,?_,?_,?_,?_,q2,?_,hp.d1,hp.d2,hp.d3⟩,w⟩,?_,?_⟩,h90,h89⟩
  ·simp only[Q2,QZ,QY,QI];exact aJ (false::(TV (true::[]))) [] (by simp[All2,ak,aw]) (by decide) (by simp)
  ·rw[L];simp[St,LRd,sx,h1,h2,h4,h8,h9,c,f,l,k]
  ·simp only[bumpG_h];rw[o 0 λe=>by have:=(hp.hs.lt e).1;omega,hp.h0]
  ·simp only[bumpG_h];rw[o 1 λe=>by have:=(hp.hs.lt e).1;omega,hp.h1]
  ·simp only[bumpG_h];rw[o q hp.d2,hp.hq]
  ·exact hp.hc.fr (by simp;omega) λi hi=>by simp only[bumpG_h];exact o i (hp.d3 i hi)
  ·exact hu4.fr (by simp) λi _=>by simp
  ·have:=hp.qn;simp;omega
  ·rw[o p9 p9s,e9]
  ·omega
 ·rintro t df g' ⟨rfl,h,e9,en⟩;exact fin t g' h e9 en
end
section
variable {d:Nat}{n:Net}{b cv sv:AV}{q:Nat}{rows:List (List AV)}
structure Rd4 (n:Net) (b cv sv:AV) (q j:Nat) (t:T) (g:G):Prop where
 st:St t ((80,b)::LRd q)
 hp:RdH n b cv sv q (S.O2 n) ((S.O6 n).take j++List.replicate (n.nodes.length - j) 0) g
 ok:∀x∈n.nodes.take j,S.Px x.parents n.nodes.length=true/\S.PK n.grain (S.O2 n) x=true
theorem MX(n:Net)(j m:Nat)(hm:m<18446744073709551616):∀y∈S.Pt n j m,y<18446744073709551616:=λy hy=>by
 simp only[S.Pt,Q0,Q8]at hy;rcases hy with hy|rfl|hy
 ·obtain⟨x,-,rfl⟩:=Ri.1 (Rs hy);exact sC _
 ·exact hm
 ·rw[(Ts.1 hy).2];decide
theorem Own.natsV{b:Nat}{l:List Nat}(h:Own g b v 1 (l.map cu))(hl:l.length<9223372036854775808)(hb:∀y∈l,y<18446744073709551616):SlR (λi=>vid v=some i) 0 g.h l v :=
 Own.sl (α:=Nat) h hl (by
  have:∀l:List Nat,(∀y∈l,y<18446744073709551616)->All2 (Rp.rp (α:=Nat) (λi=>vid v=some i) 0 g.h) l (l.map cu):=λl=>by
   induction l with
   |nil=>intro _;trivial
   |cons y l ih=>intro h;exact⟨rQ.2 ⟨rfl,h y (by simp)⟩,ih λz hz=>h z (by simp[hz])⟩
  exact this l hb) λ_ h=>h
theorem Own.nats'{b:Nat}{l:List Nat}(h:Own g b v 1 (l.map cu))(hl:l.length<9223372036854775808)(hb:∀y∈l,y<18446744073709551616):SlR (λ_=>True) 0 g.h l v :=
 (h.natsV hl hb).wd λ_ _=>⟨trivial,rfl⟩
theorem Own.intsV{b:Nat}(h:Own g b v 1 (l.map ci))(hl:l.length<9223372036854775808):SlR (λi=>vid v=some i) 0 g.h l v :=
 Own.sl (α:=Int) h hl (O2 (λa=>aI.2 rfl) _) λ_ h=>h
theorem LW{n:Net}(h:NR n)(hx:x∈n.nodes):S.PK n.grain (S.O2 n) x=true:=by simp only[S.PK,S.Pg,Qy,QQ,QS];exact⟨h.rows x hx,λr hr=>⟨⟨(h.row x hx r hr).1,(h.row x hx r hr).2.1⟩,(h.row x hx r hr).2.2⟩⟩
theorem Mr[XOc](hd:0<d)(hl:n.nodes.length<=8)(hg1:1<=n.grain/\n.grain<=60)(hcard:∀c∈S.O2 n,1<=c/\c<=4)(hN:SlR NoP 0 .nil n.nodes b)(r1:∀h,af h 3 b=some rows)(r2:rows.length=n.nodes.length)
  (r3:∀(i:Nat) (x:Node),n.nodes[i]?=some x->∃pa ra,rows[i]?=some [Uk x.card,pa,ra]/\i<rows.length/\SlR NoP 0 .nil x.parents pa/\SlR NoP 0 .nil x.rows ra) (r4:0<n.nodes.length->md b=true)
  (h0:Rd4 n b cv sv q 0 t g) (h82:tat t 82=Uk 0) (h81:tat t 81=Uk (n.nodes.length:Int))
  (bad:∀t g,¬NR n->g.h.get 1=TD 5 [[Uk 0,.nils,.nils,.nils,.nils]]->tat t 2=Ul 1->tat t 3=Uk 50->Q .ret t [] g)
  (fin:∀t g,Rd4 n b cv sv q n.nodes.length t g->Q (.exit 2) t [] g):wpL (wp C0 d none ni) Q t [] g:=by
 simp only[ni,tf];refine bz (m:=n.nodes.length) (by omega) (λj t df g=>df=[]/\Rd4 n b cv sv q j t g) ⟨rfl,h0⟩ h82 h81 (by decide)
  (by rintro j t df g v s (rfl|rfl|rfl) ⟨a1,⟨b1,b2,b3,b4,-⟩,c1,O⟩<;>exact⟨a1,by simp[St,LRd,sx,b1,b2,b3,b4],c1,O⟩) ?_ ?_
 ·rintro j t df g V ⟨rfl,⟨⟨f,h1,h2,h4,-⟩,hp,E⟩⟩ h82 h81;obtain⟨x,hx,J,L⟩:=ae V;obtain⟨pa,ra,q1,hlt,w,I⟩:=r3 j x hx;have X:=r4 (by omega);have q2:=hp.q2;have qn:=hp.qn;have C:(S.O6 n).length=n.nodes.length:=by simp[S.O6]
  have F:(S.O6 n)[j]?=some (S.O9 x.parents):=by simp[S.O6,hx]
  obtain⟨g2,u⟩:∃g2,g2=(g.new (TD 3 [[Uk 0,.nils,.nils]])).put g.nx (TD 3 [[Uk x.card,pa,ra]]):=⟨_,rfl⟩;have f2:Fr g g2:=by rw[u];exact M3 (by simp) λi hi=>by simp[O6,show ¬i=g.nx by omega]
  have n2:g.nx<g2.nx:=by rw[u];simp
  have A:=hp.fr f2;have M:g2.h.get g.nx=TD 3 [[Uk x.card,pa,ra]]:=by rw[u];simp[O6]
  have eY:(S.O6 n).take j++List.replicate (n.nodes.length - j) 0=S.Pt n j (S.O9 (x.parents.take 0)):=by rw[S.Pt,show n.nodes.length - j=(n.nodes.length - (j+1))+1 by omega,RT];rfl
  have eY2:S.Pt n j (S.O9 x.parents)=(S.O6 n).take (j+1)++List.replicate (n.nodes.length - (j+1)) 0:=by rw[S.Pt,SG,F,RG];rfl
  rw[eY]at A;refine jo (P:=λt' df g'=>df=[]/\g'=g2/\St t' ((80,b)::(81,Uk (n.nodes.length:Int))::(82,Uk (j:Int))::(8,Uk (j:Int))::(9,Ul g.nx)::LRd q)) ?_ ?_
  ·simp only[sz,simprocAttr,f,h82,r1,hlt,q1];rw[u];simp[St,LRd,sx,h1,h2,h4,f,h81,h82]
  clear h1 h2 h4 f h81 h82;rintro t df g3 ⟨rfl,rfl,⟨f,h81,h82,h8,h9,h1,h2,h4,-⟩⟩;have pl:=λg=>w.len g;simp only[sz,simprocAttr,h9,M,pl];refine Mq (j:=j) (p9:=g.nx) (x:=x) (pa:=pa) (b:=b) (cv:=cv) (sv:=sv) (q:=q) hl hN hx w ⟨by simp[St,LRd,sx,ja,h1,h2,h4,h8,h9,f,h81,h82],A,⟨λi p hi=>by omega,λi p r hi=>by omega⟩⟩ (by simp[sx]) (by simp[sx]) M (λe=>by have:=(hp.hs.lt e).2;omega) ?_ ?_
  ·intro t g W a1 a2 a3;simp only[sx,sy];exact bad t g W a1 a2 a3
  ·rintro t D ⟨⟨f,h81,h82,U,h8,h9,R,h1,h2,h4,-⟩,k,H⟩ z Z;rw[Q4]at k;have o:=FB H;have B:∀p∈x.parents,0<=p/\p<((S.O2 n).length:Int):=λp hp=>by rw[aP];exact dH o p hp
   have N:=jd o (by omega);have Y:(S.Pt n j (S.O9 x.parents)).length<=8:=by simp[S.Pt,C];omega
   have hm:Agg ((n,S.O2 n,S.Pt n j (S.O9 x.parents),[]):NwM) (λ_=>True) 0 D.h (.agg [Uk n.grain,b,cv,sv,.nils]) :=
    ⟨_,rfl,wO.2 ⟨b,cv,sv,.nils,rfl,hN.wide (Qv 0),Own.sl (α:=Int) k.hc (by rw[aP];omega) (O2 (λa=>aI.2 rfl) _) λ_ _=>trivial,k.hs.nats' (by omega) (MX n j _ (sC _)),⟨by show 0<9223372036854775808;decide,rfl⟩⟩⟩
   have K:Agg x NoP 0 D.h (.agg [Uk x.card,pa,ra]):=⟨_,rfl,bV.2 ⟨pa,ra,rfl,w.tree (Qv 0),I.tree (Qv 0)⟩⟩;have l:=Ie (d:=d) (g:=D) hd hm K ⟨rfl,rfl⟩ hg1 hcard B (by omega);have l:aq C0 d 130 [.agg [Uk n.grain,b,cv,sv,.nils],.agg [Uk x.card,pa,ra]] D=.val (.bool (S.PK n.grain (S.O2 n) x)):=l;cases hf:S.PK n.grain (S.O2 n) x with
   | false =>
    rw[hf]at l;simp only[sz,simprocAttr,nj,h2,h4,h9,k.hq,k.h1,z,l];refine bad _ _ (λhr=>?_) (by simp[O6]) (by simp[sx,h2]) (by simp[sx]);have:=LW hr L;rw[hf]at this;cases this
   | true =>
    rw[hf]at l;simp only[sz,simprocAttr,nj,h4,h9,k.hq,z,l];rw[eY2]at k;refine⟨⟨by simp[St,LRd,sx,h1,h2,h4,f],k,λy hy=>?_⟩,by simp[h82],by simp[h81]⟩;rw[J]at hy;rcases Q0.1 hy with h|h
    ·exact E y h
    ·rw[Rg.1 h];exact⟨o,hf⟩
 ·rintro t df g ⟨rfl,h⟩;exact fin t g h
end
theorem K5(n:Net):Snb (CS n) 2:=kM λo=>iE (m:=2) (c_ _) (aU _) (by decide) (by decide)
theorem Cq[XOc]{d:Nat}{n:Net}(hd:0<d)(hm:Agg n NoP 0 g.h v):∃r,aq C0 d 105 [v] g=.val r/\CS n NoP 0 .nil r:=by
 obtain⟨b,rows,rfl,e,R,hN,L,M,N,O⟩:=cy d hm;rw[Ae];refine bj Dc (xs:=[.agg [Uk n.grain,b]]) (by simp only[aF,e]) (by simp[lE]) (K5 n) (by decide) hd ?_;have nl:=λg=>hN.len g;simp only[sz,simprocAttr,lE];obtain⟨g0,hg0⟩:∃g0,g0=(G.empty.new (TD 2 [[Uk n.grain,b]])).new (TD 5 [[Uk 0,.nils,.nils,.nils,.nils]]):=⟨_,rfl⟩;rw[<-hg0];have f0:g0.h.get 0=TD 2 [[Uk n.grain,b]]:=by rw[hg0];simp[sx,O6]
 have f1:g0.h.get 1=TD 5 [[Uk 0,.nils,.nils,.nils,.nils]]:=by rw[hg0];simp[sx]
 have f2:g0.nx=2:=by rw[hg0];simp[sx]
 clear hg0;obtain⟨Qf,m⟩:∃Qf,Qf=fnQ C0 (d+1) [SR.cell true 5 2,SR.tm 3] (λv g'=>∃P,CS n P 0 g'.h v):=⟨_,rfl⟩;have bad:∀(t:T) (g:G),¬NR n->g.h.get 1=TD 5 [[Uk 0,.nils,.nils,.nils,.nils]]->tat t 2=Ul 1->tat t 3=Uk 50->Qf .ret t [] g:=λt g B a1 a2 a3=>by rw[m];exact N6 B a1 a2 a3
 rw[<-m];simp only[uM]
 by_cases c1:n.grain<1
 ·rw[dW];simp only[sz,simprocAttr,f0,f1,c1];exact bad _ _ (λh=>by have:=h.g1;omega) (by simp[O6]) (by simp[sx]) (by simp[sx])
 by_cases c2:60<n.grain
 ·rw[dW];simp only[sz,simprocAttr,f0,f1,c1,c2];exact bad _ _ (λh=>by have:=h.g2;omega) (by simp[O6]) (by simp[sx]) (by simp[sx])
 by_cases c3:(n.nodes.length:Int)<1
 ·rw[dW];simp only[sz,simprocAttr,f0,f1,c1,c2,c3,nl];exact bad _ _ (λh=>by have:=h.l1;omega) (by simp[O6]) (by simp[sx]) (by simp[sx])
 by_cases c4:8<(n.nodes.length:Int)
 ·rw[dW];simp only[sz,simprocAttr,f0,f1,c1,c2,c3,c4,nl];exact bad _ _ (λh=>by have:=h.l2;omega) (by simp[O6]) (by simp[sx]) (by simp[sx])
 refine fA (P:=λt' df g'=>df=[]/\g'=g0/\St t' [(1,Ul 0),(2,Ul 1)]) ?_ ?_
 ·simp only[sz,simprocAttr,f0,c1,c2,c3,c4,nl];simp[St,sx]
 rintro t df g1 ⟨rfl,rfl,h1,h2,-⟩;have A:n.nodes.length<=8:=by omega
 refine fA (P:=λt' df g'=>df=[]/\∃cv sv q,St t' (LRd q)/\RdH n b cv sv q (List.replicate n.nodes.length 0) (List.replicate n.nodes.length 0) g') ?_ ?_
 ·simp only[sz,simprocAttr,sf,h1,f0,nl];refine l_ (b:=2) (n:=n.nodes.length) (by unfold aQ;omega) (by unfold aQ;omega) (by first| (simp;done)| (simp;omega)) λcv g2 hcv n2 fr2 v2 lg2=>?_;simp only[sy]at n2 fr2 v2 lg2;have K:g2.h.get 0=TD 2 [[Uk n.grain,b]]:=by rw[fr2 0 (by omega),f0]
  simp only[sz,simprocAttr,sf,h1,K,nl,lg2];refine l_ (b:=2) (n:=n.nodes.length) (by unfold aQ;omega) (by unfold aQ;omega) (by first| (simp;done)| (simp;omega)) λsv g3 hsv n3 fr3 v3 lg3=>?_;simp only[sy]at n3 fr3 v3 lg3;simp only[sz,simprocAttr,sf,lg3,hcv.cell.1,hcv.cell.2,hsv.cell.1,hsv.cell.2];refine⟨?_,cv,sv,g3.nx+1+1,?_,?_⟩
  ·simp only[Q2,QZ,QY,QI,G.new_lg,G.put_lg,setLog_lg];refine aJ (TW (true::(false::(TX (true::(false::(true::(true::[])))))))) [(0,4),(4,5),(4,6),(4,7),(0,8),(1,8),(2,8),(3,8),(4,8),(0,10),(1,10),(2,10),(3,10),(4,10),(5,10),(6,10),(7,10),(8,10),(9,10)] (by simp[All2,ak,aw]) (by decide) ?_;rintro p hp x y hx l;simp only[Q8,QG,SY]at hp;rcases hp with rfl|rfl|rfl|rfl|rfl|rfl|rfl|rfl|rfl|rfl|rfl|rfl|rfl|rfl|rfl|rfl|rfl|rfl|rfl<;>(simp at hx l;subst hx;subst l;refine dk rfl rfl rfl rfl ?_ ?_ ?_<;>simp[ak,aw,am]<;>omega)
  ·simp[St,LRd,sx,h1,h2]
  ·have fa:∀i,i<g2.nx->g3.h.get i=g2.h.get i:=λi hi=>by have:=fr3 i (by omega);simpa using this
   have fb:∀i,i<g1.nx->g2.h.get i=g1.h.get i:=λi hi=>by have:=fr2 i (by omega);simpa using this
   have w:Own g2 2 cv 1 ((List.replicate n.nodes.length (0:Int)).map ci):=by simpa [ci] using hcv
   have F:Own g3 2 sv 1 ((List.replicate n.nodes.length (0:Nat)).map cu):=by simpa [cu] using hsv
   have C:∀i,i<g3.nx->¬i=g3.nx+1+1:=λi hi=>by omega
   refine⟨?_,?_,?_,w.fr (by simp;omega) λi hi=>?_,F.fr (by simp;omega) λi hi=>?_,by omega,by first| (simp;done)| (simp;omega),λe=>?_,λe=>?_,λi hi hi2=>?_⟩
   ·simp[O6];rw[fa 0 (by omega),K]
   ·simp[O6];rw[fa 1 (by omega),fb 1 (by omega),f1]
   ·simp[O6]
   ·have:=fH v2 hi;simp[O6,C i (by omega)];rw[fa i (by omega)]
   ·have:=fH v3 hi;simp[O6,C i (by omega)]
   ·have:=fH v2 e;omega
   ·have:=fH v3 e;omega
   ·have:=fH v2 hi;have:=fH v3 hi2;omega
 rintro t df g ⟨rfl,cv,sv,q,⟨h1,h2,h4,-⟩,hp⟩;clear f0 f1 f2;have nlen:=nl g;simp only[sz,simprocAttr,h4,hp.hq,nl];refine Mp (b:=b) (cv:=cv) (sv:=sv) (q:=q) A hN L M N O ⟨by simp[St,LRd,sx,S.O4,h1,h2,h4],by simpa using hp,by simp⟩ (by simp[sx]) (by simp[sx]) ?_ ?_
 ·intro t g B a1 a2 a3;simp only[sx];exact bad t g B a1 a2 a3
 clear h1 h2 h4 hp nlen;rintro t g ⟨⟨H,h5,h1,h2,h4,-⟩,hp,s⟩;rw[RE (by rw[aP];exact Qv _)]at h5 hp;rw[RF,List.replicate_zero,QN]at hp;rw[Q4]at s;have I:∀c∈S.O2 n,1<=c/\c<=4:=λc hc=>by obtain⟨y,l,rfl⟩:=Ri.1 hc;exact s y l
 simp only[sz,simprocAttr,tg]
 by_cases d1:1024<S.O4 (S.O2 n)
 ·simp only[sz,simprocAttr,h2,h5,hp.h1,d1];exact bad _ _ (λh=>by have:=h.worlds;omega) (by simp[O6]) (by simp[sx,h2]) (by simp[sx])
 simp only[sz,simprocAttr,h4,h5,hp.hq,nl,d1];refine Mr (b:=b) (cv:=cv) (sv:=sv) (q:=q) (QM d) A (by omega) I hN L M N O ⟨by simp[St,LRd,sx,h1,h2,h4],by simpa using hp,by simp⟩ (by simp[sx]) (by simp[sx]) ?_ ?_
 ·intro t g B a1 a2 a3;simp only[sx];exact bad t g B a1 a2 a3
 clear h1 h2 h4 H h5 hp;rintro t g ⟨⟨Q,h1,h2,h4,-⟩,hp,k⟩;rw[RE (by simp[S.O6])]at hp;rw[RF,List.replicate_zero,QN]at hp;rw[Q4]at k;have E:(S.O6 n).length=n.nodes.length:=by simp[S.O6]
 have j:∀y∈S.O6 n,y<18446744073709551616:=λy l=>by obtain⟨x,-,rfl⟩:=Ri.1 l;exact sC _
 have u:∀y∈S.O6 n,y<2 ^ (S.O6 n).length:=λy l=>by obtain⟨x,hx,rfl⟩:=Ri.1 l;rw[E];exact Kj (by omega) λz hz=>dH (k x hx).1 z hz
 obtain⟨z,ez,o,-,oz,az,rfl,f,a⟩:=IM (d:=d+1) (g:=g) (QM d) (hp.hs.nats' (by omega) j) (by omega) u;have a:=pO.1 a;injection a with a;subst a;obtain⟨_,e1,f⟩:=f;injection e1 with e1;subst e1;cases hac:S.Py (S.O6 n) with
 | false =>
  rw[hac]at ez;simp only[sz,simprocAttr,nk,h2,h4,hp.hq,hp.h1,ez];exact bad _ _ (λh=>by have:=h.acyc;rw[hac]at this;cases this) (by simp[O6]) (by simp[sx,h2]) (by simp[sx])
 | true =>
  rw[hac]at ez;have D:S.O_ n=true:=cp.2 ⟨by omega,by omega,by omega,by omega,s,λx hx=>(k x hx).1,by omega,hac,λx hx=>by
   have:=(k x hx).2;simp only[S.PK,Qy,QQ]at this;exact this.1,λx hx r hr=>by
   have:=(k x hx).2;simp only[S.PK,S.Pg,Qy,QQ,QS]at this;have:=this.2 r hr;exact⟨this.1.1,this.1.2,this.2⟩⟩
  have q2:=hp.q2;have J:¬(1=q):=by omega
  have U:¬(q=1):=by omega
  have oc:=f.cell;rw[m];simp only[sz,simprocAttr,nk,h2,h4,hp.hq,hp.h1,ez,J,oc.1,oc.2];have fh:∀i,¬i=1->¬i=q->((g.h.put q (TD 5 [[Uk n.grain,b,cv,sv,oz]])).put 1 (TD 5 [[Uk n.grain,b,cv,sv,oz]])).get i=g.h.get i:=λi hi hi2=>by simp[O6,hi,hi2]
  refine⟨λ_=>True,o,trivial,_,_,rfl,⟨_,rfl,?_⟩,?_⟩
  ·rw[S.Qd,QA D];refine wO.2 ⟨b,cv,sv,oz,rfl,hN.wide (Qv 0),(hp.hc.intsV (by rw[aP];omega)).wd λi hi=>⟨trivial,fh i (by have:=(hp.hc.lt hi).1;omega) λe=>hp.d1 (by rw[hi,e])⟩,(hp.hs.natsV (by omega) j).wd λi hi=>⟨trivial,fh i (by have:=(hp.hs.lt hi).1;omega) λe=>hp.d2 (by rw[hi,e])⟩,f.wide (Qv 0)⟩
  ·rw[QA D];exact aI.2 rfl
theorem Fu{o:List Int}(h:S.O_ n=true):S.Qd n o=(n,S.O2 n,S.O6 n,o):=by rw[S.Qd,QA h]
theorem rK(hv:CS n P k h v) :
  (S.O_ n=false/\∃cs,v=.tup [.agg cs,Uk 50]/\cs.length=5) \/
  (S.O_ n=true/\∃b cv sv oz o,v=.tup [.agg [Uk n.grain,b,cv,sv,oz],Uk 0]/\SlR P k h n.nodes b/\SlR P k h (S.O2 n) cv/\SlR P k h (S.O6 n) sv/\SlR P k h (o:List Int) oz):=by
 obtain⟨o,-,a,c,rfl,⟨cs,rfl,hc⟩,hi⟩:=hv;have hi:=aI.1 hi;injection hi with hi;subst hi;cases hn:S.O_ n with
 | false =>
  refine .inl ⟨rfl,cs,rfl,?_⟩;obtain⟨a,b,c,e,rfl,-⟩:=wO.1 hc
  rfl
 | true =>
  rw[Fu hn]at hc;obtain⟨a,b,c,e,rfl,h1,h2,d,h4⟩:=wO.1 hc;exact .inr ⟨rfl,a,b,c,e,o,rfl,h1,h2,d,h4⟩
theorem C4[XOc]{k2:Nat}{P2:Nat->Prop}(hd:0<d)(hm:Agg n NoP 0 g.h v)(he:SlR P2 k2 g.h e w):aq C0 d 76 [v,w] g=.val (Uk (S.Pf n e)):=by
 obtain⟨w',H,p⟩:=bE he d;obtain⟨b,rows,rfl,e1,A,hN,M,N,O,P⟩:=cy d hm;have n2:=λg=>(p .nil).len g;have rb:=λh=>(p h).ints;rw[o8];refine eF qO (xs:=[.agg [Uk n.grain,b],w']) (by simp only[aF,e1,H]) (by simp[fJ]) hd ?_;have K:=he.1;simp only[sz,simprocAttr,fJ,iI,ie];obtain⟨z,ez,hz⟩:=Cq (d:=d+1) (g:=G.empty.new (TD 2 [[Uk n.grain,b]])) (QM d) (n:=n) (v:=.agg [Uk n.grain,b]) (A _);rcases rK hz with⟨i,cs,rfl,u⟩|⟨i,b',cv,sv,oz,o,rfl,hb,x,-,-⟩
 ·have hs:S.Pf n e=50:=by rw[S.Pf,i];rfl
  obtain⟨a1,a2,a3,a4,q,rfl⟩:∃a1 a2 a3 a4 q,cs=[a1,a2,a3,a4,q]:=by
   match cs,u with
   |[a1,a2,a3,a4,q],_=>exact⟨a1,a2,a3,a4,q,rfl⟩
  simp only[sz,simprocAttr,ez,hs,show ¬((50:Int)=0) from by decide]
 ·have nb:=λg=>(hb.tree (h':=g) (Qv 0)).len;have J:=hb.1;have rc:=λh=>(x.tree (h':=h) (Qv 0)).ints;have hcl:=aP n
  by_cases hl:e.length=n.nodes.length
  ·have f:(e.length:Int)=(n.nodes.length:Int):=by rw[hl]
   simp only[sz,simprocAttr,ez,n2,hb.len,hl];refine bz (m:=n.nodes.length) (by omega) (λj t df g=>df=[]/\St t [(24,w'),(5,Ul 1),(4,Uk 0)]/\g.h.get 1=TD 5 [[Uk n.grain,b',cv,sv,oz]]/\((List.range j).all λv=>decide (-1<=e[v]?.getD 0)&&decide (e[v]?.getD 0<(S.O2 n)[v]?.getD 0))=true)
    ⟨rfl,by simp[St,sx],by simp[sx],by simp⟩ (by simp[sx]) (by simp[sx]) (by decide) (by rintro j t df g v s (rfl|rfl|rfl)<;>simp[St,sx]) ?_ ?_
   ·rintro j t df g L ⟨rfl,⟨k,h5,h4,-⟩,hg,ha⟩ a r;obtain⟨y,C,-,-⟩:=ae (l:=e) (j:=j) (by omega);obtain⟨c,hc,-,-⟩:=ae (l:=S.O2 n) (j:=j) (by omega);have D:j<(e.map ci).length:=by simp;omega
    have E:(e.map ci)[j]?=some (ci y):=by rw[Qx,C];rfl
    have u3:j<((S.O2 n).map ci).length:=by simp;omega
    have F:((S.O2 n).map ci)[j]?=some (ci c):=by rw[Qx,hc];rfl
    have B:((List.range (j+1)).all λv=>decide (-1<=e[v]?.getD 0)&&decide (e[v]?.getD 0<(S.O2 n)[v]?.getD 0))=(decide (-1<=y)&&decide (y<c)):=by rw[Sd,List.all_append,ha];simp[C,hc]
    have bad:(decide (-1<=y)&&decide (y<c))=false->S.Pf n e=2:=λh=>by
     have h1:S.O8 n e=false:=by
      rw[S.O8];have:((List.range e.length).all λv=>decide (-1<=e[v]?.getD 0)&&decide (e[v]?.getD 0<(S.O2 n)[v]?.getD 0))=false:=by rw[<-RL,QS];intro h2;have:=h2 j (QX.2 (by omega));rw[C,hc,QC,QC,h]at this;cases this
      rw[this,Bool.and_false]
     rw[S.Pf,i,h1];rfl
    by_cases c1:y < -1
    ·have:=bad (by simp;omega);simp only[sz,simprocAttr,k,a,rb,D,E,ci,c1,this]
    ·by_cases c2:c<=y
     ·have:=bad (by simp;omega);simp only[sz,simprocAttr,k,h5,a,hg,rb,rc,D,E,u3,F,ci,c1,c2,this]
     ·have I:((List.range (j+1)).all λv=>decide (-1<=e[v]?.getD 0)&&decide (e[v]?.getD 0<(S.O2 n)[v]?.getD 0))=true:=by rw[B];simp;omega
      simp only[sz,simprocAttr,k,h5,h4,a,r,hg,rb,rc,D,E,u3,F,ci,c1,c2,St,I]
   ·rintro t df g ⟨rfl,⟨k,h5,h4,-⟩,hg,ha⟩;have h1:S.O8 n e=true:=by rw[S.O8,hl,S8 rfl,ha];rfl
    have hs:S.Pf n e=0:=by rw[S.Pf,i,h1];rfl
    simp only[sz,simprocAttr,ig,hs]
  ·have f:¬((e.length:Int)=(n.nodes.length:Int)):=by omega
   have h1:S.O8 n e=false:=by rw[S.O8,So hl];rfl
   have hs:S.Pf n e=2:=by rw[S.Pf,i,h1];rfl
   simp only[sz,simprocAttr,ez,n2,hb.len,f,hs]
section
variable {x:Int}
theorem LJ[XOc](hd:0<d):aq C0 d 172 [Uk x] g=.val (.bool false):=by rw[uw];refine d7 xg (xs:=[Uk x]) (by simp only[aF,bJ 0]) (by simp[lA]) hd ?_;simp only[sz,simprocAttr,lA]
theorem MK[XOc](hd:0<d):aq C0 d 166 [Uk x] g=.val (.bool false):=by rw[qK];refine d7 tN (xs:=[Uk x]) (by simp only[aF,bJ 0]) (by simp[iv]) hd ?_;simp only[sz,simprocAttr,iv]
theorem L9[XOc]{y:Int}(hd:0<d):aq C0 d 165 [Uk x,Uk y] g=.val (.bool (decide (x<y))):=by rw[vK];refine d7 yQ (xs:=[Uk x,Uk y]) (by simp only[aF,bJ 0]) (by simp[m_]) hd ?_;simp only[sz,simprocAttr,m_,LJ (QM d)]
theorem JY(h:i+j<9223372036854775808):bT .shr (Um ((i+j:Nat):Int)) (Um 1)=.val (Um (((i+j) / 2:Nat):Int)):=sj .u64 (i+j) 1 (by omega)
theorem II[XOc](hd:0<d)(hv:SlR P k g.h l v)(hl:l.length<=1000):∃(p:Nat) (b:Bool),p<=l.length/\aq C0 d 153 [v,Uk x] g=.val (.tup [Uk (p:Int),.bool b]):=by
 obtain⟨v',e,q⟩:=bE hv d;have nl:=λg=>(q .nil).len g;have rl:=λh=>(q h).ints;have key:∃r,aq C0 d 153 [v,Uk x] g=.val r/\(λP k h v=>∃o:Nat×Bool,o.1<=l.length/\yf (One (o.1:Int)) (One o.2) P k h v) NoP 0 .nil r:=by
  rw[iW];refine bj jO (xs:=[v',Uk x]) (by simp only[aF,e,bJ 0]) (by simp[cB]) (kM λo=>iE (m:=1) (aU _) (aU _) (by decide) (by decide)) (by decide) hd ?_;simp only[sz,simprocAttr,cB,nl];refine rZ (λm t df g=>df=[]/\∃i j:Nat,m=j - i/\i<=j/\j<=l.length/\St t [(0,v'),(1,Uk x),(6,Uk (l.length:Int)),(7,Uk (i:Int)),(8,Uk (j:Int))]) l.length
   ⟨rfl,0,l.length,rfl,Rf _,Qv _,by simp[St,sx]⟩ ?_
  rintro m t df g ⟨rfl,i,j,rfl,D,E,h0,h1,z,h7,h8,-⟩;simp only[sz,simprocAttr,dC,h7,h8];refine ba (λhb=>?_) (λhb=>?_)
  ·have hb:i<j:=by simpa using hb
   have w1:IntKind.wrap .i64 ((i:Int)+(j:Int))=((i+j:Nat):Int):=by rw[aA (by omega) (by omega)];simp
   have F:IntKind.wrap .u64 ((i+j:Nat):Int)=((i+j:Nat):Int):=jp (by omega) (by omega);have hm:(i+j) / 2<l.length:=by omega
   have A:i<=(i+j) / 2:=by omega
   have B:(i+j) / 2<j:=by omega
   have n:=JY (i:=i) (j:=j) (by omega);generalize (i+j) / 2=c at hm A B n;have H:IntKind.wrap .i64 (c:Int)=(c:Int):=aA (by omega) (by omega);have I:IntKind.wrap .i64 ((c:Int)+1)=((c+1:Nat):Int):=by rw[aA (by omega) (by omega)];simp
   obtain⟨y,C,-,-⟩:=ae (l:=l) (j:=c) hm;have u:c<(l.map ci).length:=by simpa using hm
   have w:(l.map ci)[c]?=some (ci y):=by rw[Qx,C];rfl
   simp only[sz,simprocAttr,h0,h1,h7,h8,w1,F,n,H,rl,u,w,ci,L9 (QM d)];refine ba (λhb=>?_) (λhb=>?_)
   ·simp only[sz,simprocAttr,I];exact⟨j - (c+1),by omega,c+1,j,rfl,by omega,E,by simp[St,sx,h0,h1,z,h8]⟩
   ·simp only[sz,simprocAttr];exact⟨c - i,by omega,i,c,rfl,by omega,by omega,by simp[St,sx,h0,h1,z,h7]⟩
  ·simp only[sz,simprocAttr,dD,z,h7];have f:i<=l.length:=by omega
   by_cases c1:i<l.length
   ·obtain⟨y,C,-,-⟩:=ae (l:=l) (j:=i) c1;have u:i<(l.map ci).length:=by simpa using c1
    have w:(l.map ci)[i]?=some (ci y):=by rw[Qx,C];rfl
    have s:(i:Int)<(l.length:Int):=by omega
    cases hq:decide (y=x) with
    | true =>
     simp only[sz,simprocAttr,h0,h1,h7,s,rl,u,w,ci,hq];exact⟨λ_=>True,(i,true),f,_,_,rfl,aI.2 rfl,pO.2 rfl⟩
    | false =>
     simp only[sz,simprocAttr,h0,h1,h7,s,rl,u,w,ci,hq,MK (QM d)];exact⟨λ_=>True,(i,false),f,_,_,rfl,aI.2 rfl,pO.2 rfl⟩
   ·have s:¬((i:Int)<(l.length:Int)):=by omega
    simp only[sz,simprocAttr,s];exact⟨λ_=>True,(i,false),f,_,_,rfl,aI.2 rfl,pO.2 rfl⟩
 obtain⟨r,hr,⟨p,b⟩,hp,a,c,rfl,ha,hc⟩:=key;have ha:=aI.1 ha;have hc:=pO.1 hc;injection ha with ha;injection hc with hc;exact⟨p,b,hp,by rw[hr,ha,hc]⟩
theorem m8[XOc](d:Nat)(xs:List AV)(g:G):aq C0 d 154 xs g=jl d xs g:=by kernel_rfl
end
def CloneR(b:Nat)(l:List Int)(u:AV)(g:G):Prop:=(l=[]/\u=.nils)\/∃id lo,b<=id/\id<g.nx/\u=.hsl id 0 0 l.length none/\g.h.get id=.cells 1 (l.map ci) 0 lo false/\(0<l.length->lo=true)/\(l.length=0->lo=false)
theorem CloneR.fr{b:Nat}{g':G}(h:CloneR b l u g)(f:Fr g g'):CloneR b l u g':=by
 rcases h with h|⟨id,lo,h1,h2,k,h4,h5⟩
 ·exact .inl h
 ·exact .inr ⟨id,lo,h1,QV h2 f.1,k,by rw[f.2 id h2,h4],h5⟩
theorem BG{id:Nat}{x:AV}(hx:af g.h 1 x=some (l.map ci))(h3:g.h.get id=TD 1 [])(hid:id<g.nx)(hr:l.length<=1000)
  (k:∀u g',CloneR id l u g'->Fr g g'->K u g'):(dh 1 8 (.hsl id 0 0 0 none) x g).sat K g D:=by
 unfold dh;rw[hx];cases l with
 | nil =>
  simp only[bg,G.get_eq,h3,au,aa,Q7,RS,Q6,Qy,Rh,Sc];rw[QA ⟨by simp,by simp⟩,QA (by simp)];exact k _ _ (.inr ⟨id,false,Qv _,hid,rfl,by simpa using h3,by simp,by simp⟩) (Fr.refl g)
 | cons y l =>
  simp only[bg,G.get_eq,h3,au,aa,Q7,RS,Q6,Qy,Rx,Q9,Sc,QJ,Rc,SS,SN];rw[QA ⟨by omega,by unfold aQ;simp at hr;omega⟩,Qw (by omega),QA (by rfl)];refine k _ _ (.inr ⟨g.nx,true,by omega,by simp,by simp,?_,by simp,by simp⟩) (Fr.new g _);simp[aV,a_,aX]
theorem HT[XOc](hv:SlR NoP 0 .nil l v)(hl2:l.length<=1000)(kk:∀u g',CloneR g.nx l u g'->Fr g g'->K u g') :
  (aq C0 d 155 [v] g).sat K g D:=by
 rw[nU];refine BU qz (by simp[cW]) ?_
 by_cases hn:v=.nils
 ·subst hn;have hl:l=[]:=by have h:=hv.2;unfold SlV at h;exact h
  have k:E7 false .slice .nils .nils=.val (.bool true):=rfl;simp only[sz,simprocAttr,cW,k];exact kk _ _ (.inl ⟨hl,rfl⟩) (Fr.refl g)
 ·have k:E7 false .slice v .nils=.val (.bool false):=by
   have h:=hv.2;unfold SlV at h
   split at h
   ·exact absurd rfl hn
   ·rfl
   ·rfl
   ·exact h.1.elim
   ·exact h.elim
  simp only[sz,simprocAttr,cW,k];refine BG (l:=l) ((hv.tree (Qv _)).ints) (by simp[O6]) (by simp) hl2 λu g1 hu f1=>?_;simp only[sz,simprocAttr];exact kk u g1 hu ((Fr.new g _).trans f1)
theorem sA(ps:List Int)(k:Nat)(v:Int)(hk:k<=ps.length):(S.Pa ps k v).length=ps.length+1:=by simp[S.Pa];omega
theorem Ff[XOc]{b p id2 ep2:Nat}{x:Int}{lim:Option Nat}{lo fz:Bool}(hu:CloneR b l u g)(hl:l.length<=1000)(hp:p<=l.length)(h2:g.h.get id2=.cells 1 [ci x] ep2 lo fz)(hne:∀i,vid u=some i->i≠id2)(hb:b<=g.nx) :
  ∃w g',aq C0 d 154 [u,Uk (p:Int),.hsl id2 ep2 0 1 lim] g=.upd w g'/\Own g' b w 1 ((S.Pa l p x).map ci)/\g.nx<=g'.nx/\(∀i,i<g.nx->vid u≠some i->g'.h.get i=g.h.get i):=by
 rw[m8];have e0:jl d [u,Uk (p:Int),.hsl id2 ep2 0 1 lim] g=xz id2 p u [ci x] g:=by
  show (match g.get id2 with
   |.cells sz2 vrows ep2' _ _=>ap ((((Nat.beq sz2 1&&Nat.beq ep2 ep2')&&Nat.beq 0 0)&&Nat.beq 1 (aZ vrows))&&Nat.ble 1 1) (xz id2 p u vrows g) .fail
   |_=>.fail)=_
  rw[G.get_eq,h2];dsimp only;rw[aa,QA];simp[au]
 rw[e0];have k:p=0->l=[]->∃w g',pC p [ci x] g=.upd w g'/\Own g' b w 1 ((S.Pa l p x).map ci)/\g.nx<=g'.nx/\(∀i,i<g.nx->vid u≠some i->g'.h.get i=g.h.get i):=λh1 h2=>by
  subst h1;subst h2;refine⟨.hsl g.nx 0 0 1 none,g.new (.cells 1 [ci x] 0 true false),?_,.inr ⟨g.nx,0,true,hb,by simp,rfl,by simp[aV,S.Pa]⟩,by simp,λi hi _=>?_⟩
  ·unfold pC;rw[aa,QA]
   ·rfl
   ·simp[au]
  ·rw[G.new_h,aE _ _ _ (by omega)]
 rcases hu with⟨rfl,rfl⟩|⟨id,lo2,f,h4,rfl,h5,j,h7⟩
 ·exact k (by simpa using hp) rfl
 ·cases l with
  | nil =>
   have e1:xz id2 p (.hsl id 0 0 ([]:List Int).length none) [ci x] g=pC p [ci x] g:=by rw[h7 rfl]at h5;simp only[xz,G.get_eq,h5,Rh];rw[aa,QA];simp
   rw[e1];exact k (by simpa using hp) rfl
  | cons y l =>
   rw[j (by simp)]at h5;have c:=hne id rfl;have e1:xz id2 p (.hsl id 0 0 (y::l).length none) [ci x] g=.upd (.hsl id 1 0 ((y::l).length+1) none) (g.put id (.cells 1 ((S.Pa (y::l) p x).map ci) 1 true false)):=by
    simp only[xz,G.get_eq,h5,Rx];rw[aa,QA]
    ·simp[au,a_,aX,S.Pa]
    ·rw[show Nat.beq 1 1=true from rfl];have a:Nat.beq id id2=false:=by rw[<-RL,Nat.beq_eq];exact c
     simp only[a,iA,au,Q7,Qy,Q6,Q9,QJ,Sc,true_and,and_true];simp at hp hl
     (repeat' apply Qs)<;>first|omega| (simp;done)
   rw[e1];refine⟨_,_,rfl,.inr ⟨id,1,true,f,by simpa using h4,?_,by simp[aV]⟩,by simp,λi hi hv=>?_⟩
   ·rw[QJ,sA _ _ _ hp]
   ·rw[G.put_h,aE _ _ _ (λe=>hv (by rw[e];rfl))]
structure FacH (bx nd:List AV) (w u:AV) (vars cards:List Int) (beh:Int) (q:Nat) (g:G):Prop where
 h0:g.h.get 0=TD 5 [bx]
 h1:g.h.get 1=TD 3 [[.nils,.nils,.nils]]
 h2:g.h.get 2=TD 3 [nd]
 h8:g.h.get q=TD 3 [[w,u,.nils]]
 h9:g.h.get (q+1)=TD 1 [[Uk beh]]
 hw:Own g 3 w 1 (vars.map ci)
 hu:Own g (q+2) u 1 (cards.map ci)
 wq:∀i,vid w=some i->i<q
 q3:3<=q
 qn:q+2<=g.nx
def mW(q:Nat):List (Nat×AV):=[(2,Ul 0),(4,Ul 1),(5,Ul 2),(8,Ul q),(9,Ul (q+1))]
structure FacJ (gr:Int) (b cv sv oz:AV) (nd:List AV) (w:AV) (cs vars:List Int) (pl q j:Nat) (t:T) (g:G):Prop where
 st:St t ((38,w)::(6,Uk (pl:Int))::mW q)
 hp:∃u,FacH [Uk gr,b,cv,sv,oz] nd w u vars (S.O3 cs (vars.take j)) (S.O4 (S.O3 cs ((vars.take j).drop (pl+1)))) q g
theorem yL(hp:l.take (j+1)=l.take j++[p])(hj:j<l.length)(h:k<j):(l.take (j+1)).drop (k+1)=(l.take j).drop (k+1)++[p]:=by rw[hp,List.drop_append_of_le_length (by simp;omega)]
theorem yK(h:j<=k):(l.take (j+1)).drop (k+1)=(l.take j).drop (k+1):=by rw[Ta (by simp;omega),Ta (by simp;omega)]
theorem NM[XOc]{pl:Nat}{cv sv oz:AV}{nd:List AV}{cs vars:List Int}(rc:∀h,af h 1 cv=some (cs.map ci))(hvl:vars.length<=16)(hvp:∀p∈vars,0<=p/\p<cs.length)(hcb:∀c∈cs,1<=c/\c<=4)(hpl:pl<=1000)
  (h0:FacJ gr b cv sv oz nd w cs vars pl q 0 t g) (h40:tat t 40=Uk 0) (h39:tat t 39=Uk (vars.length:Int))
  (fin:∀t g,FacJ gr b cv sv oz nd w cs vars pl q vars.length t g->Q (.exit 0) t [] g):wpL (wp C0 d none dw) Q t [] g:=by
 simp only[dw,gO];refine bz (m:=vars.length) (by omega) (λj t df g=>df=[]/\FacJ gr b cv sv oz nd w cs vars pl q j t g) ⟨rfl,h0⟩ h40 h39 (by decide)
  (by rintro j t df g v s (rfl|rfl|rfl) ⟨a1,⟨b1,b2,b3,b4,L,M,N,-⟩,c1⟩<;>exact⟨a1,by simp[St,mW,sx,b1,b2,b3,b4,L,M,N],c1⟩) ?_ ?_
 ·rintro j t df g E ⟨rfl,⟨k,o,h2,h4,h5,h8,h9,-⟩,u,hp⟩ h40 h39;obtain⟨p,F,D,H⟩:=ae E;obtain⟨hp0,W⟩:=hvp p H;obtain⟨pn,rfl⟩:=QD hp0;have A:pn<cs.length:=by omega
  have r:cs[pn]?=some cs[pn]:=Qu A;have B:=hcb _ (RZ A);generalize cs[pn]=c at r B;have X:j<(vars.map ci).length:=by simpa using E
  have Y:(vars.map ci)[j]?=some (ci (pn:Int)):=by rw[Qx,F];rfl
  have u3:pn<(cs.map ci).length:=by simpa using A
  have K:(cs.map ci)[pn]?=some (ci c):=by rw[Qx,r];rfl
  have rw_:=hp.hw.rows;have q3:=hp.q3;have qn:=hp.qn;have epc:S.O3 cs (vars.take (j+1))=S.O3 cs (vars.take j)++[c]:=by rw[D,dS];simp[S.O3,r]
  have R:(S.O3 cs (vars.take j)).length<=16:=by simp[S.O3];omega
  have nq1:¬q=q+1:=by omega
  have nq2:¬q+1=q:=by omega
  refine jo (P:=λt' df g'=>df=[]/\g'=g/\St t' ((40,Uk (j:Int))::(39,Uk (vars.length:Int))::(10,Uk (j:Int))::(11,Uk (pn:Int))::(38,w)::(6,Uk (pl:Int))::mW q)) ?_ ?_
  ·simp only[sz,simprocAttr,k,h40,rw_,X,Y,ci];simp[St,mW,sx,k,o,h2,h4,h5,h8,h9,h40,h39]
  clear k o h2 h4 h5 h8 h9 h40 h39;rintro t df g1 ⟨rfl,rfl,⟨h40,h39,f,n,k,o,h2,h4,h5,h8,h9,-⟩⟩;refine fA (P:=λt' df g'=>df=[]/\St t' ((40,Uk (j:Int))::(39,Uk (vars.length:Int))::(10,Uk (j:Int))::(11,Uk (pn:Int))::(38,w)::(6,Uk (pl:Int))::mW q) /\
   ∃u,FacH [Uk gr,b,cv,sv,oz] nd w u vars (S.O3 cs (vars.take (j+1))) (S.O4 (S.O3 cs ((vars.take j).drop (pl+1)))) q g') ?_ ?_
  ·simp only[sz,simprocAttr,sf,h8,h2,n,hp.h8,hp.h0,rc,u3,K,ci];refine bD (b:=q+2) (rows:=(S.O3 cs (vars.take j)).map ci) (new:=[[Uk c]]) (hp.hu.fr (by simp;omega) λi hi=>?_) (by simp[sx,sy]) (by simp;omega) (by unfold aQ;simp;omega) λu' ga hu' n1 f1 vid1 lg1=>?_
   ·have:=(hp.hu.lt hi).2;simp[O6];omega
   simp only[sx,sy]at n1 f1 vid1 lg1;have I:ga.h.get q=TD 3 [[w,u,.nils]]:=by rw[f1 q (by omega) (λe=>by have:=(hp.hu.lt e).1;omega),Qw (by omega),hp.h8]
   simp only[sz,simprocAttr,sf,h8,I,hu'.cell.1,hu'.cell.2];refine⟨?_,?_,u',?_⟩
   ·simp only[Q2,QZ,QY,QI];refine aJ (false::(TX (TW (true::(true::(false::(true::[]))))))) [(0,7),(1,7)] (by simp[All2,ak,aw]) (by decide) ?_;rintro p C x y hx J;simp only[Q8,QG,SY]at C;rcases C with rfl|rfl<;>(simp at hx J;subst hx;subst J;refine dk rfl rfl rfl rfl ?_ ?_ ?_<;>simp[ak,aw,am]<;>omega)
   ·simp[St,mW,sx,k,o,h2,h4,h5,h8,h9,h40,h39,f,n]
   ·have keep:∀i,i<q+2->i≠q->(ga.h.put q (TD 3 [[w,u',.nils]])).get i=g1.h.get i:=λi hi hne=>by simp only[O6,Qw hne];rw[f1 i (by omega) (λe=>by have:=(hp.hu.lt e).1;omega),Qw (by omega)]
    refine⟨(keep 0 (by omega) (by omega)).trans hp.h0,(keep 1 (by omega) (by omega)).trans hp.h1,(keep 2 (by omega) (by omega)).trans hp.h2,by simp[O6],(keep (q+1) (by omega) (by omega)).trans hp.h9,hp.hw.fr (by simp;omega) λi hi=>keep i (by have:=hp.wq i hi;omega) (by have:=hp.wq i hi;omega),?_,hp.wq,q3,by simp;omega⟩;rw[epc,SL];exact hu'.fr (by simp;omega) λi hi=>by have:=(hu'.lt hi).1;simp[O6,show ¬i=q by omega]
  clear hp qn rw_ h40 h39 f n k o h2 h4 h5 h8 h9;rintro t df g ⟨rfl,⟨h40,h39,f,n,k,o,h2,h4,h5,h8,h9,-⟩,u,hp⟩
  by_cases hk:pl<j
  ·have z:(pl:Int)<(j:Int):=by omega
   have ed:S.O4 (S.O3 cs ((vars.take (j+1)).drop (pl+1)))=S.O4 (S.O3 cs ((vars.take j).drop (pl+1)))*c:=by rw[yL D E hk,dS,oV];simp[S.O3,r,S.O4]
   have V:=bO (l:=S.O3 cs ((vars.take (j+1)).drop (pl+1))) (bC hcb λp hp=>hvp p (Rs (Rd hp)));have U:=dI (a:=(S.O3 cs ((vars.take (j+1)).drop (pl+1))).length) (b:=16) (by simp[S.O3];omega);have O:(4:Int) ^ 16=4294967296:=by decide
   have w1:IntKind.wrap .i64 (S.O4 (S.O3 cs ((vars.take j).drop (pl+1)))*c)=S.O4 (S.O3 cs ((vars.take (j+1)).drop (pl+1))):=by rw[<-ed,aA (by omega) (by omega)]
   simp only[sz,simprocAttr,sf,f,o,z,h9,hp.h9,h2,hp.h0,n,rc,u3,K,ci,w1];refine⟨?_,⟨?_,u,?_⟩,h40,h39⟩
   ·simp only[Q2,QZ,QY,QI];exact aJ (false::(TX (TW (true::[])))) [] (by simp[All2,ak,aw]) (by decide) (by simp)
   ·simp[St,mW,sx,k,o,h2,h4,h5,h8,h9]
   ·have qn:=hp.qn;have keep:∀i,i≠q+1->(g.h.put (q+1) (TD 1 [[Uk (S.O4 (S.O3 cs ((vars.take (j+1)).drop (pl+1))))]])).get i=g.h.get i:=λi hne=>by simp only[O6,Qw hne]
    exact⟨(keep 0 (by omega)).trans hp.h0,(keep 1 (by omega)).trans hp.h1,(keep 2 (by omega)).trans hp.h2,(keep q (by omega)).trans hp.h8,by simp[O6],hp.hw.fr (by simp;omega) λi hi=>keep i (by have:=hp.wq i hi;omega),hp.hu.fr (by simp;omega) λi hi=>keep i (by have:=(hp.hu.lt hi).1;omega),hp.wq,q3,by simp;omega⟩
  ·have z:¬((pl:Int)<(j:Int)):=by omega
   have ed:(vars.take (j+1)).drop (pl+1)=(vars.take j).drop (pl+1):=yK (by omega);simp only[sz,simprocAttr,f,o,z];refine⟨⟨by simp[St,mW,sx,k,o,h2,h4,h5,h8,h9],u,?_⟩,h40,h39⟩;rw[ed];exact hp
 ·rintro t df g ⟨rfl,h⟩;exact fin t g h
section
variable {iw C:Nat}{W:AV}{rws:List (List Int)}
def GH(h:H)(n:Nat):G:=⟨h,n,[]⟩
@[simp] theorem GH_h (h:H) (n:Nat):(GH h n).h=h:=rfl
@[simp] theorem GH_nx (h:H) (n:Nat):(GH h n).nx=n:=rfl
theorem Own.gh{b sz:Nat}{rows:List (List AV)}(h:Own g b v sz rows)(hv:vid v=some i):Own (GH g.h (i+1)) b v sz rows:=by
 rcases h with h|⟨id,ep,lo,h1,h2,rfl,k⟩
 ·exact .inl h
 ·injection hv with hv;subst hv;exact .inr ⟨id,ep,lo,h1,by simp,rfl,k⟩
structure FacG (g0:G) (iw:Nat) (W:AV) (rws:List (List Int)) (B C t:Nat) (h:H):Prop where
 fr:∀i,i<g0.nx->i≠iw->h.get i=g0.h.get i
 ow:Own (GH h (iw+1)) 3 W 1 ((S.Pp rws B C t).map ci)
theorem FacG.up{t:Nat}{h':H}(hf:FacG g0 iw W rws B C t h)(hv:vid W=some iw)(hi:iw<g0.nx)(hh:∀i,i<g0.nx->h'.get i=h.get i):FacG g0 iw W rws B C t h' :=
 ⟨λi h1 h2=>by rw[hh i h1,hf.fr i h1 h2],hf.ow.fr (by simp) λi h=>by rw[hv]at h;injection h with h;subst h;exact hh _ hi⟩
structure FacI (g0 g2:G) (iw:Nat) (W z:AV) (r:List Int) (rws:List (List Int)) (B C q j i:Nat) (t:T) (g:G):Prop where
 st:St t ((78,z)::(12,Uk (j:Int))::mW q)
 hp:FacG g0 iw W rws B C (j*C+i) g.h
 nx:g2.nx<=g.nx
 fr:∀i,g0.nx<=i->i<g2.nx->g.h.get i=g2.h.get i
theorem NN[XOc]{A:Nat}{z:AV}{r:List Int}{pa ra:AV}{rd:Option Nat}{g2:G}(hz:SlR NoP 0 .nil r z)(hr:rws[j]?=some r)(hrl:r.length=C)(hB:0<B)(hA:rws.length=A*B)(hsz:rws.length*C<=1000000)
  (e8:g0.h.get q=TD 3 [[w,u,W]]) (e2:g0.h.get 2=TD 3 [[Uk (C:Int),pa,ra]]) (e9:g0.h.get (q+1)=TD 1 [[Uk (B:Int)]]) (hq:q+1<g0.nx) (hq3:3<=q) (hiw:iw<g0.nx) (hvw:vid W=some iw) (hiq:q+1<iw) (hg2:g0.nx<=g2.nx)
  (h0:FacI g0 g2 iw W z r rws B C q j 0 t g) (h80:tat t 80=Uk 0) (h79:tat t 79=Uk (r.length:Int))
  (fin:∀t g,FacI g0 g2 iw W z r rws B C q j r.length t g->Q (.exit 4) t [] g):wpL (wp C0 d rd dz) Q t [] g:=by
 simp only[dz];refine bz (m:=r.length) hz.1 (λi t df g=>df=[]/\FacI g0 g2 iw W z r rws B C q j i t g) ⟨rfl,h0⟩ h80 h79 (by decide)
  (by rintro j t df g v s (rfl|rfl|rfl) ⟨a1,⟨b1,b2,b3,b4,K,L,M,-⟩,c1,N,O⟩<;>exact⟨a1,by simp[St,mW,sx,b1,b2,b3,b4,K,L,M],c1,N,O⟩) ?_ ?_
 ·rintro i t df g hi ⟨rfl,⟨a,k,h2,h4,h5,h8,h9,-⟩,hp,V,H⟩ h80 h79;obtain⟨x,hx,-,-⟩:=ae hi;have rz:=λh=>(hz.tree (h':=h) (Qv 0)).ints;have u1:i<(r.map ci).length:=by simpa using hi
  have u2:(r.map ci)[i]?=some (ci x):=by rw[Qx,hx];rfl
  have hj:=(Qt.1 hr).1;have f:i<C:=by omega
  have o:=B4 (A:=A) (b:=B) (card:=C) (i:=j) (x:=i) hB (by omega) f;rw[<-hA]at o;have I:=H8 (b:=B) (card:=C) (A:=A) (i:=j) (x:=i) hB hA hr f hx;have Y:g.h.get q=TD 3 [[w,u,W]]:=by rw[hp.fr q (by omega) (by omega),e8]
  have k2:g.h.get 2=TD 3 [[Uk (C:Int),pa,ra]]:=by rw[hp.fr 2 (by omega) (by omega),e2]
  have Z:g.h.get (q+1)=TD 1 [[Uk (B:Int)]]:=by rw[hp.fr (q+1) (by omega) (by omega),e9]
  have p:=hp.ow.rows;rw[GH_h]at p;have U:j<1000001:=by have:rws.length*1<=rws.length*C:=Nat.mul_le_mul_left _ (by omega);omega
  have q1:=He (x:=j) (y:=B) (by omega) hB;have q2:=Hg (x:=j) (y:=B) hB;have l1:j / B*C<=S.Pb B C j i:=by unfold S.Pb;have:(j / B*C+i)*1<=(j / B*C+i)*B:=Nat.mul_le_mul_left _ hB;omega
  have l2:(j / B*C+i)<=S.Pb B C j i:=by unfold S.Pb;have:(j / B*C+i)*1<=(j / B*C+i)*B:=Nat.mul_le_mul_left _ hB;omega
  have l3:(j / B*C+i)*B<=S.Pb B C j i:=by unfold S.Pb;omega
  have w1:IntKind.wrap .i64 (((j / B:Nat):Int)*(C:Int))=((j / B*C:Nat):Int):=by rw[<-Rq,aA (by omega) (by omega)]
  have w2:IntKind.wrap .i64 (((j / B*C:Nat):Int)+(i:Int))=((j / B*C+i:Nat):Int):=by rw[aA (by omega) (by omega)];simp
  have w3:IntKind.wrap .i64 (((j / B*C+i:Nat):Int)*(B:Int))=(((j / B*C+i)*B:Nat):Int):=by rw[<-Rq,aA (by omega) (by omega)]
  have w4:IntKind.wrap .i64 ((((j / B*C+i)*B:Nat):Int)+((j % B:Nat):Int))=((S.Pb B C j i:Nat):Int):=by rw[<-Tn];show IntKind.wrap .i64 ((S.Pb B C j i:Nat):Int)=_;rw[aA (by omega) (by omega)]
  have F:=Di rws B C (j*C+i);have u3:S.Pb B C j i<((S.Pp rws B C (j*C+i)).map ci).length:=by rw[QJ,F];exact o
  have J:((S.Pp rws B C (j*C+i)).map ci)[S.Pb B C j i]?=some (((S.Pp rws B C (j*C+i)).map ci)[S.Pb B C j i]):=Qu u3;have l:∃y:Int,((S.Pp rws B C (j*C+i)).map ci)[S.Pb B C j i]=ci y:=⟨_,List.getElem_map ..⟩;obtain⟨y,X⟩:=l;rw[X]at J;have R:g0.nx<=g.nx:=by omega
  refine jo (P:=λt' df g'=>df=[]/\g'=g/\St t' ((80,Uk (i:Int))::(79,Uk (r.length:Int))::(14,Uk (i:Int))::(15,Uk x)::(78,z)::(12,Uk (j:Int))::mW q)) ?_ ?_
  ·simp only[sz,simprocAttr,a,h80,rz,u1,u2,ci];simp[St,mW,sx,a,k,h2,h4,h5,h8,h9,h80,h79]
  clear a k h2 h4 h5 h8 h9 h80 h79;rintro t df g1 ⟨rfl,rfl,⟨h80,h79,D,E,a,k,h2,h4,h5,h8,h9,-⟩⟩;simp only[sz,simprocAttr,sf,h8,k,h9,h5,D,E,Y,k2,Z,q1,q2,w1,w2,w3,w4,p,u3];refine ck (v:=W) (sz:=1) (n:=1) (i:=S.Pb B C j i) (off:=0) (x:=Uk x) (row':=ci x) ((hp.ow.fr (g':=g1) (by simp;omega) λi _=>rfl).fr (by simp;omega) λi _=>by simp) J rfl rfl rfl λg4 hu4 n4 f4=>?_;rw[<-RD,I]at hu4;have c:∀i,i≠iw->g4.h.get i=g1.h.get i:=λi hi=>by rw[f4 i (by rw[hvw];intro e;injection e with e;exact hi e.symm)];simp
  have h3:g1.nx<=g4.nx:=by rw[n4];simp;omega
  simp only[sx,sy,↓reduceIte,Nat.reduceEqDiff];refine⟨?_,⟨?_,⟨λi h1 h2=>?_,?_⟩,?_,λi h1 h2=>?_⟩,h80,h79⟩
  ·simp only[Q2,QZ,QY,QI];exact aJ (TX (TV (TV (true::[])))) [] (by simp[All2,ak,aw]) (by decide) (by simp)
  ·simp[St,mW,sx,a,k,h2,h4,h5,h8,h9]
  ·simp only[bumpG_h];rw[c i h2,hp.fr i h1 h2]
  ·exact hu4.gh hvw
  ·simp;omega
  ·simp only[bumpG_h];rw[c i (by omega),H i h1 h2]
 ·rintro t df g ⟨rfl,h⟩;exact fin t g h
theorem JB[XOc]{A:Nat}{pa ra pa' ra':AV}(hra:SlR NoP 0 .nil rws ra')(hrl:∀r∈rws,r.length=C)(hB:0<B)(hA:rws.length=A*B)(hsz:rws.length*C<=1000000)
  (h75:tat t 75=.clo 169 [] [.tptr 0 3 [[Uk (C:Int),pa',ra']] 0 0])
  (e8:g0.h.get q=TD 3 [[w,u,W]]) (e2:g0.h.get 2=TD 3 [[Uk (C:Int),pa,ra]]) (e9:g0.h.get (q+1)=TD 1 [[Uk (B:Int)]]) (hq:q+1<g0.nx) (hq3:3<=q) (hiw:iw<g0.nx) (hvw:vid W=some iw) (hiq:q+1<iw)
  (ht:St t (mW q)) (hW:Own g0 3 W 1 ((List.replicate (rws.length*C) (0:Int)).map ci))
  (fin:∀g',FacG g0 iw W rws B C (rws.length*C) g'.h->g0.nx+2<=g'.nx->g'.h.get g0.nx=.dfr true->Q .norm t [.mark g0.nx] g') :
  wp C0 d none (.rng 105 (.t 75) [76,77] du dA) Q t [] g0:=by
 obtain⟨h2,h4,h5,h8,h9,-⟩:=ht;refine Es (c:=(C:Int)) (pa:=pa') hra h75 (by decide) (by decide) (λj h=>FacG g0 iw W rws B C (j*C) h) (λ_=>False) ?_ ?_ ?_ ?_ fin ?_
 ·intro j h h' m hf;exact hf.up hvw hiw m
 ·intro h h' _ hf;exact hf
 ·refine⟨λi _ _=>rfl,?_⟩;rw[Tj,H9];exact hW.gh hvw
 ·intro j r z g1 hr hz hf n;have k:=hrl r (Qz hr);simp only[sz,simprocAttr,du];intro g2 l e;have a:FacG g0 iw W rws B C (j*C) g2.h:=hf.up hvw hiw λi hi=>e i (by omega);simp only[sz,simprocAttr,dA,hz.len];refine NN (g2:=g2) (A:=A) (q:=q) (iw:=iw) (w:=w) (u:=u) (W:=W) (z:=z) (r:=r) (rws:=rws) hz hr k hB hA hsz e8 e2 e9 hq hq3 hiw hvw hiq (by omega) ⟨by simp[St,mW,sx,h2,h4,h5,h8,h9],by simpa using a,Qv _,λ_ _ _=>rfl⟩ (by simp[sx]) (by simp[sx]) ?_;rintro t g ⟨-,hp,f,b⟩;simp only[sx,sy,↓reduceIte];refine⟨f,b,.inl ⟨rfl,?_⟩⟩;rw[k,show j*C+C=(j+1)*C by rw[QR,RB]]at hp;exact hp
 ·intro g' hf;exact hf.elim
end
def S.Pu(n:Net)(i:Nat)(x:Node)(p:Nat):Factor:=⟨S.Pa x.parents p (i:Int),S.O3 (S.O2 n) (S.Pa x.parents p (i:Int)),S.P9 x.rows (S.O4 (S.O3 (S.O2 n) (x.parents.drop p))).toNat x.card.toNat⟩
def ON(n:Net)(i:Nat)(x:Node):VS:=λP k h v=>∃p:Nat,p<=x.parents.length/\Agg (S.Pu n i x p) P k h v
theorem Fc{v:Int}(hk:k<=ps.length):(S.Pa ps k v).drop (k+1)=ps.drop k:=by
 have h1:S.Pa ps k v=(ps.take k++[v])++ps.drop k:=by simp[S.Pa]
 rw[h1,List.drop_left' (by simp;omega)]
theorem Pa{b b':Nat}{sz:Nat}{rows:List (List AV)}(h:Own g b v sz rows)(hb:b'<=b):Own g b' v sz rows:=by
 rcases h with h|⟨id,ep,lo,h1,h2⟩
 ·exact .inl h
 ·exact .inr ⟨id,ep,lo,by omega,h2⟩
theorem JE(h:w.cells=[w])(h2:w.isTup=false):cX [.nils,.nils,.nils] [((0,1),w)]=some [w,.nils,.nils]:=by
 simp[cX,h,h2,cZ]
 rfl
theorem Ia[XOc]{o:List Int}(hd:0<d)(hr:NR n)(hm:Agg ((n,S.O2 n,S.O6 n,o):NwM) NoP 0 g.h v)(hx:n.nodes[i]?=some x) :
  ∃r,aq C0 d 129 [v,Uk (i:Int)] g=.val r/\ON n i x NoP 0 .nil r:=by
 have e0:=g8 d hm;obtain⟨cs,rfl,hc⟩:=hm;obtain⟨b,cv,sv,oz,rfl,hN,K,-,-⟩:=wO.1 hc;have hN:SlR NoP 0 .nil n.nodes b:=hN.tree (h':=.nil) (Qv 0);have K:SlR NoP 0 .nil (S.O2 n) cv:=K.tree (h':=.nil) (Qv 0);obtain⟨rows,r1,r2,r3,r4⟩:=hN.all;obtain⟨row,q1,q2⟩:=r3 i x hx;obtain⟨pa,ra,rfl,F,H⟩:=bV.1 q2;have z:=Qz hx;have ht:=(Qt.1 hx).1;have hv:=hr.l2;have hlt:i<rows.length:=by omega
 have k5:=r4 (by omega);have k4:=jd (hr.places x z) (by omega);have s:=hr.pin z;have r1:∀h',af h' 3 b=some rows:=r1;have rc:=λh=>(K.tree (h':=h) (Qv 0)).ints;rw[nS];refine bj qv (xs:=[.agg [Uk n.grain,b,cv,sv,oz],Uk (i:Int)]) (by simp only[aF,e0,bJ 0]) (by simp[eQ]) (kM λo=>c_ _) (by decide) hd ?_;simp only[sz,simprocAttr,eQ];obtain⟨g0,hg0⟩:∃g0,g0=(G.empty.new (TD 5 [[Uk n.grain,b,cv,sv,oz]])).new (TD 3 [[.nils,.nils,.nils]]):=⟨_,rfl⟩;rw[<-hg0];have f0:g0.h.get 0=TD 5 [[Uk n.grain,b,cv,sv,oz]]:=by rw[hg0];simp[sx,O6]
 have f1:g0.h.get 1=TD 3 [[.nils,.nils,.nils]]:=by rw[hg0];simp[sx]
 have f2:g0.nx=2:=by rw[hg0];simp[sx]
 clear hg0;simp only[ii];refine fA (P:=λt' df g'=>df=[]/\g'.nx=3/\g'.h.get 0=TD 5 [[Uk n.grain,b,cv,sv,oz]]/\g'.h.get 1=TD 3 [[.nils,.nils,.nils]]/\g'.h.get 2=TD 3 [[Uk x.card,pa,ra]]/\St t' [(1,Uk (i:Int)),(2,Ul 0),(4,Ul 1),(5,Ul 2)]) ?_ ?_
 ·simp only[sz,simprocAttr,f0,r1,hlt,q1];simp[St,sx,f1,f2]
 rintro t df g1 ⟨rfl,n1,k0,k1,k2,h1,h2,h4,h5,-⟩;obtain⟨p,sb,hp,es⟩:=II (d:=d+1) (g:=g1) (x:=(i:Int)) (QM d) (F.tree (Qv 0)) (by omega);refine fA (P:=λt' df g'=>df=[]/\g'=g1/\St t' [(1,Uk (i:Int)),(2,Ul 0),(4,Ul 1),(5,Ul 2),(6,Uk (p:Int))]) ?_ ?_
 ·simp only[sz,simprocAttr,h5,h1,k2,es];simp[St,sx,h1,h2,h4,h5]
 clear h1 h2 h4 h5;rintro t df g2 ⟨rfl,rfl,h1,h2,h4,h5,D,-⟩;refine fA (P:=λt' df g'=>df=[]/\∃w q,w.cells=[w]/\FacH [Uk n.grain,b,cv,sv,oz] [Uk x.card,pa,ra] w .nils (S.Pa x.parents p (i:Int)) [] 1 q (g'.new (TD 1 [[Uk 1]]))/\g'.nx=q+1/\St t' [(2,Ul 0),(4,Ul 1),(5,Ul 2),(6,Uk (p:Int)),(8,Ul q)]) ?_ ?_
 ·simp only[sz,simprocAttr,h5,k2];refine HT (l:=x.parents) F (by omega) λu ga hu fa=>?_;simp only[sz,simprocAttr,D,h1];have T:∀i,vid u=some i->g2.nx<=i/\i<ga.nx:=λi hi=>by
   rcases hu with⟨-,rfl⟩|⟨id,lo,a1,a2,rfl,-⟩
   ·cases hi
   ·injection hi with hi;subst hi;exact⟨a1,a2⟩
  have fa1:=fa.1;obtain⟨w,g3,e3,hw,n3,f3⟩:=Ff (d:=d+1) (b:=g2.nx) (p:=p) (id2:=ga.nx) (ep2:=0) (x:=(i:Int)) (lim:=none) (hu.fr (Fr.new ga (TD 1 [[Uk (i:Int)]]))) (by omega) hp (by simp[O6];exact⟨rfl,rfl,rfl⟩) (λj hj=>by have:=T j hj;omega) (by simp;omega);rw[e3];simp only[sz,simprocAttr,JE hw.cell.1 hw.cell.2];have k7:ga.nx+1<=g3.nx:=by simpa using n3
  have keep:∀j,j<3->g3.h.get j=g2.h.get j:=λj hj=>by rw[f3 j (by simp;omega) (λe=>by have:=T j e;omega),<-fa.2 j (by omega)];simp[O6,show ¬j=ga.nx by omega]
  have I:∀j,vid w=some j->3<=j/\j<g3.nx:=λj hj=>by have:=hw.lt hj;omega
  have ne1:∀j,j<g3.nx->¬j=g3.nx/\¬j=g3.nx+1:=λj hj=>by omega
  refine⟨w,g3.nx,hw.cell.1,⟨?_,?_,?_,?_,?_,?_,?_,?_,?_,?_⟩,?_,?_⟩
  ·simp[O6,ne1 0 (by omega),keep 0 (by omega),k0,show ¬g3.nx=0 by omega]
  ·simp[O6,ne1 1 (by omega),keep 1 (by omega),k1,show ¬g3.nx=0 by omega]
  ·simp[O6,ne1 2 (by omega),keep 2 (by omega),k2]
  ·simp[O6]
  ·simp[O6]
  ·refine (Pa hw (b':=3) (by omega)).fr (by simp;omega) λj hj=>?_;have:=ne1 j (I j hj).2;simp[O6,this]
  ·exact .inl ⟨rfl,rfl⟩
  ·exact λj hj=>(I j hj).2
  ·omega
  ·simp
  ·simp
  ·simp[St,sx,h2,h4,h5,D]
 clear h1 h2 h4 h5 D es;rintro t df g3 ⟨rfl,w,q,k6,m,Q,h2,h4,h5,D,h8,-⟩;have hs:=sA x.parents p (i:Int) hp;have fa:=m.hw.rows;refine fA (P:=λt' df g'=>df=[]/\g'=(g3.new (TD 1 [[Uk 0]])).put (q+1) (TD 1 [[Uk 1]])/\St t' ((6,Uk (p:Int))::mW q)) ?_ ?_
 ·simp only[sz,simprocAttr,Q];simp[St,mW,sx,h2,h4,h5,D,h8]
 clear h2 h4 h5 D h8;rintro t df V ⟨rfl,L,D,h2,h4,h5,h8,h9,-⟩;have E:FacH [Uk n.grain,b,cv,sv,oz] [Uk x.card,pa,ra] w .nils (S.Pa x.parents p (i:Int)) [] 1 q V:=by
  have e:∀j,V.h.get j=(g3.new (TD 1 [[Uk 1]])).h.get j:=λj=>by
   rw[L]
   by_cases hj:j=q+1<;>simp[O6,Q,hj]
  have en:V.nx=(g3.new (TD 1 [[Uk 1]])).nx:=by rw[L];simp
  exact⟨by rw[e,m.h0],by rw[e,m.h1],by rw[e,m.h2],by rw[e,m.h8],by rw[e,m.h9],m.hw.fr (by omega) λj _=>e j,m.hu.fr (by omega) λj _=>e j,m.wq,m.q3,by rw[en];exact m.qn⟩
 clear L m;have I:∀g,gz .slice w g=.val (Uk (((S.Pa x.parents p (i:Int)).length:Nat):Int)):=λg=>by
  rcases E.hw with⟨-,e⟩|⟨id,ep,lo,-,-,rfl,-⟩
  ·have:((S.Pa x.parents p (i:Int)).map ci).length=0:=by rw[e];rfl
   rw[QJ]at this;omega
  ·rw[QJ];rfl
 simp only[sz,simprocAttr,h8,E.h8,I];refine NM (gr:=n.grain) (b:=b) (cv:=cv) (sv:=sv) (oz:=oz) (nd:=[Uk x.card,pa,ra]) (w:=w) (cs:=S.O2 n) (vars:=S.Pa x.parents p (i:Int)) (pl:=p) (q:=q) rc (by omega) ?_ hr.cs (by omega) ⟨by simp[St,mW,sx,h2,h4,h5,D,h8,h9],.nils,by simpa [S.O3,S.O4] using E⟩ (by simp[sx]) (by simp[sx]) ?_
 ·intro y hy;simp only[S.Pa,Q0,Q8]at hy;rcases hy with hy|rfl|hy
  ·exact s y (Rs hy)
  ·rw[aP];omega
  ·exact s y (Rd hy)
 clear h2 h4 h5 D h8 h9 E;rintro t g ⟨⟨X,D,h2,h4,h5,h8,h9,-⟩,u,f⟩;rw[Q4,Fc hp]at f;have hq:=hr.card x z;have h3:∀c∈S.O3 (S.O2 n) (x.parents.drop p),1<=c/\c<=4:=bC hr.cs λp hp=>s p (Rd hp);have he:∀c∈S.O3 (S.O2 n) (x.parents.take p),1<=c/\c<=4:=bC hr.cs λp hp=>s p (Rs hp);have er:(x.rows.length:Int)=S.O4 (S.O3 (S.O2 n) (x.parents.take p))*S.O4 (S.O3 (S.O2 n) (x.parents.drop p)):=by
  rw[hr.rows x z]
  conv=>lhs;rw[<-Ry p x.parents,dS,oV]
 have ho:=kV λc hc=>(h3 c hc).1;have hl:=kV λc hc=>(he c hc).1;have k3:=bO (l:=S.O3 (S.O2 n) x.parents) (bC hr.cs s);have E:=dI (a:=(S.O3 (S.O2 n) x.parents).length) (b:=8) (by simp[S.O3];omega);have hk:(4:Int) ^ 8=65536:=by decide
 have ha:=hr.rows x z;obtain⟨B,Y⟩:=QD (show 0<=S.O4 (S.O3 (S.O2 n) (x.parents.drop p)) by omega);obtain⟨A,hA⟩:=QD (show 0<=S.O4 (S.O3 (S.O2 n) (x.parents.take p)) by omega);obtain⟨C,hC⟩:=QD (show 0<=x.card by omega);have N:x.rows.length=A*B:=by
  have:((x.rows.length:Nat):Int)=((A*B:Nat):Int):=by rw[er,Rq,hA,Y]
  omega
 have hb:x.rows.length*C<=1000000:=by
  have h1:x.rows.length<=65536:=by omega
  have h2:C<=4:=by omega
  have:=SD h1 h2;omega
 have rl:=λg=>(H.tree (h':=g) (Qv 0)).len;have rl:=λg=>(H).len g;have w1:IntKind.wrap .i64 ((x.rows.length:Int)*(C:Int))=((x.rows.length*C:Nat):Int):=by rw[<-Rq,aA (by omega) (by omega)]
 rw[Y]at f;simp only[gQ,hC]at f ⊢;obtain⟨pa',ra',er',R,J⟩:=zz (d:=d+1) (g:=.empty) (x:=x) (v:=.agg [Uk (C:Int),pa,ra]) (QM d) ⟨_,rfl,bV.2 ⟨pa,ra,by rw[hC],F.tree (Qv 0),H.tree (Qv 0)⟩⟩;have q3:=f.q3;have qn:=f.qn;refine fA (P:=λt' df g'=>df=[]/\∃W,vid W=some g.nx/\g'.nx=g.nx+1/\(∀i,i<g.nx->i≠q->g'.h.get i=g.h.get i)/\g'.h.get q=TD 3 [[w,u,W]]/\Own g' 3 W 1 ((List.replicate (x.rows.length*C) (0:Int)).map ci)/\St t' (mW q)) ?_ ?_
 ·simp only[sz,simprocAttr,h5,f.h2,rl,w1];refine uZ (b:=3) (n:=x.rows.length*C) (by unfold aQ;omega) (by unfold aQ;omega) (by omega) λW g1 hW n1 f1 vW=>?_;have U:g1.h.get q=TD 3 [[w,u,.nils]]:=by rw[f1 q (by omega),f.h8]
  simp only[sz,simprocAttr,h8,U,hW.cell.1,hW.cell.2];refine⟨W,vW,by simpa using n1,λi h1 h2=>?_,by simp[O6],?_,by simp[St,mW,sx,h2,h4,h5,h8,h9]⟩
  ·simp[h2];exact f1 i h1
  ·have Z:Own g1 3 W 1 ((List.replicate (x.rows.length*C) (0:Int)).map ci):=by simpa [ci] using hW
   exact Z.fr (by simp) λi hi=>by have:=fH vW hi;simp[O6,show ¬i=q by omega]
 clear X D h2 h4 h5 h8 h9;rintro t df g1 ⟨rfl,W,vW,n1,f1,U,hW,h2,h4,h5,h8,h9,-⟩;have k2:g1.h.get 2=TD 3 [[Uk (C:Int),pa,ra]]:=by rw[f1 2 (by omega) (by omega),f.h2]
 have k9:g1.h.get (q+1)=TD 1 [[Uk (B:Int)]]:=by rw[f1 (q+1) (by omega) (by omega),f.h9]
 have k1:g1.h.get 1=TD 3 [[.nils,.nils,.nils]]:=by rw[f1 1 (by omega) (by omega),f.h1]
 obtain⟨pa',ra',er',R,J⟩:=zz (d:=d+1) (g:=g1) (x:=x) (v:=.agg [Uk (C:Int),pa,ra]) (QM d) ⟨_,rfl,bV.2 ⟨pa,ra,by rw[hC],F.tree (Qv 0),H.tree (Qv 0)⟩⟩;rw[hC]at er';rw[dW,dW];simp only[sz,simprocAttr,h5,k2,er'];refine JB (A:=A) (B:=B) (C:=C) (q:=q) (iw:=g.nx) (w:=w) (u:=u) (W:=W) (pa:=pa) (ra:=ra) (pa':=pa') J (λr hrm=>by have:=(hr.row x z r hrm).1;omega) (by omega) N hb (by simp[sx]) U k2 k9 (by omega) q3 (by omega) vW (by omega) (by simp[St,mW,sx,h2,h4,h5,h8,h9]) hW ?_;intro g' hf hn h7;have hh:g'.h.get q=TD 3 [[w,u,W]]:=by rw[hf.fr q (by omega) (by omega),U]
 have hg:g'.h.get 1=TD 3 [[.nils,.nils,.nils]]:=by rw[hf.fr 1 (by omega) (by omega),k1]
 simp only[sz,simprocAttr,gP,h8,hh,h4,hg];refine su (by simp[O6,show ¬g1.nx=1 by omega,h7]) ?_;simp only[sx,sy,↓reduceIte,Nat.reduceEqDiff,h4];rw[Qw (by omega)];simp only[sx,sy,↓reduceIte,Nat.reduceAdd,Nat.reduceLeDiff];have lw:=f.hw;have lu:=f.hu;have lW:=hf.ow;have M:∀i,i<g1.nx->i≠1->((g'.h.put 1 (TD 3 [[w,u,W]])).put g1.nx (.dfr false)).get i=g'.h.get i:=λi h1 h2=>by simp[O6,h2,show ¬i=g1.nx by omega]
 have oW:Own (GH ((g'.h.put 1 (TD 3 [[w,u,W]])).put g1.nx (.dfr false)) (g.nx+1)) 3 W 1 ((S.Pp x.rows B C (x.rows.length*C)).map ci):=lW.fr (by simp) λi hi=>by have:=fH vW hi;exact M i (by omega) (by omega)
 have ow:Own (GH ((g'.h.put 1 (TD 3 [[w,u,W]])).put g1.nx (.dfr false)) (g.nx+1)) 3 w 1 ((S.Pa x.parents p (i:Int)).map ci):=lw.fr (by simp) λj hj=>by have:=f.wq j hj;have:=(lw.lt hj).1;show ((g'.h.put 1 (TD 3 [[w,u,W]])).put g1.nx (.dfr false)).get j=_;rw[M j (by omega) (by omega),hf.fr j (by omega) (by omega),f1 j (by omega) (by omega)]
 have ou:Own (GH ((g'.h.put 1 (TD 3 [[w,u,W]])).put g1.nx (.dfr false)) (g.nx+1)) (q+2) u 1 ((S.O3 (S.O2 n) (S.Pa x.parents p (i:Int))).map ci):=lu.fr (by simp) λj hj=>by have:=lu.lt hj;show ((g'.h.put 1 (TD 3 [[w,u,W]])).put g1.nx (.dfr false)).get j=_;rw[M j (by omega) (by omega),hf.fr j (by omega) (by omega),f1 j (by omega) (by omega)]
 have O:(S.Pp x.rows B C (x.rows.length*C))=S.P9 x.rows (S.O4 (S.O3 (S.O2 n) (x.parents.drop p))).toNat x.card.toNat:=by rw[Y,hC,Rb,Rb];exact JA (A:=A) (by omega) N
 refine⟨λ_=>True,p,hp,_,rfl,oY.2 ⟨w,u,W,rfl,?_,?_,?_⟩⟩
 ·obtain⟨_,e1,h⟩:=ow.ints (k:=0) (by omega);injection e1 with e1;subst e1;exact h
 ·obtain⟨_,e1,h⟩:=ou.ints (k:=0) (by simp[S.O3];omega);injection e1 with e1;subst e1;exact h
 ·rw[O]at oW;obtain⟨_,e1,h⟩:=oW.ints (k:=0) (by rw[<-O,Di];omega);injection e1 with e1;subst e1;exact h
def S.Qe(n:Net)(l:List Factor):Prop:=∀(i:Nat) (x:Node),i<l.length->n.nodes[i]?=some x->∃p,p<=x.parents.length/\l[i]?=some (S.Pu n i x p)
def Oo(n:Net):VS:=λP k h v=>∃l:List Factor,((S.O_ n=true->l.length=n.nodes.length)/\S.Qe n l)/\yf (One l) (One (if S.O_ n then (0:Int) else 50)) P k h v
structure FasJ (n:Net) (W b cv sv oz:AV) (j:Nat) (t:T) (g:G):Prop where
 st:St t [(4,Ul 1),(6,W)]
 hg:g.h.get 1=TD 5 [[Uk n.grain,b,cv,sv,oz]]
 hW:∃(rows:List (List AV)) (l:List Factor),Own g 2 W 3 rows/\rows.length=n.nodes.length/\l.length=j/\All2 (Rp.rp NoP 0 .nil) l (rows.take j)/\S.Qe n l/\∀i,j<=i->i<n.nodes.length->rows[i]?=some [.nils,.nils,.nils]
theorem LT[XOc](hd:0<d)(hm:Agg n NoP 0 g.h v):∃r,aq C0 d 104 [v] g=.val r/\Oo n NoP 0 .nil r:=by
 obtain⟨b,rows,rfl,e1,Q,hN,r1,r2,r3,r4⟩:=cy d hm;rw[vL];refine bj yR (xs:=[.agg [Uk n.grain,b]]) (by simp only[aF,e1]) (by simp[nc]) (kM λo=>iE (m:=2) (aU _) (aU _) (by decide) (by decide)) (by decide) hd ?_;simp only[sz,simprocAttr,nc,pY];obtain⟨z,ez,hz⟩:=Cq (d:=d+1) (g:=G.empty.new (TD 2 [[Uk n.grain,b]])) (QM d) (n:=n) (v:=.agg [Uk n.grain,b]) (Q _);rcases rK hz with⟨C,cs,rfl,u⟩|⟨C,b',cv,sv,oz,o,rfl,hb,O,V,T⟩
 ·obtain⟨a1,a2,a3,a4,F,rfl⟩:∃a1 a2 a3 a4 F,cs=[a1,a2,a3,a4,F]:=by
   match cs,u with
   |[a1,a2,a3,a4,F],_=>exact⟨a1,a2,a3,a4,F,rfl⟩
  simp only[sz,simprocAttr,ez,show ¬((50:Int)=0) from by decide];refine⟨NoP,[],⟨λh=>(by rw[C]at h;cases h),λi x hi=>(by simp at hi)⟩,_,_,rfl,⟨_,rfl,⟨by show 0<9223372036854775808;decide,rfl⟩⟩,?_⟩;rw[C];exact aI.2 rfl
 ·have hr:=cp.1 C;have h3:=hr.l2;simp only[sz,simprocAttr,ez,hb.len];refine uZ (b:=2) (n:=n.nodes.length) (by unfold aQ;omega) (by unfold aQ;omega) (by simp) λW g1 hW n1 f1 vW=>?_;have k1:g1.h.get 1=TD 5 [[Uk n.grain,b',cv,sv,oz]]:=by rw[f1 1 (by simp)];simp[O6]
  have J:∀(g:G) (rows:List (List AV)),rows.length=n.nodes.length->Own g 2 W 3 rows->gz .slice W g=.val (Uk (n.nodes.length:Int)):=λg rows h1 h=>by
   rcases h with⟨rfl,e⟩|⟨id,ep,lo,-,-,rfl,-⟩
   ·cases vW
   ·rw[h1];rfl
  have P:=J g1 _ (by simp) hW;have Z:md W=true:=by
   rcases hW with⟨rfl,e⟩|⟨id,ep,lo,-,-,rfl,-⟩
   ·cases vW
   ·rfl
  simp only[sz,simprocAttr,P];simp only[n_];refine bz (m:=n.nodes.length) (by omega) (λj t df g=>df=[]/\FasJ n W b' cv sv oz j t g) ⟨rfl,by simp[St,sx],k1,_,[],hW,by simp,rfl,trivial,λi x hi=>(by simp at hi),λi _ hi=>by simp[hi]⟩ (by simp[sx]) (by simp[sx]) (by decide)
   (by rintro j t df g v s (rfl|rfl|rfl) ⟨a1,⟨b1,b2,-⟩,c1,c2⟩<;>exact⟨a1,by simp[St,sx,b1,b2],c1,c2⟩) ?_ ?_
  ·rintro j t df g Y ⟨rfl,⟨h4,H,-⟩,hg,rows',l,hW,D,q,c,w,k⟩ A I;obtain⟨x,hx,-,-⟩:=ae Y;have R:Agg ((n,S.O2 n,S.O6 n,o):NwM) NoP 0 g.h (.agg [Uk n.grain,b',cv,sv,oz]):=⟨_,rfl,wO.2 ⟨b',cv,sv,oz,rfl,hb.tree (Qv 0),O.tree (Qv 0),V.tree (Qv 0),T.tree (Qv 0)⟩⟩;obtain⟨f,ef,p,hp,cs,rfl,u⟩:=Ia (d:=d+1) (g:=g) (i:=j) (QM d) hr R hx;obtain⟨a1,a2,a3,rfl,L,M,N⟩:=oY.1 u;have U:=k j (Qv _) Y;have K:=hW.rows;have B:j<rows'.length:=by omega
   simp only[sz,simprocAttr,A,H,h4,hg,ef,K,B];refine ck (v:=W) (sz:=3) (n:=3) (i:=j) (off:=0) (x:=.agg [a1,a2,a3]) (row':=[a1,a2,a3]) hW U (by rfl) rfl ?_ λg4 hW4 n4 f4=>?_
   ·rfl
   have X:(rows'.set j [a1,a2,a3]).take (j+1)=rows'.take j++[[a1,a2,a3]]:=by
    rw[SG,List.take_set_of_le (Qv _),Rr B]
    rfl
   simp only[sx,sy,↓reduceIte,Nat.reduceEqDiff];refine⟨⟨by simp[St,sx,h4,H],?_,_,l++[S.Pu n j x p],hW4,by simpa using D,by simp[q],?_,?_,λi h1 h2=>by rw[SB (by omega),k i (by omega) h2]⟩,A,I⟩
   ·rw[f4 1 λe=>by have:=(hW.lt e).1;omega,hg]
   ·rw[X];exact c.append ⟨oY.2 ⟨a1,a2,a3,rfl,L,M,N⟩,trivial⟩
   ·intro i y hi E
    by_cases hij:i<l.length
    ·rw[QE hij];exact w i y hij E
    ·have hi:i=j:=by simp at hi;omega
     subst hi;rw[hx]at E;injection E with E;subst E;exact⟨p,hp,by rw[QL (by omega),q];simp⟩
  ·rintro t df g ⟨rfl,⟨h4,H,-⟩,hg,rows',l,hW,D,q,c,w,k⟩;rw[RE (by omega)]at c;simp only[sz,simprocAttr,oa,H];refine⟨λ_=>True,l,⟨λ_=>q,w⟩,_,_,rfl,⟨W,rfl,Own.sl (α:=Factor) hW (by omega) (c.mono λa b r=>Rp.tree r (Qv 0)) λ_ _=>trivial⟩,?_⟩;rw[C];exact aI.2 rfl
abbrev QnM:Type:=Net×List Factor×List (List Int)
theorem wP{x:QnM}{cs:List AV}:Rp.rp P k h x cs↔∃a b c,cs=[Uk x.1.grain,a,b,c]/\SlR P k h x.1.nodes a/\SlR P k h x.2.1 b/\SlR P k h x.2.2 c:=by
 constructor
 ·rintro⟨c1,d,rfl,h1,e,f,rfl,⟨b,rfl,hb⟩,⟨c,rfl,hc⟩⟩;obtain⟨a,rfl,ha⟩:=dT.1 h1;exact⟨a,b,c,rfl,ha,hb,hc⟩
 ·rintro⟨a,b,c,rfl,ha,hb,hc⟩;exact⟨[_,a],[b,c],rfl,dT.2 ⟨a,rfl,ha⟩,[b],[c],rfl,⟨b,rfl,hb⟩,⟨c,rfl,hc⟩⟩
theorem KZ(h:NR n)(hx:n.nodes[k]?=some x):(k:Int) ∉ x.parents:=λhm=>by
 have hk:=(Qt.1 hx).1;have hl:=h.l2;have h1:=uk.1 h.acyc k (by simp[S.O6];exact hk);have h2:Par (S.O6 n) k=S.O9 x.parents:=by simp[Par,S.O6,hx]
 have a:(S.O9 x.parents).testBit k=true:=(xO λy hy=>by have:=dH (h.places x (Qz hx)) y hy;omega).2 hm;have h4:=x_ (p:=S.O6 n) (s:=Par (S.O6 n) k) (S.O6 n).length k (by rw[h2];exact a);rw[h1]at h4;cases h4
theorem Iu{k:Int}(h:S.Px l k=true):l.Nodup:=by rw[List.Nodup,List.pairwise_iff_getElem];intro i j hi b a e;have:=It h (Qu hi) (Qu b) a;omega
theorem JX(h:NR n)(hx:n.nodes[k]?=some x)(p:Nat):(S.Pa x.parents p (k:Int)).Nodup:=by unfold S.Pa;rw[List.perm_middle.nodup_iff,Ry,List.nodup_cons];exact⟨KZ h hx,Iu (h.places x (Qz hx))⟩
theorem y7(h:NR n)(hx:n.nodes[k]?=some x)(p:Nat):∀y∈S.Pa x.parents p (k:Int),0<=y/\y<n.nodes.length:=λy hy=>by
 have hk:=(Qt.1 hx).1;have hp:=dH (h.places x (Qz hx));simp only[S.Pa,Q0,Q8]at hy;rcases hy with hy|rfl|hy
 ·exact hp y (Rs hy)
 ·omega
 ·exact hp y (Rd hy)
theorem t_(cs ps:List Int):(S.O3 cs ps).length=ps.length:=by simp[S.O3]
theorem H_(h:NR n)(hx:n.nodes[k]?=some x)(p:Nat):∀c∈(S.Pu n k x p).cards,1<=c/\c<=4 :=
 bC h.cs λy hy=>by rw[aP];exact y7 h hx p y hy
def S.Qb(m:Nat)(f:Factor)(i:Nat)(R:List Int):Prop:=R.length=m/\∀(j:Nat) (y:Int),i<=j->f.vars[j]?=some y->R[y.toNat]?=some (S.O4 (f.cards.drop (j+1)))
theorem F0{f:Factor}{R:List Int}{y:Int}(h:S.Qb m f (i+1) R)(hnd:f.vars.Nodup)(hin:∀y∈f.vars,0<=y/\y<m)(hy:f.vars[i]?=some y):S.Qb m f i (R.set y.toNat (S.O4 (f.cards.drop (i+1)))):=by
 refine⟨by simp[h.1],λj z hij hz=>?_⟩;have a:=hin y (Qz hy);have b:=hin z (Qz hz)
 by_cases e:j=i
 ·subst e;rw[hy]at hz;injection hz with hz;subst hz;rw[Rr (by rw[h.1];omega)]
 ·rw[SB]
  ·exact h.2 j z (by omega) hz
  ·intro c;have k:y=z:=by omega
   subst k;exact e ((List.getElem?_inj (Qt.1 hz).1 hnd).1 (by rw[hz,hy]))
structure QnOk (n:Net) (y:QnM):Prop where
 net:y.1=n
 fl:y.2.1.length=n.nodes.length
 fs:S.Qe n y.2.1
 sl:y.2.2.length=n.nodes.length
 st:∀(k:Nat) (f:Factor) (R:List Int),y.2.1[k]?=some f->y.2.2[k]?=some R->S.Qb n.nodes.length f 0 R
def S.PO(n:Net)(ls:List (List Int)):Int:=if S.O_ n then (if ls.all (S.O8 n) then 0 else 2) else 50
def Lt(n:Net)(ls:List (List Int)):VS:=λP k h v=>∃y:QnM,(S.PO n ls=0->QnOk n y)/\yf (Agg y) (One (S.PO n ls)) P k h v
def CQ(fl:AV)(m q k:Nat):List (Nat×AV):=[(11,Ul q),(2,Ul 0),(4,Ul 1),(45,fl),(46,Uk (m:Int)),(47,Uk (k:Int))]
structure AskI (fl:AV) (m q k:Nat) (g0:G) (iR:Nat) (R:AV) (f:Factor) (fb j:Nat) (t:T) (g:G):Prop where
 st:St t ((13,Ul fb)::(12,Uk (k:Int))::(14,Uk (S.O4 (f.cards.drop j)))::CQ fl m q k)
 nx:g0.nx<=g.nx
 fr:∀i,i<g0.nx->i≠iR->g.h.get i=g0.h.get i
 ow:∃X:List Int,Own g 2 R 1 (X.map ci)/\S.Qb m f j X
theorem Ny[XOc]{fb iR:Nat}{va ca wa R fl':AV}{f:Factor}{rowsS:List (List AV)}(hva:SlR NoP 0 .nil f.vars va)(hca:SlR NoP 0 .nil f.cards ca)(hcl:f.cards.length=f.vars.length)(hvl:f.vars.length<=16)(hcb:∀c∈f.cards,1<=c/\c<=4)(hnd:f.vars.Nodup)(hin:∀y∈f.vars,0<=y/\y<m)
  (e11:g0.h.get q=TD 4 [[Uk gr,b,fl',S_]]) (e13:g0.h.get fb=TD 3 [[va,ca,wa]]) (hS:Own g0 2 S_ 1 rowsS) (hk:rowsS[k]?=some [R]) (vR:vid R=some iR) (vS:vid S_≠some iR) (n1:q≠iR/\fb≠iR) (n2:q<g0.nx/\fb<g0.nx/\iR<g0.nx)
  (h0:AskI fl m q k g0 iR R f fb f.vars.length t g) (h15:tat t 15=Uk ((f.vars.length:Int) - 1))
  (fin:∀t g,AskI fl m q k g0 iR R f fb 0 t g->Q (.exit 4) t [] g):wpL (wp C0 d none lB) Q t [] g:=by
 have rva:=λh=>(hva.tree (h':=h) (Qv 0)).ints;have rca:=λh=>(hca.tree (h':=h) (Qv 0)).ints;simp only[lB];refine vB (m:=f.vars.length) (by omega) (λj t df g=>df=[]/\AskI fl m q k g0 iR R f fb j t g) ⟨rfl,h0⟩ h15 (by decide)
  (by rintro j t df g v s (rfl|rfl|rfl|rfl|rfl) ⟨a1,⟨b1,b2,b3,b4,Y,Z,b7,b8,b9,-⟩,c1,c2,c3⟩<;>exact⟨a1,by simp[St,CQ,sx,b1,b2,b3,b4,Y,Z,b7,b8,b9],c1,c2,c3⟩) ?_ ?_
 ·rintro j t df g V ⟨rfl,⟨u,A,B,z,h2,h4,K,L,M,-⟩,O,o,X,hX,F⟩ h15;obtain⟨y,W,-,H⟩:=ae V;obtain⟨P,H⟩:=hin y H;obtain⟨yn,rfl⟩:=QD P;have D:f.cards[j]?=some f.cards[j]:=Qu (by omega);have C:=hcb _ (RZ (show j<f.cards.length by omega));have E:f.cards.drop j=f.cards[j]::f.cards.drop (j+1):=RA (by omega);generalize f.cards[j]=c at D C E;have u1:j<(f.vars.map ci).length:=by simpa using V
  have u2:(f.vars.map ci)[j]?=some (ci (yn:Int)):=by rw[Qx,W];rfl
  have u3:j<(f.cards.map ci).length:=by simp;omega
  have u4:(f.cards.map ci)[j]?=some (ci c):=by rw[Qx,D];rfl
  have h5:=F.1;have r:yn<X.length:=by omega
  have u5:yn<(X.map ci).length:=by simpa using r
  have u6:(X.map ci)[yn]?=some (ci X[yn]):=by rw[Qx,Qu r];rfl
  have U:g.h.get q=TD 4 [[Uk gr,b,fl',S_]]:=by rw[o q n2.1 n1.1,e11]
  have I:g.h.get fb=TD 3 [[va,ca,wa]]:=by rw[o fb n2.2.1 n1.2,e13]
  have N:Own g 2 S_ 1 rowsS:=hS.fr O λi hi=>o i (hS.lt hi).2 λe=>vS (by rw[hi,e]);have rS:=N.rows;have rX:=hX.rows;have kl:k<rowsS.length:=(Qt.1 hk).1;have w0:S.O4 (f.cards.drop j)=S.O4 (f.cards.drop (j+1))*c:=by rw[E,cF,Int.mul_comm]
  have h7:=bO (l:=f.cards.drop j) λc hc=>hcb c (Rd hc);have h6:=dI (a:=(f.cards.drop j).length) (b:=16) (by simp;omega);have h3:(4:Int) ^ 16=4294967296:=by decide
  have w1:IntKind.wrap .i64 (S.O4 (f.cards.drop (j+1))*c)=S.O4 (f.cards.drop j):=by rw[<-w0,aA (by omega) (by omega)]
  have p:=F0 F hnd hin W;rw[Rb]at p;simp only[sz,simprocAttr,sf,z,A,u,B,h15,U,I,rva,u1,u2,rS,kl,hk,rX,u5,ci];refine ck (v:=R) (sz:=1) (n:=1) (i:=yn) (off:=0) (x:=Uk (S.O4 (f.cards.drop (j+1)))) (row':=ci (S.O4 (f.cards.drop (j+1)))) (hX.fr (by simp;omega) λi _=>by simp) u6 rfl rfl rfl λg4 hu4 n4 f4=>?_;rw[<-RD]at hu4;have w:∀i,i≠iR->g4.h.get i=g.h.get i:=λi hi=>by rw[f4 i (by rw[vR];intro e;injection e with e;exact hi e.symm)];simp
  have h8:g.nx<=g4.nx:=by rw[n4];simp;omega
  simp only[sz,simprocAttr];refine⟨?_,?_⟩
  ·simp only[Q2,QZ,QY,QI];exact aJ (TW (TV (true::[]))) [] (by simp[All2,ak,aw]) (by decide) (by simp)
  have J:g4.h.get fb=TD 3 [[va,ca,wa]]:=by rw[w fb n1.2,I]
  simp only[sz,simprocAttr,u,B,h15,J,rca,u3,u4,ci,w1];refine⟨by simp[St,CQ,sx,u,A,z,h2,h4,K,L,M],?_,λi h1 h2=>?_,_,hu4.fr (by simp) λi _=>by simp,p⟩
  ·simp;omega
  ·simp only[bumpG_h];rw[w i h2,o i h1 h2]
 ·rintro t df g ⟨rfl,h⟩;exact fin t g h
structure FOk (m:Nat) (f:Factor):Prop where
 cl:f.cards.length=f.vars.length
 vl:f.vars.length<=16
 cb:∀c∈f.cards,1<=c/\c<=4
 nd:f.vars.Nodup
 vr:∀y∈f.vars,0<=y/\y<m
theorem Jz(h:NR n)(hx:n.nodes[k]?=some x){p:Nat}(hp:p<=x.parents.length):FOk n.nodes.length (S.Pu n k x p):=by have h1:=jd (h.places x (Qz hx)) (by omega);have h2:=h.l2;have a:=sA x.parents p (k:Int) hp;exact⟨t_ _ _,by show (S.Pa x.parents p (k:Int)).length<=16;omega,H_ h hx p,JX h hx p,y7 h hx p⟩
structure AskH (gr:Int) (b fl S_:AV) (m q:Nat) (fs:List Factor) (k:Nat) (g:G):Prop where
 h0:g.h.get 0=TD 2 [[Uk gr,b]]
 h1:g.h.get 1=TD 4 [[Uk 0,.nils,.nils,.nils]]
 hq:g.h.get q=TD 4 [[Uk gr,b,fl,S_]]
 q2:2<=q/\q<g.nx
 sq:∀i,vid S_=some i->i<q
 hS:∃(Vs:List AV) (l:List (List Int)),Own g 2 S_ 1 (Vs.map λv=>[v])/\Vs.length=m/\l.length=k/\All2 (λX v=>Own g (q+1) v 1 (X.map ci)) l (Vs.take k)/\∀(i:Nat) (f:Factor) (X:List Int),fs[i]?=some f->l[i]?=some X->S.Qb m f 0 X
structure AskJ (gr:Int) (b fl S_:AV) (m q:Nat) (fs:List Factor) (k:Nat) (t:T) (g:G):Prop where
 st:St t [(11,Ul q),(2,Ul 0),(4,Ul 1),(45,fl)]
 hp:AskH gr b fl S_ m q fs k g
theorem Nz[XOc]{fs:List Factor}(hb:∀g,gz .slice b g=.val (Uk (m:Int)))(hm:m<=8)(hfl:SlR NoP 0 .nil fs fl)(hfm:fs.length=m)(hok:∀(i:Nat) (f:Factor),fs[i]?=some f->FOk m f)
  (h0:AskJ gr b fl S_ m q fs 0 t g) (h47:tat t 47=Uk 0) (h46:tat t 46=Uk (m:Int))
  (fin:∀t g,AskJ gr b fl S_ m q fs m t g->Q (.exit 2) t [] g):wpL (wp C0 d none lC) Q t [] g:=by
 obtain⟨rows,r1,r2,r3,r4⟩:=hfl.all;have r1:∀h',af h' 3 fl=some rows:=r1;simp only[lC,qU];refine bz (m:=m) (by omega) (λk t df g=>df=[]/\AskJ gr b fl S_ m q fs k t g) ⟨rfl,h0⟩ h47 h46 (by decide)
  (by rintro j t df g v s (rfl|rfl|rfl) ⟨a1,⟨b1,b2,b3,b4,-⟩,c1⟩<;>exact⟨a1,by simp[St,sx,b1,b2,b3,b4],c1⟩) ?_ ?_
 ·rintro k t df g hk ⟨rfl,⟨a,h2,h4,c,-⟩,hp⟩ h47 h46;obtain⟨f,hf,-,-⟩:=ae (l:=fs) (j:=k) (by omega);obtain⟨row,q1,q2⟩:=r3 k f hf;obtain⟨va,ca,wa,rfl,L,Z,hh⟩:=oY.1 q2;have E:=hok k f hf;have hlt:k<rows.length:=by omega
  have he:=r4 (by omega);obtain⟨Vs,l,hS,V,J,Y,h6⟩:=hp.hS;obtain⟨h8,h9⟩:=hp.q2;have ne0:∀i,i<g.nx->¬i=g.nx:=λi hi=>by omega
  refine jo (P:=λt' df g'=>df=[]/\g'=(g.new (TD 3 [[.nils,.nils,.nils]])).put g.nx (TD 3 [[va,ca,wa]])/\St t' ((13,Ul g.nx)::(12,Uk (k:Int))::CQ fl m q k)) ?_ ?_
  ·simp only[sz,simprocAttr,c,h47,r1,hlt,q1];simp[St,CQ,sx,a,h2,h4,c,h47,h46]
  clear a h2 h4 c h47 h46;rintro t df g1 ⟨rfl,D,⟨u,o,a,h2,h4,c,h46,h47,-⟩⟩;have f1:∀i,i<g.nx->g1.h.get i=g.h.get i:=λi hi=>by rw[D];simp[O6,ne0 i hi]
  have n1:g1.nx=g.nx+1:=by rw[D];simp
  have k1:g1.h.get g.nx=TD 3 [[va,ca,wa]]:=by rw[D];simp[O6]
  clear D;have e0:g1.h.get 0=TD 2 [[Uk gr,b]]:=by rw[f1 0 (by omega),hp.h0]
  have eq:g1.h.get q=TD 4 [[Uk gr,b,fl,S_]]:=by rw[f1 q (by omega),hp.hq]
  have C:Own g1 2 S_ 1 (Vs.map λv=>[v]):=hS.fr (by omega) λi hi=>f1 i (hS.lt hi).2;have rS:=C.rows;have h5:k<(Vs.map λv=>[v]).length:=by simp;omega
  have h3:(Vs.map λv=>[v])[k]?=some [Vs[k]'(by omega)]:=by rw[Qx,Qu (by omega)];rfl
  refine fA (P:=λt' df g'=>df=[]/\St t' ((13,Ul g.nx)::(12,Uk (k:Int))::CQ fl m q k)/\g1.nx<g'.nx/\∃R iR,vid R=some iR/\g1.nx<=iR/\iR<g'.nx/\Own g' 2 S_ 1 ((Vs.set k R).map λv=>[v])/\Own g' (q+1) R 1 ((List.replicate m (0:Int)).map ci)/\∀i,i<g1.nx->vid S_≠some i->g'.h.get i=g1.h.get i) ?_ ?_
  ·simp only[sz,simprocAttr,sf,a,h2,o,e0,eq,hb];refine l_ (b:=q+1) (n:=m) (by unfold aQ;omega) (by unfold aQ;omega) (by simp;omega) λR g2 hR n2 f2 vR lg2=>?_;simp only[sy]at n2 f2 vR lg2;have z:Own g2 2 S_ 1 (Vs.map λv=>[v]):=C.fr (by omega) λi hi=>by have:=C.lt hi;rw[f2 i (by omega)]
   have rS2:=z.rows;simp only[sz,simprocAttr,sf,rS2,h5];refine ck (v:=S_) (sz:=1) (n:=1) (i:=k) (off:=0) (x:=R) (row':=[R]) (z.fr (by simp;omega) λi _=>by simp) h3 (by rw[hR.cell.1];rfl) hR.cell.2 (by rw[hR.cell.1];rfl) λg4 hu4 n4 f4=>?_;rw[show (Vs.map λv=>[v]).set k [R]=(Vs.set k R).map λv=>[v] from by rw[RD]]at hu4;have H:∀i,vid S_≠some i->g4.h.get i=g2.h.get i:=λi hi=>by rw[f4 i hi];simp
   have hl:g2.nx<=g4.nx:=by rw[n4];simp;omega
   simp only[sy,lg2];refine⟨?_,?_,?_,R,g1.nx+6,vR,by omega,?_,?_,?_,λi h1 h2=>?_⟩
   ·simp only[Q2,QZ,QY,QI];refine aJ (TX (TW (true::(false::(true::[]))))) [(0,6),(1,6),(2,6)] (by simp[All2,ak,aw]) (by decide) ?_;rintro p K x y hx M;simp only[Q8,QG,SY]at K;rcases K with rfl|rfl|rfl<;>(simp at hx M;subst hx;subst M;refine dk rfl rfl rfl rfl ?_ ?_ ?_<;>simp[ak,aw,am]<;>omega)
   ·simp[St,CQ,sx,u,o,a,h2,h4,c,h46,h47]
   ·omega
   ·omega
   ·exact hu4.fr (by simp) λi _=>by simp
   ·have O:Own g2 (q+1) R 1 ((List.replicate m (0:Int)).map ci):=by simpa [ci] using hR
    refine O.fr (by simp;omega) λi hi=>?_;have:=fH vR hi;simp only[bumpG_h];exact H i λe=>by have:=C.lt e;omega
   ·rw[H i h2,f2 i (by omega)]
  clear u o a h2 h4 c h46 h47;rintro t df g2 ⟨rfl,⟨u,o,a,h2,h4,c,h46,h47,-⟩,n2,R,iR,vR,hd,ha,z,hR,f2⟩;have F:g2.h.get g.nx=TD 3 [[va,ca,wa]]:=by rw[f2 g.nx (by omega) (λe=>by have:=hp.sq _ e;omega),k1]
  have N:g2.h.get q=TD 4 [[Uk gr,b,fl,S_]]:=by rw[f2 q (by omega) (λe=>by have:=hp.sq _ e;omega),eq]
  have lva:=L.len;have hg:=E.vl;have U:Own g2 2 R 1 ((List.replicate m (0:Int)).map ci):=Pa hR (by omega);have w1:IntKind.wrap .i64 ((f.vars.length:Int) - 1)=(f.vars.length:Int) - 1:=aA (by omega) (by omega);have I:((Vs.set k R).map λv=>[v])[k]?=some [R]:=by rw[Qx,Rr (by omega)];rfl
  simp only[sz,simprocAttr,u,F,lva,w1];refine Ny (g0:=g2) (fl:=fl) (fl':=fl) (m:=m) (q:=q) (k:=k) (fb:=g.nx) (iR:=iR) (R:=R) (S_:=S_) (b:=b) (gr:=gr) (va:=va) (ca:=ca) (wa:=wa) (f:=f) (rowsS:=(Vs.set k R).map λv=>[v]) L Z E.cl E.vl E.cb E.nd E.vr N F z I vR (λe=>by have:=hp.sq _ e;omega) ⟨by omega,by omega⟩ ⟨by omega,by omega,by omega⟩
   ⟨by simp[St,CQ,sx,u,o,a,h2,h4,c,h46,h47,S.O4,Ta (show f.cards.length<=f.vars.length by rw[E.cl];exact Qv _)],Qv _,λ_ _ _=>rfl,List.replicate m 0,U,by simp,λj y hj M=>?_⟩ (by simp[sx]) ?_
  ·have:=(Qt.1 M).1;omega
  clear u o a h2 h4 c h46 h47;rintro t g3 ⟨⟨u,o,hc,a,h2,h4,c,h46,h47,-⟩,n3,f3,X,hX,W⟩;simp only[sx,sy,↓reduceIte];have w:∀i,i<g.nx->vid S_≠some i->g3.h.get i=g.h.get i:=λi h1 h2=>by rw[f3 i (by omega) (by omega),f2 i (by omega) h2,f1 i h1]
  refine⟨⟨by simp[St,a,h2,h4,c],?_⟩,h47,h46⟩;have hsl:∀i,i<2\/i=q->vid S_≠some i:=λi hi e=>by have:=hp.sq i e;have:=(hS.lt e).1;omega
  refine⟨by rw[w 0 (by omega) (hsl 0 (by omega)),hp.h0],by rw[w 1 (by omega) (hsl 1 (by omega)),hp.h1],by rw[w q h9 (hsl q (by omega)),hp.hq],⟨h8,by omega⟩,hp.sq,Vs.set k R,l++[X],z.fr n3 λi hi=>f3 i (z.lt hi).2 λe=>by have:=hp.sq i hi;omega,by simpa using V,by simp[J],?_,?_⟩
  ·have h7:(Vs.set k R).take (k+1)=Vs.take k++[R]:=by
    rw[SG,List.take_set_of_le (Qv _),Rr (by omega)]
    rfl
   rw[h7];refine (Y.mono λX' v r=>?_).append ⟨?_,trivial⟩
   ·exact r.fr (by omega) λi hi=>by have:=r.lt hi;exact w i this.2 λe=>by have:=hp.sq i e;omega
   ·rcases hX with h|⟨id,ep,lo,p1,p2,rfl,p4⟩
    ·exact .inl h
    ·injection vR with vR;exact .inr ⟨id,ep,lo,by omega,p2,rfl,p4⟩
  ·intro i f' X' B A
   by_cases hi:i<l.length
   ·rw[QE hi]at A;exact h6 i f' X' B A
   ·have h1:=(Qt.1 A).1;have:i=k:=by simp at h1;omega
    subst this;rw[hf]at B;injection B with B;subst B;rw[QL (by omega),J,RF]at A;simp at A;subst A;exact W
 ·rintro t df g ⟨rfl,h⟩;exact fin t g h
theorem ML(n:Net)(ls:List (List Int)):Snb (Lt n ls) 2:=kM λy=>iE (m:=2) (c_ _) (aU _) (by decide) (by decide)
def qn0:QnM:=(⟨0,[]⟩,[],[])
theorem KT(P:Nat->Prop)(h:H):Agg qn0 P 0 h (.agg [Uk 0,.nils,.nils,.nils]):=⟨_,rfl,wP.2 ⟨.nils,.nils,.nils,rfl,⟨by show 0<9223372036854775808;decide,rfl⟩,⟨by show 0<9223372036854775808;decide,rfl⟩,⟨by show 0<9223372036854775808;decide,rfl⟩⟩⟩
theorem E9{a c:AV}(h:w.cells=[w])(h2:w.isTup=false)(h3:b.cells=[b])(h4:b.isTup=false):cX [Uk 0,.nils,.nils,.nils] [((0,2),.agg [a,c]),((2,1),b),((3,1),w)]=some [a,c,b,w]:=by
 have k:(AV.agg [a,c]).cells=[a,c]:=rfl;have k2:(AV.agg [a,c]).isTup=false:=rfl;simp[cX,h,h2,h3,h4,cZ,k,k2]
 rfl
theorem NA[XOc]{ls:List (List Int)}(hd:0<d)(hm:Agg n NoP 0 g.h v)(hw:SlR P kk g.h ls w):∃r,aq C0 d 66 [v,w] g=.val r/\Lt n ls NoP 0 .nil r:=by
 obtain⟨b,rows,rfl,e1,N,hN,r1,r2,r3,r4⟩:=cy d hm;obtain⟨w',e2,T⟩:=bE hw d;obtain⟨wrows,p1,p2,p3,p4⟩:=(T .nil).all;have p1:∀h',af h' 1 w'=some wrows:=p1;have hb:=hw.1;have wl:=λg=>(T .nil).len g;rw[yy];refine bj BY (xs:=[.agg [Uk n.grain,b],w']) (by simp only[aF,e1,e2]) (by simp[qS]) (ML n ls) (by decide) hd ?_;simp only[sz,simprocAttr,qS];obtain⟨g0,hg0⟩:∃g0,g0=(G.empty.new (TD 2 [[Uk n.grain,b]])).new (TD 4 [[Uk 0,.nils,.nils,.nils]]):=⟨_,rfl⟩;rw[<-hg0];have f0:g0.h.get 0=TD 2 [[Uk n.grain,b]]:=by rw[hg0];simp[sx,O6]
 have f1:g0.h.get 1=TD 4 [[Uk 0,.nils,.nils,.nils]]:=by rw[hg0];simp[sx]
 have f2:g0.nx=2:=by rw[hg0];simp[sx]
 clear hg0;simp only[td];obtain⟨z,ez,fs,⟨o,M⟩,fl,er,rfl,a,A⟩:=LT (d:=d+1) (g:=g0) (QM d) (N g0.h);have A:=aI.1 A;injection A with A;subst A;obtain⟨_,V,a⟩:=a;injection V with V;subst V;cases hn:S.O_ n with
 | false =>
  have hs:S.PO n ls=50:=by rw[S.PO,hn];rfl
  rw[hn]at ez;simp only[Se,↓reduceIte]at ez;simp only[sz,simprocAttr,f0,ez,show ¬((50:Int)=0) from by decide,f1];refine⟨λ_=>True,qn0,?_,_,_,rfl,?_,?_⟩
  ·rw[hs];intro h;cases h
  ·exact KT _ _
  ·rw[hs];exact aI.2 rfl
 | true =>
  have hr:=cp.1 hn;have o:=o hn;rw[hn]at ez;simp only[↓reduceIte]at ez;refine fA (P:=λt' df g'=>df=[]/\g'=g0/\St t' [(1,w'),(2,Ul 0),(4,Ul 1),(6,fl),(7,Uk 0)]) ?_ ?_
  ·simp only[sz,simprocAttr,f0,ez];simp[St,sx]
  rintro t df g1 ⟨rfl,rfl,h1,h2,h4,B,h7,-⟩;obtain⟨Qf,H⟩:∃Qf,Qf=fnQ C0 (d+1) [SR.cell true 4 4,SR.tm 5] (λv g'=>∃P,Lt n ls P 0 g'.h v):=⟨_,rfl⟩;rw[<-H];simp only[sz,simprocAttr,h1,h7,wl,qT];refine bz (m:=ls.length) hb (λj t df g=>df=[]/\St t [(25,w'),(2,Ul 0),(4,Ul 1),(6,fl)]/\g=g1/\∀e∈ls.take j,S.O8 n e=true) ⟨rfl,by simp[St,sx,h2,h4,B],rfl,by simp⟩ (by simp[sx]) (by simp[sx]) (by decide)
   (by rintro j t df g v s (rfl|rfl|rfl) ⟨a1,⟨b1,b2,b3,b4,-⟩,c1,c2⟩<;>exact⟨a1,by simp[St,sx,b1,b2,b3,b4],c1,c2⟩) ?_ ?_
  ·rintro j t df g hj ⟨rfl,⟨u,h2,h4,B,-⟩,rfl,c⟩ J W;obtain⟨e,he,ha,h3⟩:=ae hj;obtain⟨row,q1,q2⟩:=p3 j e he;obtain⟨z,rfl,hz⟩:=gm.1 q2;have hlt:j<wrows.length:=by omega
   have D:=C4 (d:=d+1) (g:=g) (e:=e) (w:=z) (QM d) (N g.h) (hz.tree (h':=g.h) (Qv _));cases hev:S.O8 n e with
   | true =>
    have hs:S.Pf n e=0:=by rw[S.Pf,hn,hev];rfl
    rw[hs]at D;simp only[sz,simprocAttr,u,J,W,h2,p1,hlt,q1,f0,D];refine⟨by simp[St,sx,h2,h4,B,u],λy U=>?_⟩;rw[ha]at U;rcases Q0.1 U with h|h
    ·exact c y h
    ·rw[Rg.1 h];exact hev
   | false =>
    have hs:S.Pf n e=2:=by rw[S.Pf,hn,hev];rfl
    have Q:S.PO n ls=2:=by
     have:ls.all (S.O8 n)=false:=by rw[<-RL,QS];intro h;rw[h e h3]at hev;cases hev
     rw[S.PO,hn,this];rfl
    rw[hs]at D;rw[H];simp only[sz,simprocAttr,u,J,h2,h4,p1,hlt,q1,f0,f1,D,show ¬((2:Int)=0) from by decide];refine⟨λ_=>True,qn0,?_,_,_,rfl,?_,?_⟩
    ·rw[Q];intro h;cases h
    ·exact KT _ _
    ·rw[Q];exact aI.2 rfl
  ·rintro t df g ⟨rfl,⟨u,h2,h4,B,-⟩,rfl,c⟩;rw[Q4]at c;have hs:S.PO n ls=0:=by rw[S.PO,hn,QS.2 c];rfl
   have h5:=hr.l2;have fll:=λg=>a.len g;simp only[sx,↓reduceIte];unfold qW;refine fA (P:=λt' df g'=>df=[]/\∃S_ q,St t' [(2,Ul 0),(4,Ul 1),(6,fl),(11,Ul q)]/\AskH n.grain b fl S_ n.nodes.length q fs 0 g') ?_ ?_
   ·simp only[sz,simprocAttr,sf,h2,B,f0,fll,o];refine l_ (b:=2) (n:=n.nodes.length) (by unfold aQ;omega) (by unfold aQ;omega) (by first| (simp;done)| (simp;omega)) λS_ g2 hS n2 f2' vS lg2=>?_;simp only[sy]at n2 f2' vS lg2;have F:fl.cells=[fl]/\fl.isTup=false:=by
     have h:=a.2;unfold SlV at h
     split at h<;>first|exact⟨rfl,rfl⟩|exact h.elim
    simp only[sz,simprocAttr,sf,E9 hS.cell.1 hS.cell.2 F.1 F.2,lg2];have hl:g.nx+5=g2.nx:=by omega
    have k0:g2.h.get 0=TD 2 [[Uk n.grain,b]]:=by rw[f2' 0 (by omega),f0]
    have k1:g2.h.get 1=TD 4 [[Uk 0,.nils,.nils,.nils]]:=by rw[f2' 1 (by omega),f1]
    refine⟨?_,S_,g2.nx+1+1,by simp[St,sx,h2,h4,B],⟨?_,?_,?_,⟨by omega,by simp⟩,λi hi=>by have:=fH vS hi;omega,List.replicate n.nodes.length .nils,[],?_,by simp,rfl,trivial,λi f X _ h=>by simp at h⟩⟩
    ·simp only[Q2,QZ,QY,QI,G.new_lg,G.put_lg,setLog_lg];refine aJ (TW (true::(false::(true::(true::[]))))) [(0,4),(1,4),(0,6),(1,6),(2,6),(3,6),(4,6),(5,6)] (by simp[All2,ak,aw]) (by decide) ?_;rintro p O x y hx U;simp only[Q8,QG,SY]at O;rcases O with rfl|rfl|rfl|rfl|rfl|rfl|rfl|rfl<;>(simp at hx U;subst hx;subst U;refine dk rfl rfl rfl rfl ?_ ?_ ?_<;>simp[ak,aw,am]<;>omega)
    ·simp[O6,k0]
    ·simp[O6,k1]
    ·simp[O6]
    ·have I:Own g2 2 S_ 1 ((List.replicate n.nodes.length AV.nils).map λv=>[v]):=by simpa using hS
     refine I.fr (by simp;omega) λi hi=>?_;have:=fH vS hi;simp[O6,show ¬i=g2.nx+1+1 by omega]
   clear u h2 h4 B;rintro t df g2 ⟨rfl,S_,q,⟨h2,h4,B,C,-⟩,hp⟩;have Z:=hN.len;simp only[sz,simprocAttr,B,fll,o];refine Nz (m:=n.nodes.length) (q:=q) (gr:=n.grain) (b:=b) (fl:=fl) (S_:=S_) (fs:=fs) Z h5 a o (λi f hf=>?_) ⟨by simp[St,sx,h2,h4,C],hp⟩ (by simp[sx]) (by simp[sx]) ?_
   ·have hi:=(Qt.1 hf).1;obtain⟨x,hx,-,-⟩:=ae (l:=n.nodes) (j:=i) (by omega);obtain⟨p,h9,E⟩:=M i x hi hx;rw[hf]at E;injection E with E;subst E;exact Jz hr hx h9
   clear h2 h4 B C hp;rintro t g3 ⟨⟨C,h2,h4,hc,-⟩,hp⟩;obtain⟨Vs,l,hS,hg,h8,K,R⟩:=hp.hS;rw[RE (by omega)]at K;rw[H];have q2:=hp.q2.1;simp only[sz,simprocAttr,qV,C,h4,hp.hq,hp.h1];have hk:∀i,i≠1->(g3.h.put 1 (TD 4 [[Uk n.grain,b,fl,S_]])).get i=g3.h.get i:=λi hi=>by simp[O6,hi]
   refine⟨λ_=>True,(n,fs,l),λ_=>⟨rfl,o,M,h8,R⟩,_,_,rfl,⟨_,rfl,wP.2 ⟨b,fl,S_,rfl,hN.wide (Qv 0),a.wide (Qv 0),?_⟩⟩,?_⟩
   ·have I:Own (g3.put 1 (TD 4 [[Uk n.grain,b,fl,S_]])) 2 S_ 1 (Vs.map λv=>[v]):=hS.fr (by simp) λi hi=>by have:=(hS.lt hi).1;simp[O6,show ¬i=1 by omega]
    refine Own.sl (α:=List Int) I (by show l.length<_;omega) ?_ λ_ _=>trivial;have L:∀(l:List (List Int)) (Vs:List AV),All2 (λX v=>Own g3 (q+1) v 1 (X.map ci)) l Vs->(∀X∈l,X.length<9223372036854775808)->All2 (Rp.rp (λ_=>True) 0 (g3.put 1 (TD 4 [[Uk n.grain,b,fl,S_]])).h) l (Vs.map λv=>[v]):=by
     intro l
     induction l with
     | nil=>intro Vs h _;cases Vs with
      |nil=>trivial
      |cons v Vs=>exact h.elim
     | cons X l ih=>intro Vs h hX;cases Vs with
      |nil=>exact h.elim
      | cons v Vs =>
       refine⟨?_,ih Vs h.2 λY hY=>hX Y (by simp[hY])⟩;have ho:Own (g3.put 1 (TD 4 [[Uk n.grain,b,fl,S_]])) (q+1) v 1 (X.map ci):=h.1.fr (by simp) λi hi=>by have:=(h.1.lt hi).1;simp[O6,show ¬i=1 by omega]
       obtain⟨_,e1,hh⟩:=ho.ints (k:=0) (hX X (by simp));exact gm.2 ⟨_,e1,hh⟩
    refine L l Vs K λX hX=>?_;obtain⟨i,hi,he⟩:=RU.1 hX;have:=(R i _ X (Qu (show i<fs.length by omega)) (by rw[Qu hi,he])).1;omega
   ·rw[hs];exact aI.2 rfl
theorem GI{α:Type}{l:List α}{x y:α}(h1:l[i]?=some x)(h2:l[i]?=some y):x=y:=by rw[h1]at h2;injection h2
structure WtI (y:QnM) (b fl S_ wv va ca wa:AV) (gr wt:Int) (p:Int) (cards pv:List Int) (m k fb i:Nat) (t:T) (g:G):Prop where
 st:St t [(1,wv),(2,Ul 0),(12,fl),(13,Uk (m:Int)),(14,Uk (k:Int)),(5,Uk wt),(6,Uk (k:Int)),(7,Ul fb),(20,va),(8,Uk (p - S.O5 (cards.drop i) (pv.drop i)))]
 h0:g.h.get 0=TD 4 [[Uk gr,b,fl,S_]]
 hf:g.h.get fb=TD 3 [[va,ca,wa]]
 nn:0<=p - S.O5 (cards.drop i) (pv.drop i)
 nx:1<=g.nx
theorem IW[XOc]{fb kv kz:Nat}{y:QnM}{wv va ca wa:AV}{wt:Int}{f:Factor}{R:List Int}{mm:Nat}(hva:SlR NoP kv .nil f.vars va)(hF:FOk mm f)(hR:S.Qb mm f 0 R)(hvl:vals.length=mm)
  (hS:∃(srows:List (List AV)) (z:AV),(∀h,af h 1 S_=some srows)/\srows[k]?=some [z]/\k<srows.length/\SlR NoP kz .nil R z) (rv:∀h,af h 1 wv=some (vals.map ci)) (hp:p=S.O5 f.cards (S.O3 vals f.vars)) (hin:InC f.cards (S.O3 vals f.vars)) (hpb:p<=10000000)
  (h0:WtI y b fl S_ wv va ca wa gr wt p f.cards (S.O3 vals f.vars) m k fb 0 t g) (h22:tat t 22=Uk 0) (h21:tat t 21=Uk (f.vars.length:Int))
  (fin:∀t g,WtI y b fl S_ wv va ca wa gr wt p f.cards (S.O3 vals f.vars) m k fb f.vars.length t g->Q (.exit 2) t [] g):wpL (wp C0 d none cH) Q t [] g:=by
 obtain⟨srows,z,s1,s2,s3,hz⟩:=hS;have rva:=λh=>(hva.tree (h':=h) (Qv _)).ints;have rz:=λh=>(hz.tree (h':=h) (Qv _)).ints;simp only[cH];refine bz (m:=f.vars.length) hva.1 (λi t df g=>df=[]/\WtI y b fl S_ wv va ca wa gr wt p f.cards (S.O3 vals f.vars) m k fb i t g) ⟨rfl,h0⟩ h22 h21 (by decide)
  (by rintro j t df g v s (rfl|rfl|rfl) ⟨a1,⟨b1,b2,b3,b4,K,L,M,N,O,w,-⟩,c1,P,U,V⟩<;>exact⟨a1,by simp[St,sx,b1,b2,b3,b4,K,L,M,N,O,w],c1,P,U,V⟩) ?_ ?_
 ·rintro i t df g hi ⟨rfl,⟨h1,h2,A,B,C,h5,I,h7,n,h8,-⟩,e0,ef,Y,F⟩ h22 h21;obtain⟨u,hu,-,q⟩:=ae hi;obtain⟨H,q⟩:=hF.vr u q;obtain⟨un,rfl⟩:=QD H;have hcl:=hF.cl;have E:f.cards.drop i=f.cards[i]::f.cards.drop (i+1):=RA (by omega);have e:vals[un]?=some vals[un]:=Qu (by omega);have a:(S.O3 vals f.vars)[i]?=some vals[un]:=by simp[S.O3,hu,e]
  have o:(S.O3 vals f.vars).drop i=vals[un]::(S.O3 vals f.vars).drop (i+1):=by
   have hl:i<(S.O3 vals f.vars).length:=by rw[t_];exact hi
   rw[RA hl];rw[Qu hl]at a;injection a with a;rw[a]
  have r:0<=vals[un]:=by obtain⟨v',h1,h2,-⟩:=hin.get (i:=i) (c:=f.cards[i]) (Qu (by omega));rw[GI a h1];exact h2
  generalize vals[un]=x at e a o r;have l:=hR.2 i (un:Int) (Rf _) hu;rw[Rb]at l;have D:=(Qt.1 l).1;have u1:i<(f.vars.map ci).length:=by simpa using hi
  have u2:(f.vars.map ci)[i]?=some (ci (un:Int)):=by rw[Qx,hu];rfl
  have u3:un<(vals.map ci).length:=by simp;omega
  have u4:(vals.map ci)[un]?=some (ci x):=by rw[Qx,e];rfl
  have u5:un<(R.map ci).length:=by simpa using D
  have u6:(R.map ci)[un]?=some (ci (S.O4 (f.cards.drop (i+1)))):=by rw[Qx,l];rfl
  have J:S.O5 (f.cards.drop i) ((S.O3 vals f.vars).drop i)=x*S.O4 (f.cards.drop (i+1))+S.O5 (f.cards.drop (i+1)) ((S.O3 vals f.vars).drop (i+1)):=by rw[E,o,S.O5]
  have W:=d9 (cards:=f.cards.drop (i+1)) (vals:=(S.O3 vals f.vars).drop (i+1)) (λc hc=>hF.cb c (Rd hc)) (hin.drop (i+1));have X:=d9 (cards:=f.cards.drop i) (vals:=(S.O3 vals f.vars).drop i) (λc hc=>hF.cb c (Rd hc)) (hin.drop i);have Z:=kV (cs:=f.cards.drop (i+1)) λc hc=>(hF.cb c (Rd hc)).1;have h3:0<=x*S.O4 (f.cards.drop (i+1)):=Sy r (by omega);have w1:IntKind.wrap .i64 (x*S.O4 (f.cards.drop (i+1)))=x*S.O4 (f.cards.drop (i+1)):=aA (by omega) (by omega);have w2:IntKind.wrap .i64 (p - S.O5 (f.cards.drop i) ((S.O3 vals f.vars).drop i)+x*S.O4 (f.cards.drop (i+1)))=p - S.O5 (f.cards.drop (i+1)) ((S.O3 vals f.vars).drop (i+1)):=by rw[aA (by omega) (by omega)];omega
  simp only[sz,simprocAttr,h1,h2,I,h8,n,h22,h21,e0,rva,u1,u2,rv,u3,u4,s1,s2,s3,rz,u5,u6,ci,w1,w2];refine⟨by simp[St,sx,h1,h2,A,B,C,h5,I,h7,n],e0,ef,by omega,by first|exact F| (simp;done)| (simp;omega)⟩
 ·rintro t df g ⟨rfl,h⟩;exact fin t g h
structure WtJ (n:Net) (vals:List Int) (b fl S_ wv:AV) (k:Nat) (t:T) (g:G):Prop where
 st:St t [(1,wv),(2,Ul 0),(12,fl),(5,Uk (S.O4 ((List.range k).map (S.Pk n vals))))]
 h0:g.h.get 0=TD 4 [[Uk n.grain,b,fl,S_]]
 nx:1<=g.nx
theorem IX[XOc]{y:QnM}(hd:0<d)(hr:NR n)(hm:Agg y NoP ky g.h v)(hq:QnOk n y)(hv:SlR P kk g.h vals w)(hc:InC (S.O2 n) vals) :
  aq C0 d 134 [v,w] g=.val (Uk (S.PA n vals)):=by
 have e0:=g8 d hm;obtain⟨cs,rfl,J⟩:=hm;obtain⟨b,fl,S_,rfl,hN,o,hS⟩:=wP.1 J;have o:SlR NoP ky .nil y.2.1 fl:=o.tree (Qv _);have hS:SlR NoP ky .nil y.2.2 S_:=hS.tree (Qv _);obtain⟨w',U,M⟩:=bE hv d;have K:y.1.grain=n.grain:=by rw[hq.net]
 obtain⟨frows,f1,f2,V,W⟩:=o.all;have f1:∀h',af h' 3 fl=some frows:=f1;obtain⟨srows,s1,s2,s3,s4⟩:=xT hS;have rv:=λh=>(M h).ints;have F:=hc.len;rw[aP]at F;have ha:=hr.l2;have B:=hq.fl;rw[lp];refine eF m9 (xs:=[.agg [Uk y.1.grain,b,fl,S_],w']) (by simp only[aF,e0,U]) (by simp[dm]) hd ?_;rw[K];have ll:=o.len;simp only[sz,simprocAttr,dm,fI,ll,B];simp only[eL,eN];refine bz (m:=n.nodes.length) (by omega) (λk t df g=>df=[]/\WtJ n vals b fl S_ w' k t g) ⟨rfl,by simp[St,sx,S.O4],by simp[sx],by simp⟩ (by simp[sx]) (by simp[sx]) (by decide)
  (by rintro j t df g v s (rfl|rfl|rfl) ⟨a1,⟨b1,b2,b3,b4,-⟩,c1,T⟩<;>exact⟨a1,by simp[St,sx,b1,b2,b3,b4],c1,T⟩) ?_ ?_
 ·rintro k t df g hk ⟨rfl,⟨h1,h2,c,h5,-⟩,g0,L⟩ e i;obtain⟨x,hx,-,-⟩:=ae hk;obtain⟨p,hp,hf⟩:=hq.fs k x (by omega) hx;obtain⟨row,q1,q2⟩:=V k _ hf;obtain⟨va,ca,wa,rfl,E,Z,N⟩:=oY.1 q2;have A:=Jz hr hx hp;obtain⟨pn,i1,i2,Q⟩:=NL hr hc hx p;have hlt:k<frows.length:=by omega
  have hg:=W (by omega);obtain⟨R,hR,-,-⟩:=ae (l:=y.2.2) (j:=k) (by rw[hq.sl];exact hk);obtain⟨z,z1,z2,z3⟩:=s3 k R hR;have q:InC (S.Pu n k x p).cards (S.O3 vals (S.Pu n k x p).vars):=jc hc λu hu=>by rw[aP];exact y7 hr hx p u hu
  have h9:=d9 A.cb q;have he:=bO (l:=(S.Pu n k x p).cards) A.cb;have h4:=A.vl;have hb:=dI (a:=(S.Pu n k x p).cards.length) (b:=9) (by
   have h1:=jd (hr.places x (Qz hx)) (by omega);have h3:=sA x.parents p (k:Int) hp;show (S.O3 _ _).length<=9;rw[t_];omega)
  have Y:(4:Int) ^ 9=262144:=by decide
  have ei:S.O5 (S.Pu n k x p).cards (S.O3 vals (S.Pu n k x p).vars)=(pn:Int):=i1;have lva:=E.len;have rwa:=λh=>(N.tree (h':=h) (Qv _)).ints;refine jo (P:=λt' df g'=>df=[]/\g'=(g.new (TD 3 [[.nils,.nils,.nils]])).put g.nx (TD 3 [[va,ca,wa]])/\St t' [(1,w'),(2,Ul 0),(12,fl),(13,Uk (n.nodes.length:Int)),(14,Uk (k:Int)),(5,Uk (S.O4 ((List.range k).map (S.Pk n vals)))),(6,Uk (k:Int)),(7,Ul g.nx)]) ?_ ?_
  ·simp only[sz,simprocAttr,e,c,f1,hlt,q1];simp[St,sx,h1,h2,c,i,e,h5]
  clear h1 h2 c h5 e i;rintro t df g1 ⟨rfl,r,⟨h1,h2,c,i,e,h5,I,h7,-⟩⟩;have O:g1.h.get 0=TD 4 [[Uk n.grain,b,fl,S_]]:=by rw[r];simp[O6,show ¬0=g.nx by omega,g0]
  have H:g1.h.get g.nx=TD 3 [[va,ca,wa]]:=by rw[r];simp[O6]
  have kn:g1.nx=g.nx+1:=by rw[r];simp
  simp only[sz,simprocAttr,h7,H,lva];refine IW (y:=y) (b:=b) (fl:=fl) (S_:=S_) (wv:=w') (va:=va) (ca:=ca) (wa:=wa) (gr:=n.grain) (wt:=S.O4 ((List.range k).map (S.Pk n vals))) (p:=(pn:Int)) (f:=S.Pu n k x p) (R:=R) (vals:=vals) (mm:=n.nodes.length) (m:=n.nodes.length) (k:=k) (fb:=g.nx) E A (hq.st k _ R hf hR) F ⟨srows,z,s1,z1,z2,z3⟩ rv ei.symm q (by omega)
   ⟨by simp[St,sx,h1,h2,c,i,e,h5,I,h7,ei],by simpa using O,by simpa using H,by simp[ei],by omega⟩ (by simp[sx]) (by simp[sx]) ?_
  clear h1 h2 c i e h5 I h7;rintro t g2 ⟨⟨h1,h2,c,i,e,h5,I,h7,X,h8,-⟩,O,H,-,D⟩;have C:S.O5 ((S.Pu n k x p).cards.drop (S.Pu n k x p).vars.length) ((S.O3 vals (S.Pu n k x p).vars).drop (S.Pu n k x p).vars.length)=0:=by rw[Ta (by rw[A.cl];exact Qv _)];rfl
  rw[C,Int.sub_zero]at h8;have u1:pn<((S.Pu n k x p).w.map ci).length:=by rw[QJ];exact (Qt.1 Q).1
  have u2:((S.Pu n k x p).w.map ci)[pn]?=some (ci (S.Pk n vals k)):=by rw[Qx];exact congrArg (Option.map ci) Q
  have wb:=nN hr hc (j:=k+1) (by omega);have ws:=uh n vals k;have w1:IntKind.wrap .i64 (S.O4 ((List.range k).map (S.Pk n vals))*S.Pk n vals k)=S.O4 ((List.range (k+1)).map (S.Pk n vals)):=by rw[<-ws,aA (by omega) (by omega)]
  simp only[sz,simprocAttr,eM,h5,h7,H,h8,rwa,u1,u2,ci,w1];exact⟨⟨by simp[St,sx,h1,h2,c],O,D⟩,e,i⟩
 ·rintro t df g ⟨rfl,⟨h1,h2,c,h5,-⟩,g0,L⟩;simp only[sz,simprocAttr,eO,h5]
  rfl
def S.P_(vals e:List Int)(i:Nat):Bool:=decide (e[i]?.getD 0 = -1) || decide (e[i]?.getD 0=vals[i]?.getD 0)
def S.jm(vals e:List Int):Bool:=(List.range e.length).all (S.P_ vals e)
theorem Nd(h:∀x∈e,-1<=x):S.jm vals e=S.Pw vals e:=by
 have key:S.P_ vals e=S.Qa vals e:=by
  funext i;have h1:-1<=e[i]?.getD 0:=by
   cases hx:e[i]? with
   |none=>decide
   |some x=>exact h x (Qz hx)
  unfold S.P_ S.Qa;generalize e[i]?.getD 0=x at h1;congr 1;rw[decide_eq_decide];omega
 rw[S.jm,S.Pw,key]
theorem Fq[XOc]{k2:Nat}{P2:Nat->Prop}(hd:0<d)(hv:SlR P k g.h vals v)(hw:SlR P2 k2 g.h e w)(hl:e.length<=vals.length) :
  aq C0 d 133 [v,w] g=.val (.bool (S.jm vals e)):=by
 obtain⟨v',e1,p⟩:=bE hv d;obtain⟨w',o,n⟩:=bE hw d;have ra:∀h',af h' 1 v'=some (vals.map ci):=λh'=>(p h').ints;have rb:∀h',af h' 1 w'=some (e.map ci):=λh'=>(n h').ints;have n2:=λg=>(n .nil).len g;rw[tB];refine d7 vX (xs:=[v',w']) (by simp only[aF,e1,o]) (by simp[jP]) hd ?_;simp only[sz,simprocAttr,jP,lD,n2];refine bz (m:=e.length) hw.1 (λj t df g=>df=[]/\St t [(0,v'),(8,w'),(5,.bool true)]/\(List.range j).all (S.P_ vals e)=true) ⟨rfl,by simp[St,sx],rfl⟩ (by simp[sx]) (by simp[sx]) (by decide) (by rintro j t df g v s (rfl|rfl|rfl)<;>simp[St,sx]) ?_ ?_
 ·rintro j t df g f ⟨rfl,⟨h0,h8,h5,-⟩,c⟩ a h9;obtain⟨x,hx,-,-⟩:=ae f;obtain⟨z,hz,-,-⟩:=ae (l:=vals) (j:=j) (by omega);have q1:j<(e.map ci).length:=by simpa using f
  have q2:j<(vals.map ci).length:=by rw[QJ];omega
  have q3:(e.map ci)[j]?=some (ci x):=by rw[Qx,hx];rfl
  have i:(vals.map ci)[j]?=some (ci z):=by rw[Qx,hz];rfl
  have b:S.P_ vals e j=(decide (x = -1) || decide (x=z)):=by simp[S.P_,hx,hz]
  by_cases c1:x = -1
  ·subst c1;simp only[sz,simprocAttr,a,h9,h8,rb,q1,q3,ci];refine⟨by simp[St,sx,h0,h8,h5],?_⟩;rw[dj,c,b];simp
  ·by_cases c2:x=z
   ·subst c2;simp only[sz,simprocAttr,a,h9,h8,h0,ra,rb,q1,q2,q3,i,ci,c1];refine⟨by simp[St,sx,h0,h8,h5],?_⟩;rw[dj,c,b];simp
   ·have:S.P_ vals e j=false:=by rw[b];simp[c1,c2]
    have hf:S.jm vals e=false:=by rw[S.jm,gk f this]
    simp only[sz,simprocAttr,a,h8,h0,ra,rb,q1,q2,q3,i,ci,c1,c2,gn,hf]
 ·rintro t df g ⟨rfl,⟨h0,h8,h5,-⟩,c⟩;simp only[sz,simprocAttr,gn,h5];rw[S.jm,c]
theorem NF{α:Type} [Rp α]{l:List α}(hw:SlR P k h l w)(g:G):Jd w g=.upd (Ul g.nx) (g.new (TD 1 [[w]])):=by rw[ES _ _ hw.cell.2,hw.cell.1];rfl
def I7{α:Type} [Rp α](x:α)(sz:Nat):VS:=λP k h v=>(∃id cs,v=Ul id/\P id/\h.get id=TD sz [cs]/\Rp.rp P k h x cs)\/∃t cs,v=.tptr t sz [cs] 0 0/\t<=k/\Rp.rp NoP k .nil x cs
theorem Eh{α:Type} [Rp α]{x:α}{sz:Nat}{n:Nat}(d:Nat)(r:I7 x sz P k h v)(hn:Rp.dp α<=n)(hd:Rp.dp α<=20:=by decide):∃v',Hx.snap h d (n+1) v=some v'/\I7 x sz NoP (max k d) .nil v':=by
 rcases r with⟨id,cs,rfl,-,hg,r⟩|⟨t,cs,rfl,ht,r⟩
 ·obtain⟨cs',e,r'⟩:=Rp.snap (n:=n) d r hn (by show _<=24;omega);obtain⟨m,a,l2⟩:=Rp.tag (n:=aD) r' (by show _<=24;omega);refine⟨.tptr (Nat.max d (Nat.max m 0)) sz [cs'] 0 0,?_,.inr ⟨_,cs',rfl,?_,r'⟩⟩
  ·simp only[Hx.snap,hg,show Nat.beq 0 0=true from rfl,aF,e,fG,gB,a]
  ·show max d (max m 0)<=max k d;omega
 ·exact⟨.tptr t sz [cs] 0 0,rfl,.inr ⟨t,cs,rfl,by omega,Rp.mono r (λi hi=>hi.elim) (by omega)⟩⟩
theorem Hc{α:Type} [Rp α]{x:α}{sz:Nat}{n:Nat}(r:I7 x sz NoP k h v):∃m,dU (n+1) v=some m/\m<=k:=by
 rcases r with⟨id,cs,rfl,a,-⟩|⟨t,cs,rfl,ht,r⟩
 ·exact a.elim
 ·exact⟨t,rfl,ht⟩
def MtV(y:QnM)(e:List Int):VS:=λP k h v=>∃p q,v=.clo 132 [] [p,q]/\I7 y 4 P k h p/\I7 e 1 P k h q
theorem Oe(y:QnM)(e:List Int):Snb (MtV y e) 2:=by
 refine⟨λ{P k h v n} d r hn=>?_,λ{k h v n} r hn=>?_⟩
 ·obtain⟨p,q,rfl,b,f⟩:=r;obtain⟨n,rfl⟩:∃q,n=q+2:=⟨n - 2,by omega⟩;obtain⟨p',e1,c⟩:=Eh (n:=n) d b (QW (show Rp.dp QnM<=20 by decide) (by omega));obtain⟨q',a,i⟩:=Eh (n:=n) d f (QW (show Rp.dp (List Int)<=20 by decide) (by omega));refine⟨.clo 132 [] [p',q'],?_,p',q',rfl,c,i⟩;simp only[Hx.snap,aF]at e1 a ⊢;rw[e1,a]
 ·obtain⟨p,q,rfl,b,f⟩:=r;obtain⟨n,rfl⟩:∃q,n=q+2:=⟨n - 2,by omega⟩;obtain⟨j,e1,l1⟩:=Hc (n:=n) b;obtain⟨l,a,l2⟩:=Hc (n:=n) f;refine⟨Nat.max j (Nat.max l 0),?_,by show max j (max l 0)<=k;omega⟩;show gB (dU (n+1)) [p,q]=_;simp only[gB,e1,a]
theorem DS[XOc]{y:QnM}(hd:0<d)(hm:Agg y NoP 0 g.h v)(hw:SlR NoP kk g.h e w)(hk:kk<d:=by omega) :
  ∃cs z t1 t2,aq C0 d 106 [v,w] g=.val (.clo 132 [] [.tptr t1 4 [cs] 0 0,.tptr t2 1 [[z]] 0 0])/\Rp.rp NoP kk .nil y cs/\SlR NoP kk .nil e z:=by
 have e0:=g8 d hm;obtain⟨cs,rfl,hc⟩:=hm;obtain⟨a,b,c,rfl,h1,h2,l⟩:=wP.1 hc;have key:∃r,aq C0 d 106 [.agg [Uk y.1.grain,a,b,c],w] g=.val r/\MtV y e NoP kk .nil r:=by rw[jL];refine bj lq (xs:=[.agg [Uk y.1.grain,a,b,c],w]) (by simp only[aF,e0,Cw d hw]) (by simp[cN]) (Oe y e) (by decide) hk ?_;simp only[sz,simprocAttr,cN,eD,NF hw];refine⟨λ_=>True,_,_,rfl,.inl ⟨0,_,rfl,trivial,by simp[sx,O6],Rp.tree hc (Rf _)⟩,.inl ⟨1,[w],rfl,trivial,by simp[sx],?_⟩⟩;exact⟨w,rfl,hw.wide (Qv _)⟩
 obtain⟨r,hr,p,q,rfl,f,i⟩:=key;rcases f with⟨id,cs,rfl,k,-⟩|⟨t,cs,rfl,ht,f⟩
 ·exact k.elim
 rcases i with⟨id,cs,rfl,k,-⟩|⟨t2,cs2,rfl,j,i⟩
 ·exact k.elim
 obtain⟨z,rfl,hz⟩:=gm.1 i;exact⟨cs,z,t,t2,hr,f,hz⟩
theorem Kn{cs:List Int}(h:InC cs vs)(hc:∀c∈cs,1<=c){x c:Int}(hi:vs[i]?=some x)(hci:cs[i]?=some c)(hx:x≠c - 1):InC cs (vs.take i++(x+1)::List.replicate (vs.length - (i+1)) 0):=by
 have d:=(Qt.1 hi).1;have hl:=h.len;refine B6 (by simp;omega) λj c' v a k=>?_;obtain⟨v',h1,h2,e⟩:=h.get a;have b:=hc c' (Qz a)
 by_cases h4:j<i
 ·rw[QE (by simp;omega),Ra h4]at k;rw[h1]at k;injection k with k;omega
 ·rw[QL (by simp;omega)]at k;rw[Q_,Sn (by omega)]at k
  by_cases h5:j=i
  ·subst h5;rw[RF]at k;simp at k;rw[hi]at h1;injection h1 with h1;rw[hci]at a;injection a with a;omega
  ·obtain⟨m,hm⟩:∃m,j - i=m+1:=⟨j - i - 1,by omega⟩;rw[hm,SE]at k;have:=Qz k;rw[Ts]at this;omega
theorem Ls{cs:List Int}(hc:∀c∈cs,1<=c):InC cs (List.replicate cs.length 0) :=
 B6 (by simp) λj c v hj hv=>by have:=Qz hv;rw[Ts]at this;have:=hc c (Qz hj);omega
section
variable {t1 t2:Nat}
theorem CJ(h:m<vs.length):(vs.take (m+1)++List.replicate (vs.length - (m+1)) 0).set m 0=vs.take m++List.replicate (vs.length - m) 0:=by
 rw[Si h,RG,R2 _ _ (by simp;omega),Q_,Sn (by omega),RF];rw[show vs.length - m=(vs.length - (m+1))+1 by omega,RT]
 rfl
theorem CI(h:m<vs.length)(y:Int):(vs.take (m+1)++List.replicate (vs.length - (m+1)) 0).set m y=vs.take m++y::List.replicate (vs.length - (m+1)) 0:=by
 rw[Si h,RG,R2 _ _ (by simp;omega),Q_,Sn (by omega),RF]
 rfl
structure OdoJ (n:Net) (vs:List Int) (L:List (Nat×AV)) (u:AV) (g0:G) (m:Nat) (t:T) (g:G):Prop where
 st:tat t 6=Uk ((m:Int) - 1)
 ss:St t L
 ow:Own g g0.nx u 1 ((vs.take m++List.replicate (vs.length - m) 0).map ci)
 mx:∀(j:Nat) (c:Int),m<=j->(S.O2 n)[j]?=some c->vs[j]?.getD 0=c - 1
def LM(id:Nat)(gr:Int)(b fl S_ w u:AV)(k t1 t2:Nat):List (Nat×AV):=[(0,.yld id),(1,.tptr t1 4 [[Uk gr,b,fl,S_]] 0 0),(2,.tptr t2 1 [[w]] 0 0),(4,u),(5,Uk (k:Int))]
theorem In[XOc]{id:Nat}(hr:NR n)(hN:SlR NoP ky .nil n.nodes b)(hc:InC (S.O2 n) vs)(hm:m<=n.nodes.length)
  (h0:OdoJ n vs (LM id n.grain b fl S_ w u k t1 t2) u g0 m t g)
  (fin:∀m' t g',m'<=n.nodes.length->OdoJ n vs (LM id n.grain b fl S_ w u k t1 t2) u g0 m' t g'->g.nx<=g'.nx->(∀i,vid u≠some i->g'.h.get i=g.h.get i)->(m'=0\/∃x c,vs[m' - 1]?=some x/\(S.O2 n)[m' - 1]?=some c/\x≠c - 1/\0<m')->Q (.exit 2) t [] g') :
  wpL (wp C0 d none bo) Q t [] g:=by
 obtain⟨rows,z,M,J,K⟩:=hN.all;have z:∀h',af h' 3 b=some rows:=z;have B:=hc.len;rw[aP]at B;have F:=hr.l2;refine rZ (λm t df g'=>df=[]/\m<=n.nodes.length/\OdoJ n vs (LM id n.grain b fl S_ w u k t1 t2) u g0 m t g'/\g.nx<=g'.nx/\∀i,vid u≠some i->g'.h.get i=g.h.get i) m ⟨rfl,hm,h0,Qv _,λ_ _=>rfl⟩ ?_;rintro m t df g1 ⟨rfl,hm,⟨o,⟨h0,h1,h2,h4,h5,-⟩,f,r⟩,s,q⟩;simp only[bo];cases m with
 | zero =>
  have c1:¬((0:Int)<=((0:Nat):Int) - 1):=by omega
  simp only[sz,simprocAttr,o];refine fin 0 _ _ (Rf _) ⟨?_,?_,?_,r⟩ ?_ ?_ (.inl rfl)
  ·simp[sx,o]
  ·simp[St,LM,sx,h0,h1,h2,h4,h5]
  ·exact f
  ·exact s
  ·exact q
 | succ m =>
  have c1:(0:Int)<=((m+1:Nat):Int) - 1:=by omega
  have e1:((m+1:Nat):Int) - 1=(m:Int):=by omega
  rw[e1]at c1 o;obtain⟨x,hx,-,-⟩:=ae (l:=n.nodes) (j:=m) (by omega);obtain⟨row,q1,q2⟩:=J m x hx;obtain⟨pa,ra,rfl,-,-⟩:=bV.1 q2;have hlt:m<rows.length:=by omega
  have y:=K (by omega);have p:(S.O2 n)[m]?=some x.card:=by simp[S.O2,hx]
  obtain⟨v,A,H,I⟩:=hc.get p;have E:=hr.card x (Qz hx);have D:m<((vs.take (m+1)++List.replicate (vs.length - (m+1)) 0).map ci).length:=by simp;omega
  have C:((vs.take (m+1)++List.replicate (vs.length - (m+1)) 0).map ci)[m]?=some (ci v):=by rw[Qx,QE (by simp;omega),Ra (by omega),A];rfl
  have ru:=f.rows;have w1:IntKind.wrap .i64 (x.card - 1)=x.card - 1:=aA (by omega) (by omega)
  by_cases c2:v=x.card - 1
  ·simp only[sz,simprocAttr,o,h1,h4,c1,ru,D,C,z,hlt,q1,y,uQ,kU,ci,w1,c2];refine ck (v:=u) (sz:=1) (n:=1) (i:=m) (off:=0) (x:=Uk 0) (row':=ci 0) f C rfl rfl rfl λg4 hu4 n4 f4=>?_;rw[<-RD,CJ (by omega)]at hu4;have L:IntKind.wrap .i64 ((m:Int) - 1)=(m:Int) - 1:=aA (by omega) (by omega);simp only[sz,simprocAttr,o,L];refine⟨m,by omega,by omega,⟨by simp[sx],by simp[St,LM,sx,h0,h1,h2,h4,h5],hu4,λj c hj a=>?_⟩,by omega,λi hi=>by rw[f4 i hi,q i hi]⟩
   by_cases e:j=m
   ·subst e;rw[p]at a;injection a with a;rw[A,QC];omega
   ·exact r j c (by omega) a
  ·simp only[sz,simprocAttr,o,h1,h4,c1,ru,D,C,z,hlt,q1,y,uQ,kU,ci,w1,c2];refine fin (m+1) _ _ hm ⟨?_,?_,?_,r⟩ ?_ ?_ (.inr ⟨v,x.card,A,p,c2,by omega⟩)
   ·simp[sx,o]
   ·simp[St,LM,sx,h0,h1,h2,h4,h5]
   ·exact f
   ·exact s
   ·exact q
theorem NS{a:AV}(ha:a.cells=[a]/\a.isTup=false)(hb:b.cells=[b]/\b.isTup=false)(hu:u.cells=[u]/\u.isTup=false):cX [Uk 0,Uk 0,.nils] [((0,1),a),((1,1),b),((2,1),u)]=some [a,b,u]:=by
 simp[cX,ha,hb,hu,cZ]
 rfl
theorem Io[XOc]{id ke:Nat}{y:QnM}(hd:0<d)(hr:NR n)(hq:QnOk n y)(hcs:Rp.rp NoP ky .nil y [Uk n.grain,b,fl,S_])(hw:SlR NoP ke .nil e w)(hel:e.length<=n.nodes.length)
  (J:Nat->H->Prop) (E:G->Prop) (hJ:∀j h h',(∀i,i<g0.nx->h'.get i=h.get i)->J j h->J j h')
  (skip:∀(j:Nat) (h:H),j<S.Pn n->S.jm (S.O7 (S.O2 n) j) e=false->J j h->J (j+1) h)
  (step:∀(j:Nat) (u:AV) (g:G) (K':AV->G->Prop) (D:ADf->Prop),j<S.Pn n->S.jm (S.O7 (S.O2 n) j) e=true->g0.nx<=g.nx->J j g.h->SlR (λi=>g0.nx<=i/\i<g.nx) 0 g.h (S.O7 (S.O2 n) j) u ->
   (∀g',J (j+1) g'.h->g.nx<=g'.nx->(∀i,g0.nx<=i->i<g.nx->g'.h.get i=g.h.get i)->K' (.bool true) g')->(∀g',E g'->K' (.bool false) g')->(cQ (I C0) d id [.agg [Uk (j:Int),Uk (S.PA n (S.O7 (S.O2 n) j)),u]] g).sat K' g D)
  (h0:J 0 g0.h) (fin:∀g',J (S.Pn n) g'.h->g0.nx<=g'.nx->K (.tup []) g') (finE:∀g',E g'->K (.tup []) g') :
  wp C0 d none aG.code (fnQ C0 d aG.res K) (bh 0 [.yld id,.tptr t1 4 [[Uk n.grain,b,fl,S_]] 0 0,.tptr t2 1 [[w]] 0 0] .nil) [] g0:=by
 obtain⟨b',fl',S',e1,hN,hp,hS⟩:=wP.1 hcs;injection e1 with e1 X;injection X with X Y;injection Y with Y Z;injection Z with Z e5;subst X;subst Y;subst Z;have hN:SlR NoP ky .nil n.nodes b:=by rw[<-hq.net];exact hN
 have ht:=hr.l2;have hs:=hr.l1;obtain⟨W1,W2,W3⟩:=hr.wl;have q:=λc hc=>(hr.cs c hc).1;have nl:=hN.len;have hcl:=aP n;obtain⟨Qf,L⟩:∃Qf,Qf=fnQ C0 d aG.res K:=⟨_,rfl⟩;rw[<-L];simp only[sz,simprocAttr,aG,uQ,kU,nl];refine uZ (b:=g0.nx) (n:=n.nodes.length) (by unfold aQ;omega) (by unfold aQ;omega) (Qv _) λu g1 hu n1 fr1 v1=>?_;simp only[sz,simprocAttr];have h9:∀(g:G) (l:List Int),l.length=n.nodes.length->Own g g0.nx u 1 (l.map ci)->∀g2:G,gz .slice u g2=.val (Uk (n.nodes.length:Int)):=λg l hl ho g2=>by rw[dG ho.rows];simp[hl]
 obtain⟨INV,p⟩:∃INV:Nat->PT,INV=(λm t df g=>df=[]/\∃(j:Nat) (vs:List Int),m=S.Pn n - j/\j<S.Pn n/\InC (S.O2 n) vs/\S.O5 (S.O2 n) vs=(j:Int)/\St t (LM id n.grain b fl S_ w u j t1 t2)/\Own g g0.nx u 1 (vs.map ci)/\J j g.h/\g0.nx<=g.nx):=⟨_,rfl⟩;refine rZ INV (S.Pn n) ?_ ?_
 ·rw[p];exact⟨rfl,0,List.replicate n.nodes.length 0,rfl,by omega,by rw[<-hcl];exact Ls q,by rw[zb];rfl,by simp[St,LM,sx],by simpa [ci] using hu,hJ 0 _ _ (λi hi=>fr1 i hi) h0,by omega⟩
 intro m t df g hI;have P:=hI;rw[p]at P;obtain⟨rfl,j,vs,rfl,hj,f,A,⟨h0,h1,h2,h4,h5,-⟩,ho,s,O⟩:=P;clear hI;have V:=f.len;rw[aP]at V;have o:S.O7 (S.O2 n) (j:Int)=vs:=by rw[<-A];exact F9 q f
 have W:vid u=some g0.nx:=v1;have hsl:SlR (λi=>g0.nx<=i/\i<g.nx) 0 g.h vs u:=Own.sl (α:=Int) ho (by omega) (O2 (λa=>aI.2 rfl) _) λi hi=>ho.lt hi;have z:=Fq (d:=d) (g:=g) (v:=u) (w:=w) (vals:=vs) (e:=e) hd hsl (hw.tree (h':=g.h) (Qv _)) (by omega);have h8:=h9 g vs V ho;have w1:IntKind.wrap .i64 ((n.nodes.length:Int) - 1)=(n.nodes.length:Int) - 1:=aA (by omega) (by omega);obtain⟨R,hR⟩:∃R,R=sQ [oM 28 4,oN 29 28,TF 30 .sub 29 1,oM 6 30] (Uj (.blk 2 (.loop bo)) bp):=⟨_,rfl⟩;simp only[dl];rw[<-hR,dW,Ga];obtain⟨Q1,F⟩:∃Q1,Q1=kB 1 (kS (wp C0 d none bQ (kL INV (S.Pn n - j) (kB 0 Qf))) (kL INV (S.Pn n - j) (kB 0 Qf))):=⟨_,rfl⟩;rw[<-F];have rest:∀(t:T) (g:G),St t (LM id n.grain b fl S_ w u j t1 t2)->Own g g0.nx u 1 (vs.map ci)->J (j+1) g.h->g0.nx<=g.nx->wp C0 d none R Q1 t [] g:=by
  rintro t g ⟨h0,h1,h2,h4,h5,-⟩ ho s O;rw[hR,F];simp only[sz,simprocAttr,h4,h8,w1];refine In (t1:=t1) (t2:=t2) (id:=id) (k:=j) (m:=n.nodes.length) (n:=n) (b:=b) (fl:=fl) (S_:=S_) (w:=w) (u:=u) (vs:=vs) (g0:=g0) hr hN f (Qv _) ⟨by simp[sx],by simp[St,LM,sx,h0,h1,h2,h4,h5],?_,λi c hi hc=>?_⟩ ?_
  ·rw[RE (by omega),show vs.length - n.nodes.length=0 by omega];simpa using ho
  ·have:=(Qt.1 hc).1;omega
  rintro m' t2 g2 hv ⟨h6,⟨h0,h1,h2,h4,h5,-⟩,U,Q⟩ k1 h3 M;have C:J (j+1) g2.h:=hJ _ _ _ (λi hi=>h3 i λe=>by rw[W]at e;injection e with e;omega) s;rcases M with rfl|⟨x,c,hx,hc,hg,hy⟩
  ·have N:j+1=S.Pn n:=by have:=B5 (cs:=S.O2 n) (vs:=vs) f.len.symm λi c hc=>Q i c (Rf _) hc;omega
   have c1:(((0:Nat):Int) - 1<0):=by omega
   rw[L];simp only[sz,simprocAttr,bp,aG,h6];rw[N]at C;exact fin g2 C (by omega)
  ·obtain⟨i,rfl⟩:∃i,m'=i+1:=⟨m' - 1,by omega⟩;rw[Nat.add_sub_cancel]at hx hc;have h7:=(Qt.1 hx).1;have e1:((i+1:Nat):Int) - 1=(i:Int):=by omega
   rw[e1]at h6;have c1:¬((i:Int)<0):=by omega
   have u1:i<((vs.take (i+1)++List.replicate (vs.length - (i+1)) 0).map ci).length:=by simp;omega
   have u2:((vs.take (i+1)++List.replicate (vs.length - (i+1)) 0).map ci)[i]?=some (ci x):=by rw[Qx,QE (by simp;omega),Ra (by omega),hx];rfl
   have ru:=U.rows;obtain⟨x',hb,he,hf⟩:=f.get hc;rw[GI hb hx]at he hf;have hn:=hr.cs c (Qz hc);have w2:IntKind.wrap .i64 (x+1)=x+1:=aA (by omega) (by omega);simp only[sz,simprocAttr,bp,h6,c1,h4,ru,u1,u2,ci,w2];refine ck (v:=u) (sz:=1) (n:=1) (i:=i) (off:=0) (x:=Uk (x+1)) (row':=ci (x+1)) U u2 rfl rfl rfl λg4 hu4 n4 f4=>?_;rw[<-RD,CI h7]at hu4;have B:=Kn f q hx hc hg;have r:=J1 (cs:=S.O2 n) (vs:=vs) f.len.symm hx λk c hk hc=>Q k c (by omega) hc;rw[A]at r;have hh:=d9 hr.cs B;have w3:IntKind.wrap .i64 ((j:Int)+1)=((j+1:Nat):Int):=by rw[aA (by omega) (by omega)];rfl
   simp only[sz,simprocAttr,bQ,h5,w3];refine⟨S.Pn n - (j+1),by omega,?_⟩;rw[p];refine⟨rfl,j+1,_,rfl,by omega,B,by rw[r];rfl,by simp[St,LM,sx,h0,h1,h2,h4],hu4,hJ _ _ _ (λi hi=>f4 i λe=>by rw[W]at e;injection e with e;omega) C,by omega⟩
 cases hm:S.jm vs e with
 | false =>
  rw[hm]at z;rw[dW];simp only[sz,simprocAttr,h4,h2,kU,z];exact rest _ _ (by simp[St,LM,sx,h0,h1,h2,h4,h5]) ho (skip j _ hj (by rw[o];exact hm) s) O
 | true =>
  rw[hm]at z;rw[dW];have ha:=IX (d:=d) (g:=g) (v:=.agg [Uk n.grain,b,fl,S_]) (w:=u) (vals:=vs) (y:=y) hd hr ⟨_,rfl,Rp.tree hcs (Qv _)⟩ hq hsl f;simp only[sz,simprocAttr,h0,h1,h5,h4,h2,kU,z,ha,NS (a:=Uk (j:Int)) (b:=Uk (S.PA n vs)) ⟨rfl,rfl⟩ ⟨rfl,rfl⟩ ho.cell];have st:=λK' D=>step j u g K' D hj (by rw[o];exact hm) O s (by rw[o];exact hsl);rw[o]at st;show (cQ (I C0) d id [.agg [Uk (j:Int),Uk (S.PA n vs),u]] g).sat _ _ _;refine st _ _ (λg' hJ' hn' hf'=>?_) λg' hE=>?_
  ·simp only[sz,simprocAttr];exact rest _ _ (by simp[St,LM,sx,h0,h1,h2,h4,h5]) (ho.fr hn' λi hi=>hf' i (ho.lt hi).1 (ho.lt hi).2) hJ' (by omega)
  ·rw[F,L];simp only[sz,simprocAttr,aG];exact finE g' hE
theorem IA{C:Cfg}{id nt:Nat}{ps:List Nat}{assign body:Code}{a b:SC}{dfr:Nat}{args:List AV}{t':T}
  (hg:g.h.get id=.loop nt t ps assign body dfr .ready none) (ha:bP C nt assign=a) (hb:bP C nt body=b) (hp:dK t nt ps args=some t')
  (h:wp C d (some id) a (λe t1 df g1=>e=.norm/\df=[]/\g1.h.get id=.loop nt t ps assign body dfr .ready none /\
   wp C d (some id) b (λe _ df g2=>df=[]/\g2.h.get id=.loop nt t ps assign body dfr .busy none/\((e=.norm/\K (.bool true) (g2.put id (.loop nt t ps assign body dfr .ready none)))\/(e=.ret/\K (.bool false) (g2.put id (.loop nt t ps assign body dfr .done (some .ret))))))
    t1 [] (g1.put id (.loop nt t ps assign body dfr .busy none))) t' [] g) :
  (cQ (I C) d id args g).sat K g D:=by
 subst ha;subst hb;unfold cQ;rw[show g.get id=_ from hg];dsimp only;rw[hp];dsimp only;have h1:=si h;cases hc:(I C).code nt d (some id) assign t' [] g with
 |fail=>rw[hc]at h1;exact h1.elim
 | ok e t1 df g1 =>
  rw[hc]at h1;obtain⟨rfl,rfl,c,h2⟩:=h1;dsimp only;rw[show g1.get id=_ from c];dsimp only;have k:=si h2;cases hc2:(I C).code nt d (some id) body t1 [] (g1.put id (.loop nt t ps assign body dfr .busy none)) with
  |fail=>rw[hc2]at k;exact k.elim
  | ok e t2 df2 g2 =>
   rw[hc2]at k;obtain⟨rfl,h4,h5⟩:=k;dsimp only;rw[show g2.get id=_ from h4];rcases h5 with⟨rfl,h5⟩|⟨rfl,h5⟩<;>exact h5
theorem Dh[XOc]:C0.ext 132=none:=by kernel_rfl
theorem Iy[XOc]{nt p r ke:Nat}{y:QnM}{cs:List AV}{ca cb:SC}{df:List ADf}(hd:0<d)(hr:NR n)(hq:QnOk n y)(hcs:Rp.rp NoP ky .nil y cs)(hw:SlR NoP ke .nil e w)(hel:e.length<=n.nodes.length)
  (hv:tat t r=.clo 132 [] [.tptr t1 4 [cs] 0 0,.tptr t2 1 [[w]] 0 0]) (hp:p<nt)
  (J:Nat->H->Prop) (E:H->Prop) (hJ:∀j h h',(∀i,i<g.nx->h'.get i=h.get i)->J j h->J j h') (hE:∀h h',(∀i,i<g.nx->h'.get i=h.get i)->E h->E h') (h0:J 0 g.h)
  (skip:∀(j:Nat) (h:H),j<S.Pn n->S.jm (S.O7 (S.O2 n) j) e=false->J j h->J (j+1) h)
  (step:∀(j:Nat) (u:AV) (g1:G),j<S.Pn n->S.jm (S.O7 (S.O2 n) j) e=true->J j g1.h->g.nx+2<=g1.nx->SlR (λi=>g.nx+2<=i/\i<g1.nx) 0 g1.h (S.O7 (S.O2 n) j) u ->
   wp C0 d (some (g.nx+1)) ca (λe t1 df g1'=>e=.norm/\df=[]/\Fr g1 g1'/\∀g2:G,g2.nx=g1'.nx->(∀i,i≠g.nx+1->g2.h.get i=g1'.h.get i) ->
    wp C0 d (some (g.nx+1)) cb (λe _ df g3=>df=[]/\RowQ g.nx g2 g3 e (J (j+1) g3.h) (E g3.h)) t1 [] g2)
    (fj t p (.agg [Uk (j:Int),Uk (S.PA n (S.O7 (S.O2 n) j)),u])) [] g1)
  (fin:∀g',J (S.Pn n) g'.h->g.nx+2<=g'.nx->g'.h.get g.nx=.dfr true->Q .norm t (.mark g.nx::df) g')
  (finE:∀g',E g'.h->g.nx+2<=g'.nx->g'.h.get g.nx=.dfr true->Q .ret t (.mark g.nx::df) g') :
  wp C0 d none (.rng nt (.t r) [p] ca cb) Q t df g:=by
 obtain⟨b,fl,S_,rfl,-,-,-⟩:=wP.1 hcs;rw[hq.net]at hv hcs;refine z_ (fn:=132) (first:=[]) (cap:=[.tptr t1 4 [[Uk n.grain,b,fl,S_]] 0 0,.tptr t2 1 [[w]] 0 0]) (s:=aG) hv Dh jN (by simp[aG]) ?_;intro assign body ha hb;have e1:((g.new (.dfr true)).new (.loop nt t [p] assign body g.nx .ready none)).nx=g.nx+2:=by simp
 refine Io (g0:=(g.new (.dfr true)).new (.loop nt t [p] assign body g.nx .ready none)) (id:=g.nx+1) hd hr hq hcs hw hel
  (λj h=>J j h/\h.get g.nx=.dfr true/\h.get (g.nx+1)=.loop nt t [p] assign body g.nx .ready none)
  (λg'=>E g'.h/\g'.h.get g.nx=.dfr true/\g'.h.get (g.nx+1)=.loop nt t [p] assign body g.nx .done (some .ret)/\g.nx+2<=g'.nx) ?_ ?_ ?_ ?_ ?_ ?_
 ·rintro j h h' f ⟨a1,a2,a3⟩;rw[e1]at f;exact⟨hJ j h h' (λi hi=>f i (by omega)) a1,by rw[f _ (by omega),a2],by rw[f _ (by omega),a3]⟩
 ·rintro j h o hm ⟨a1,a2,a3⟩;exact⟨skip j h o hm a1,a2,a3⟩
 ·rintro j u g1 K' D o hm a ⟨a1,a2,a3⟩ hsl kk kE;rw[e1]at a kk hsl;refine IA a3 ha hb (t':=fj t p (.agg [Uk (j:Int),Uk (S.PA n (S.O7 (S.O2 n) j)),u])) ?_ ?_
  ·simp only[dK,aa,Rn,QA hp];rfl
  ·refine cK _ (step j u g1 o hm a1 (by omega) hsl) ?_;rintro e t1 df g1' ⟨rfl,rfl,k,h⟩;have c:g.nx+1<g1.nx:=by omega
   have hl:g.nx+1<g1'.nx:=QV c k.1;have l:g1'.h.get g.nx=.dfr true:=by rw[k.2 _ (by omega),a2]
   have m:g1'.h.get (g.nx+1)=.loop nt t [p] assign body g.nx .ready none:=by rw[k.2 _ c,a3]
   refine⟨rfl,rfl,m,?_⟩;refine cK _ (h (g1'.put (g.nx+1) (.loop nt t [p] assign body g.nx .busy none)) (by simp) (λi hi=>by simp[O6,hi])) ?_;rintro e t2 df g3 ⟨rfl,⟨b2,b3,b1⟩⟩;have b4:g3.h.get (g.nx+1)=.loop nt t [p] assign body g.nx .busy none:=by rw[b3 _ (by omega) (by simpa using hl)];simp[O6]
   have v:g3.h.get g.nx=.dfr true:=by rw[b3 _ (by omega) (by simp;omega)];simp[O6,l]
   refine⟨rfl,b4,?_⟩;have x:g1'.nx<=g3.nx:=by simpa using b2
   have z:=k.1;rcases b1 with⟨rfl,b1⟩|⟨rfl,b1⟩
   ·refine .inl ⟨rfl,kk _ ⟨hJ _ g3.h _ (λi hi=>by simp[O6,show ¬i=g.nx+1 by omega]) b1,?_,?_⟩ (by simp;omega) λi h1 h2=>?_⟩
    ·simp[O6,v]
    ·simp[O6]
    ·have q:¬i=g.nx+1:=by omega
     have:=b3 i (by omega) (by simp;omega);simp[O6,q]at this ⊢;rw[this,k.2 i h2]
   ·refine .inr ⟨rfl,kE _ ⟨hE g3.h _ (λi hi=>by simp[O6,show ¬i=g.nx+1 by omega]) b1,?_,?_,?_⟩⟩
    ·simp[O6,v]
    ·simp[O6]
    ·simp;omega
 ·refine⟨hJ 0 g.h _ (λi hi=>?_) h0,?_,?_⟩
  ·simp[O6,show ¬i=g.nx+1 by omega,show ¬i=g.nx by omega]
  ·simp[O6]
  ·simp[O6]
 ·rintro g' ⟨a1,a2,a3⟩ a;rw[e1]at a;refine⟨_,_,_,_,_,_,.inl ⟨a3,fin _ (hJ _ g'.h _ (λi hi=>by simp[O6,show ¬i=g.nx+1 by omega]) a1) (by simpa using a) ?_⟩⟩;simp[O6,a2]
 ·rintro g' ⟨a1,a2,a3,a⟩;refine⟨_,_,_,_,_,_,.inr ⟨a3,finE _ (hE g'.h _ (λi hi=>by simp[O6,show ¬i=g.nx+1 by omega]) a1) (by simpa using a) ?_⟩⟩;simp[O6,a2]
end
theorem Jv(h:S.O8 n e=true):e.length=n.nodes.length/\∀x∈e,-1<=x:=by simp only[S.O8,Qy,QQ,QS]at h;refine⟨h.1,λx hx=>?_⟩;obtain⟨i,hi,he⟩:=RU.1 hx;have:=(h.2 i (QX.2 hi)).1;rw[Qu hi,he]at this;exact this
def S.pe(n:Net)(e:List Int)(w:Nat):Bool:=S.Pw (S.O7 (S.O2 n) (w:Int)) e
theorem Ko(n:Net)(e:List Int):S.Pi n e=S.Pe n (S.pe n e) (S.Pn n):=rfl
theorem MR(h:NR n){p:Nat->Bool}(hj:j<=1024):0<=S.Pe n p j/\S.Pe n p j<=171992678400000000:=by have:=pR h p j;omega
theorem Ox(g:G)(o o':AObj):Fr g ((g.new o).put g.nx o'):=⟨by simp,λi hi=>by simp[O6,show ¬i=g.nx by omega]⟩
theorem Ma[XOc]{y:QnM}(hd:0<d)(hr:NR n)(hm:Agg y NoP 0 g.h v)(hq:QnOk n y)(he:SlR NoP kk g.h e w)(hev:S.O8 n e=true)(hk:kk<=d:=by omega) :
  aq C0 d 68 [v,w] g=.val (Uk (S.Pi n e)):=by
 have e0:=g8 d hm;have ew:=Cw d he;obtain⟨cs,rfl,c⟩:=hm;obtain⟨b,fl,S_,rfl,-,-,-⟩:=wP.1 c;obtain⟨el,ege⟩:=Jv hev;obtain⟨W1,W2,W3⟩:=hr.wl;rw[mZ];refine eF pi (xs:=[.agg [Uk y.1.grain,b,fl,S_],w]) (by simp only[aF,e0,ew]) (by simp[ej]) hd ?_;simp only[sz,simprocAttr,ej];unfold gJ;refine fA (P:=λt' df g'=>df=[]/\g'.nx=2/\g'.h.get 0=TD 4 [[Uk y.1.grain,b,fl,S_]]/\g'.h.get 1=TD 1 [[Uk 0]]/\St t' [(1,w),(2,Ul 0),(5,Ul 1)]) ?_ ?_
 ·simp only[sz,simprocAttr];simp[St,sx]
 rintro t df g0 ⟨rfl,f2,f0,f1,h1,h2,h5,-⟩;obtain⟨cs,z,t1,t2,ez,f,hz⟩:=DS (d:=d+1) (g:=g0) (y:=y) (e:=e) (v:=.agg [Uk y.1.grain,b,fl,S_]) (w:=w) (QM d) ⟨_,rfl,Rp.tree c (Qv _)⟩ (he.tree (Qv _));rw[dW,dW];simp only[sz,simprocAttr,h1,h2,f0,ez];refine Iy (t1:=t1) (t2:=t2) (n:=n) (y:=y) (e:=e) (cs:=cs) (w:=z) (QM d) hr hq f hz (by omega) (by simp[sx]) (by decide)
  (λj h=>h.get 1=TD 1 [[Uk (S.Pe n (S.pe n e) j)]]) (λ_=>False) (λj h h' hh h1=>by rw[hh 1 (by omega),h1]) (λ_ _ _ h=>h) f1 ?_ ?_ ?_ (λ_ h=>h.elim)
 ·intro j h m k h1;have hp:S.pe n e j=false:=by rw[S.pe,<-Nd ege];exact k
  rw[h1,S.Pe,hp];simp
 ·intro j u g1 m k h1 o hu;have hp:S.pe n e j=true:=by rw[S.pe,<-Nd ege];exact k
  have hb:=MR hr (p:=S.pe n e) (j:=j+1) (by omega);have hs:S.Pe n (S.pe n e) (j+1)=S.Pe n (S.pe n e) j+S.PA n (S.O7 (S.O2 n) (j:Int)):=by rw[S.Pe,hp];simp
  have w1:IntKind.wrap .i64 (S.Pe n (S.pe n e) j+S.PA n (S.O7 (S.O2 n) (j:Int)))=S.Pe n (S.pe n e) (j+1):=by rw[<-hs,aA (by omega) (by omega)]
  simp only[sz,simprocAttr,fP];refine⟨Ox _ _ _,?_⟩;intro g2 n2 a;have r:g2.h.get g1.nx=TD 3 [[Uk (j:Int),Uk (S.PA n (S.O7 (S.O2 n) (j:Int))),u]]:=by rw[a _ (by omega),QA rfl]
  have q:g2.h.get 1=TD 1 [[Uk (S.Pe n (S.pe n e) j)]]:=by rw[a 1 (by omega),Qw (by omega),Qw (by omega),h1]
  simp only[sz,simprocAttr,fQ,h5,q,r,w1];exact⟨by simp,λi h1 h2=>by simp[O6,show ¬i=1 by omega],.inl ⟨rfl,by simp[O6]⟩⟩
 ·intro g' h1 o l;simp only[sz,simprocAttr,fR,h5,h1];refine su l ?_;simp only[sx,↓reduceIte];rw[Ko]
theorem KS(hl:SlR NoP k .nil l v):Rp.rp (λ_=>True) k h l [v]:=by obtain⟨w,hw,q⟩:=Rp.tree (P:=λ_=>True) (k':=k) (h':=h) (show Rp.rp NoP k .nil l [v] from ⟨v,rfl,hl⟩) (Qv _);exact⟨w,hw,q⟩
theorem OY{a:List Int}{va:AV}(ha:SlR NoP k .nil a va)(hq:h.get q=TD 1 [[va]]):SlR (λ_=>True) k h [a] (.hsl q 0 0 1 none):=by refine⟨by show 1<_;decide,trivial,[[va]],?_,KS ha,trivial⟩;show af h 1 _=_;simp only[af,hq];rfl
theorem EO{ls:List (List Int)}(hv:Lt n ls P k h v) :
  ∃y cs,v=.tup [.agg cs,Uk (S.PO n ls)]/\(S.PO n ls=0->QnOk n y)/\Rp.rp P k h y cs/\∃a1 a2 a3 a4,cs=[a1,a2,a3,a4]:=by
 obtain⟨y,b,a,c,rfl,⟨cs,rfl,hc⟩,hi⟩:=hv;have hi:=aI.1 hi;injection hi with hi;subst hi;obtain⟨a2,a3,a4,rfl,-⟩:=wP.1 hc;exact⟨y,_,rfl,b,hc,_,_,_,_,rfl⟩
theorem Eo(n:Net)(e:List Int):S.PO n [e]=S.Pf n e:=by rw[S.PO,S.Pf];simp
theorem mU:S.Pf n e=0↔S.O_ n=true/\S.O8 n e=true:=by rw[S.Pf];cases S.O_ n<;>cases S.O8 n e<;>simp
def S.P7(n:Net)(e:List Int):Int:=if S.Pf n e=0 then S.Pi n e else 0
theorem DE[XOc]{k0:Nat}{w0:AV}(hd:0<d)(hm:Agg n NoP 0 g.h v)(he:SlR P k0 g.h e w0)(hk:k0<=d:=by omega) :
  aq C0 d 78 [v,w0] g=.val (.tup [Uk (S.P7 n e),Uk (S.Pf n e)]):=by
 have key:∃r,aq C0 d 78 [v,w0] g=.val r/\yf (One (S.P7 n e)) (One (S.Pf n e)) NoP 0 .nil r:=by
  obtain⟨b,rows,rfl,e1,f,hN,l,o,p,q⟩:=cy d hm;obtain⟨w,ew,hw⟩:=bE he d;rw[Nat.max_eq_right hk]at hw;have hw:=hw .nil;rw[wV];refine bj Al (xs:=[.agg [Uk n.grain,b],w]) (by simp only[aF,e1,ew]) (by simp[po]) (iE (m:=1) (aU _) (aU _) (by decide) (by decide)) (by decide) hd ?_;simp only[sz,simprocAttr,po,qR,hw.cell.1,hw.cell.2];refine bF (NA (n:=n) (ls:=[e]) (QM d) (f _) (OY hw (by simp[sx]))) λz hz=>?_;obtain⟨y,cs,rfl,j,hc,a1,a2,a3,a4,rfl⟩:=EO hz;rw[Eo]at j ⊢
  by_cases h0:S.Pf n e=0
  ·have i:=j h0;obtain⟨h1,h2⟩:=mU.1 h0;have hr:=cp.1 h1;have k:S.P7 n e=S.Pi n e:=by rw[S.P7,QA h0]
   simp only[sz,simprocAttr,h0];rw[Ma (y:=y) (n:=n) (e:=e) (QM d) hr ⟨_,rfl,Rp.tree hc (Qv _)⟩ i (hw.tree (Qv _)) h2];simp only[sz,simprocAttr];rw[k];exact⟨λ_=>True,_,_,rfl,aI.2 rfl,aI.2 rfl⟩
  ·have k:S.P7 n e=0:=by rw[S.P7,Qw h0]
   simp only[sz,simprocAttr,h0];rw[k];exact⟨λ_=>True,_,_,rfl,aI.2 rfl,aI.2 rfl⟩
 obtain⟨r,hr,a,c,rfl,ha,hc⟩:=key;have ha:=aI.1 ha;have hc:=aI.1 hc;injection ha with ha;injection hc with hc;rw[hr,ha,hc]
def S.kn(e:List Int):Nat->Nat
 |0=>0
 |k+1=>if 0<=e[k]?.getD 0 then S.kn e k ||| 2 ^ k else S.kn e k
theorem Fl(e:List Int)(i:Nat):∀k,(S.kn e k).testBit i=(decide (i<k)&&decide (0<=e[i]?.getD 0))
 |0=>by simp[S.kn]
 | k+1=>by
  have ih:=Fl e i k;rw[S.kn]
  by_cases e1:i=k
  ·subst e1
   by_cases h:0<=e[i]?.getD 0
   ·rw[QA h,Nat.testBit_or,Nat.testBit_two_pow_self];simp[h]
   ·rw[Qw h,ih];simp[h]
  ·have a:decide (i<k+1)=decide (i<k):=decide_eq_decide.2 (by omega)
   by_cases h:0<=e[k]?.getD 0
   ·rw[QA h,Nat.testBit_or,ih,a,Nat.testBit_two_pow_of_ne (by omega),Bool.or_false]
   ·rw[Qw h,ih,a]
theorem Ng(e:List Int):∀k,S.kn e k<2 ^ k
 |0=>by simp[S.kn]
 | k+1=>by
  have ih:=Ng e k;rw[S.kn]
  split
  ·exact Te (QV ih (Th (by decide) (by omega))) (Nat.pow_lt_pow_right (by decide) (by omega))
  ·exact QV ih (Th (by decide) (by omega))
def S.Pd(e:List Int)(s:Nat):List Int:=(List.range e.length).map λi=>if s.testBit i then e[i]?.getD 0 else -1
theorem jn(e:List Int)(s:Nat):(S.Pd e s).length=e.length:=by simp[S.Pd]
theorem xR(e:List Int)(s i:Nat)(hi:i<e.length):(S.Pd e s)[i]?=some (if s.testBit i then e[i]?.getD 0 else -1):=by simp[S.Pd,hi]
theorem Mn{s:Nat}(he:∀x∈e,-1<=x)(hs:∀i,i<e.length->s.testBit i=decide (0<=e[i]?.getD 0)):S.Pd e s=e:=by
 refine List.ext_getElem? λi=>?_
 by_cases hi:i<e.length
 ·rw[xR e s i hi,hs i hi,Qu hi,QC];have:=he e[i] (RZ hi)
  by_cases h:0<=e[i]
  ·simp[h]
  ·simp[h];omega
 ·rw[Sq (by rw[jn];omega),Sq (by omega)]
theorem cU:S.O8 n e=true↔e.length=n.nodes.length/\∀i,i<e.length->-1<=e[i]?.getD 0/\e[i]?.getD 0<(S.O2 n)[i]?.getD 0:=by unfold S.O8;simp only[Qy,QQ,QS,QX]
theorem Jx{v:Nat}{x:Int}(h:S.O8 n e=true)(h0:-1<=x)(h1:x<(S.O2 n)[v]?.getD 0):S.O8 n (e.set v x)=true:=by
 obtain⟨hl,he⟩:=cU.1 h;refine cU.2 ⟨by rw[Sl];exact hl,λi hi=>?_⟩;rw[Sl]at hi;rw[Ru]
 by_cases e1:v=i
 ·subst e1;rw[QA rfl,QA hi,QC];exact⟨h0,h1⟩
 ·rw[Qw e1];exact he i hi
theorem Jw{s:Nat}(h:S.O8 n e=true)(hc:∀i,i<e.length->0<=(S.O2 n)[i]?.getD 0):S.O8 n (S.Pd e s)=true:=by
 obtain⟨hl,he⟩:=cU.1 h;refine cU.2 ⟨by rw[jn];exact hl,λi hi=>?_⟩;rw[jn]at hi;rw[xR e s i hi,QC];have:=hc i hi
 split
 ·exact he i hi
 ·exact⟨Int.le_refl _,by omega⟩
def Up(B:Nat)(g g':G):Prop:=(∀i,i<B->g'.h.get i=g.h.get i)/\∀i∈g'.lg,i∈g.lg\/B<=i
theorem Up.trans{g1 g2:G}(h:Up B g g1)(h2:Up B g1 g2):Up B g g2:=⟨λi hi=>by rw[h2.1 i hi,h.1 i hi],λi hi=>(h2.2 i hi).elim (λh3=>h.2 i h3) .inr⟩
theorem Up.new{B:Nat}{g:G}(hb:B<=g.nx)(o:AObj):Up B g (g.new o):=⟨λi hi=>by rw[G.new_h,aE _ _ _ (by omega)],λi hi=>by simp at hi;rcases hi with rfl|hi;exact .inr hb;exact .inl hi⟩
theorem Up.put{B:Nat}{g:G}{j:Nat}(hb:B<=j)(o:AObj):Up B g (g.put j o):=⟨λi hi=>by rw[G.put_h,aE _ _ _ (by omega)],λi hi=>by simp at hi;rcases hi with rfl|hi;exact .inr hb;exact .inl hi⟩
theorem pQ{b:Nat}{sz n off:Nat}{rows:List (List AV)}{row row':List AV}{x:AV}(hv:Own g b v sz rows)(hr:rows[i]?=some row)
  (hl:x.cells.length=n) (ht:x.isTup=false) (hp:bY row off x.cells=some row')
  (k:∀g',Own g' b v sz (rows.set i row')->g'.nx=g.nx->(∀i,vid v≠some i->g'.h.get i=g.h.get i)->Up b g g'->K .undef g'):(mi n (jf sz v i off) x g).sat K g D:=by
 rcases hv with⟨rfl,rfl⟩|⟨id,ep,lo,h1,h2,rfl,a⟩
 ·simp at hr
 ·simp only[jf,Rc];rw[zU a hr rfl ht hl hp];refine k _ (.inr ⟨id,ep,lo,h1,by simpa using h2,by simp,by simp[aV]⟩) (by simp) (λi hne=>?_) (Up.put h1 _);rw[G.put_h,aE _ _ _ (λe=>hne (by rw[e];rfl))]
theorem DU{b sz bytes:Nat}{zero:List AV}{k1 k2:IntKind}{n:Nat}(hn:n<=aQ)(hb:n*bytes<=aQ)(hg:b<=g.nx)
  (k:∀v' g',Own g' b v' sz (List.replicate n zero)->g'.nx=g.nx+1->Up g.nx g g'->vid v'=some g.nx->K v' g') :
  (Fs sz bytes zero (.int k1 (n:Int)) (.int k2 (n:Int)) g).sat K g D:=by
 show (match cL aQ (.int k2 (.ofNat n)) with
  | some cn=>match cL cn (.int k1 (.ofNat n)) with
   |some ln=>ap (Nat.ble (cn*bytes) aQ) (OR.upd (.hsl g.nx 0 0 ln none) (g.new (TD sz (gc cn zero)))) .fail
   |none=>.fail
  |none=>.fail).sat K g D
 simp only[cL,aa,Q6,QA hn,Qv,QA hb,if_true];exact k _ _ (.inr ⟨g.nx,0,false,hg,by simp,by simp,by simp[aV,gc]⟩) (by simp) (Up.new (Qv _) _) rfl
structure Ug (g g':G):Prop where
 nx:g.nx<=g'.nx
 up:Up g.nx g g'
theorem gF{x y:Foot}(hx:x.wr=[])(hb:x.lk.big=false)(hs:x.lk.sr=[])(h:∀i∈y.wr,i ∉ x.lk.rd):bM x y=true:=by
 have k:meets y.wr []=false:=by simp[meets]
 have a:meets y.wr x.lk.rd=false:=by simp only[meets,List.any_eq_false];intro i hi hc;exact h i hi (Sp.1 hc)
 simp only[bM,iz,fD,hx,hb,hs,k,a,fst1,Rh,ST,S0,Tx,RS]
 split<;>rfl
theorem lf{x y:Foot}(hy:y.wr=[])(hb:y.lk.big=false)(hs:y.lk.sr=[])(h:∀i∈x.wr,i ∉ y.lk.rd):bM x y=true:=by
 have k:meets x.wr []=false:=by simp[meets]
 have a:meets x.wr y.lk.rd=false:=by simp only[meets,List.any_eq_false];intro i hi hc;exact h i hi (Sp.1 hc)
 simp only[bM,iz,fD,hy,hb,hs,k,a,fst1,Rh,ST,S0,Tx,RS]
 split<;>rfl
theorem pE(hj:j<=64):S.kn e j<18446744073709551616:=QV (Ng e j) (Th (by decide) hj)
theorem GU{y:Int}(hj:j<64)(hy:e[j]?=some y):S.kn e (j+1)=if 0<=y then S.kn e j ||| S.Ph j else S.kn e j:=by rw[S.kn,hy,QC,Jb hj]
theorem N7[XOc](hd:0<d)(he:SlR P k g.h e v)(hl:e.length<=64):aq C0 d 43 [v] g=.val (Um (S.kn e e.length:Int)):=by
 obtain⟨v',e1,b⟩:=bE he d;have n2:=λg=>(b .nil).len g;have rb:=λh=>(b h).ints;rw[vQ];refine eF yW (xs:=[v']) (by simp only[aF,e1]) (by simp[nA]) hd ?_;simp only[sz,simprocAttr,nA,oE,oG];refine be e.length (by omega) (λj t df g=>df=[]/\St t [(0,v'),(3,Um (S.kn e j:Int))]) ⟨rfl,by simp[St,sx,S.kn]⟩ (by simp[sx]) (by decide)
  (by rintro j t df g v s (rfl|rfl|rfl)<;>simp[St,sx]) ?_ ?_ ?_
 ·rintro j t df g f ⟨rfl,h0,a,-⟩ h4;simp only[sz,simprocAttr,h0,a,h4,n2,St]
 ·rintro j t df g f ⟨rfl,h0,a,-⟩ h4;obtain⟨y,l,-,-⟩:=ae f;have m:j<(e.map ci).length:=by simpa using f
  have n:(e.map ci)[j]?=some (ci y):=by rw[Qx,l];rfl
  have w1:IntKind.wrap .u64 (j:Int)=(j:Int):=jp (by omega) (by omega);have i:=vH (S.kn e j) (S.Ph j) (pE (by omega)) (mX j);have hk:=GU (by omega) l
  by_cases c:0<=y
  ·rw[QA c]at hk;simp only[sz,simprocAttr,h0,a,h4,rb,m,n,ci,c,w1,eK,i];simp[St,sx,h0,h4,hk]
  ·rw[Qw c]at hk;simp only[sz,simprocAttr,h0,a,h4,rb,m,n,ci,c];simp[St,sx,h0,a,h4,hk]
 ·rintro t df g ⟨rfl,h0,a,-⟩;simp only[sz,simprocAttr,oH,a]
theorem Mx[XOc]{s:Nat}(hd:0<d)(he:SlR P k g.h e v)(hl:e.length<=1000)(hs:s<18446744073709551616) :
  ∃r,aq C0 d 62 [v,Um (s:Int)] g=.val r/\IT 0 (S.Pd e s) r:=by
 obtain⟨v',e1,f⟩:=bE he d;have n2:=λg=>(f .nil).len g;have rb:=λh=>(f h).ints;rw[w_];refine bj Ar (xs:=[v',Um (s:Int)]) (by simp only[aF,e1,bJ]) (by simp[pz]) (aU _) (by decide) hd ?_;simp only[sz,simprocAttr,pz,qj,qk];have m:=jn e s;refine be e.length (by omega) (λj t df g=>df=[]/\St t [(0,v'),(1,Um (s:Int))]/\∃u,tat t 5=u/\Own g 0 u 1 (((S.Pd e s).take j).map ci)) ⟨rfl,by simp[St,sx],_,rfl,.inl ⟨by simp[sx],rfl⟩⟩ (by simp[sx]) (by decide)
  (by rintro j t df g v s (rfl|rfl|rfl)<;>simp[St,sx]) ?_ ?_ ?_
 ·rintro j t df g i ⟨rfl,⟨h0,h1,-⟩,u,h5,hu⟩ b;simp only[sz,simprocAttr,h0,h1,b,n2,St];exact⟨u,h5,hu⟩
 ·rintro j t df g i ⟨rfl,⟨h0,h1,-⟩,u,h5,hu⟩ b;obtain⟨y,n,-,-⟩:=ae i;obtain⟨z,hz,ht,-⟩:=ae (l:=S.Pd e s) (j:=j) (by omega);have a:=xR e s j i;rw[hz,n,QC]at a;injection a with a;have o:j<(e.map ci).length:=by simpa using i
  have p:(e.map ci)[j]?=some (ci y):=by rw[Qx,n];rfl
  have ki:=λg:G=>J3 (d:=d+1) (g:=g) (s:=s) (v:=j) (by omega) hs (by omega)
  by_cases c:s.testBit j=true
  ·rw[QA c]at a;subst a;have c':S.Pq s j=true:=by rw[kC,c]
   simp only[sz,simprocAttr,h0,h1,h5,b,rb,o,p,ci,ki,c'];refine bD (new:=[ci z]) (hu.step (Fr.new _ _)) (by simp[sx,sy,ci]) (by simp) (by simp[aQ];omega) λv2 g2 hv2 n2 f2 _ l2=>?_;simp only[sz,simprocAttr];refine⟨⟨by simp[St,sx,h0,h1],_,rfl,?_⟩,by simp[sx,b]⟩;rw[ht];simpa [ci] using hv2
  ·rw[Qw c]at a;subst a;have c':S.Pq s j=false:=by rw[kC];simpa using c
   simp only[sz,simprocAttr,h0,h1,h5,b,ki,c'];refine bD (new:=[ci (-1)]) (hu.step (Fr.new _ _)) (by simp[sx,sy,ci]) (by simp) (by simp[aQ];omega) λv2 g2 hv2 n2 f2 _ l2=>?_;simp only[sz,simprocAttr];refine⟨⟨by simp[St,sx,h0,h1],_,rfl,?_⟩,by simp[sx,b]⟩;rw[ht];simpa [ci] using hv2
 ·rintro t df g ⟨rfl,-,u,h5,hu⟩;rw[<-m,Q4]at hu;simp only[sz,simprocAttr,ql,h5];exact⟨_,hu.ints (by omega)⟩
theorem rR[XOc]{v:Nat}{x:Int}(hd:0<d)(he:SlR P k g.h e w)(hl:e.length<=1000)(hv:v<e.length) :
  ∃r,aq C0 d 33 [w,Uk (v:Int),Uk x] g=.val r/\IT 0 (e.set v x) r:=by
 obtain⟨w',e1,c⟩:=bE he d;have rb:=λh=>(c h).ints;rw[xe];refine bj Au (xs:=[w',Uk (v:Int),Uk x]) (by simp only[aF,e1,bJ]) (by simp[pB]) (aU _) (by decide) hd ?_;simp only[sz,simprocAttr,pB];refine bD (b:=0) (rows:=[]) (new:=e.map ci) (.inr ⟨_,0,false,Rf _,?_,rfl,?_⟩) (rb _) (Rf _) (by simp[aQ];omega) λv2 g2 hv2 n2 f2 _ l2=>?_
 ·simp[sx]
 ·simp[O6,sx]
 have a:Own g2 0 v2 1 (e.map ci):=by simpa using hv2
 obtain⟨y,f⟩:∃y,e[v]?=some y:=⟨_,Qu hv⟩;have j:v<(e.map ci).length:=by simpa using hv
 have l:(e.map ci)[v]?=some (ci y):=by rw[Qx,f];rfl
 simp only[sz,simprocAttr,a.rows,j];refine ck (v:=v2) (sz:=1) (n:=1) (i:=v) (off:=0) (x:=Uk x) (row':=ci x) a l rfl rfl rfl λg4 hu4 n4 f4=>?_;simp only[sz,simprocAttr];rw[show (e.map ci).set v (ci x)=(e.set v x).map ci by rw[RD]]at hu4;exact⟨_,hu4.ints (by rw[Sl];omega)⟩
end
end Hx
section
namespace Hx
def S.Pl(x y:Int):Int:=if y<x then 1 else if x<y then -1 else 0
def S.P8(B a b:Int):List Int :=
 let p00:=(a % B)*(b % B);let p01:=(a % B)*(b / B);let p10:=(a / B)*(b % B);let p11:=(a / B)*(b / B)
 let o0:=p00 % B;let o1:=p00 / B+p01 % B+p10 % B;let o2:=p01 / B+p10 / B+p11 % B;let o3:=p11 / B
 let o1':=o1+o0 / B;let o2':=o2+o1' / B;let o3':=o3+o2' / B
 [o0 % B,o1' % B,o2' % B,o3' % B,o3' / B]
def S.Qc(B:Int):List Int->Int
 |[]=>0
 |x::l=>x+B*S.Qc B l
theorem Gy{B a b:Int}(hB:0<B):S.Qc B (S.P8 B a b)=a*b:=by
 have d:=λx:Int=>Int.emod_add_mul_ediv x B;simp only[S.P8,S.Qc];generalize ha0:a % B=a0;generalize ha1:a / B=a1;generalize hb0:b % B=b0;generalize hb1:b / B=b1;have ea:a=a0+B*a1:=by rw[<-ha0,<-ha1,d]
 have eb:b=b0+B*b1:=by rw[<-hb0,<-hb1,d]
 generalize hp0:a0*b0=p0;generalize hp1:a0*b1=p1;generalize hp2:a1*b0=p2;generalize hp3:a1*b1=p3;have e0:=d p0;have e1:=d p1;have h:=d p2;have k:=d p3;have z:p0 % B % B=p0 % B:=Int.emod_emod_of_dvd _ (Int.dvd_refl _);have e:p0 % B / B=0:=Int.ediv_eq_zero_of_lt (SJ _ (by omega)) (Sr _ hB);rw[z,e,Int.add_zero];generalize p0 % B=r0 at *;generalize p0 / B=q0 at *;generalize p1 % B=r1 at *;generalize p1 / B=q1 at *;generalize p2 % B=r2 at *;generalize p2 / B=q2 at *;generalize p3 % B=r3 at *;generalize p3 / B=q3 at *;have f1:=d (q0+r1+r2);generalize (q0+r1+r2) % B=s1 at *;generalize (q0+r1+r2) / B=c1 at *;have f2:=d (q1+q2+r3+c1);generalize (q1+q2+r3+c1) % B=s2 at *;generalize (q1+q2+r3+c1) / B=c2 at *;have c:=d (q3+c2);generalize (q3+c2) % B=s3 at *;generalize (q3+c2) / B=c3 at *;have key:a*b=p0+B*p1+B*p2+B*(B*p3):=by rw[ea,eb,<-hp0,<-hp1,<-hp2,<-hp3,Tv,Tw,Tw];simp only[Int.mul_left_comm,Int.mul_comm,Int.add_assoc]
 rw[key,<-e0,<-e1,<-h,<-k];have g1:B*(q0+r1+r2)=B*(s1+B*c1):=by rw[f1]
 have g2:B*(B*(q1+q2+r3+c1))=B*(B*(s2+B*c2)):=by rw[f2]
 have g3:B*(B*(B*(q3+c2)))=B*(B*(B*(s3+B*c3))):=by rw[c]
 simp only[Tw,Int.mul_zero,Int.add_zero]at g1 g2 g3 ⊢;omega
theorem uG{B a b:Int}(hB:0<B):∃d0 d1 d2 d3 d4,S.P8 B a b=[d0,d1,d2,d3,d4]/\(0<=d0/\d0<B)/\(0<=d1/\d1<B)/\(0<=d2/\d2<B)/\(0<=d3/\d3<B):=by have h:=λx:Int=>(⟨SJ x (by omega),Sr x hB⟩:0<=x % B/\x % B<B);exact⟨_,_,_,_,_,rfl,h _,h _,h _,h _⟩
def S.PJ:List Int->List Int->Int
 |[],_=>0
 |_::_,[]=>0
 |x::l,y::m=>if S.PJ l m=0 then S.Pl x y else S.PJ l m
theorem rU{B x y u v:Int}(hB:0<B)(hx:0<=x/\x<B)(hy:0<=y/\y<B):S.Pl (x+B*u) (y+B*v)=if S.Pl u v=0 then S.Pl x y else S.Pl u v:=by
 unfold S.Pl;rcases Int.lt_trichotomy u v with h|h|h
 ·have h1:B*(u+1)<=B*v:=Sx (by omega) (by omega);rw[Tw,Int.mul_one]at h1;rw[Qw (by omega),QA (by omega),Qw (show ¬v<u by omega),QA h,Qw (by decide)]
 ·subst h;rw[Qw (show ¬u<u by omega),Qw (show ¬u<u by omega),QA rfl]
  by_cases h1:y<x
  ·rw[QA (by omega),QA h1]
  ·by_cases h2:x<y
   ·rw[Qw (by omega),QA (by omega),Qw h1,QA h2]
   ·rw[Qw (by omega),Qw (by omega),Qw h1,Qw h2]
 ·have h1:B*(v+1)<=B*u:=Sx (by omega) (by omega);rw[Tw,Int.mul_one]at h1;rw[QA (by omega),QA h,Qw (by decide)]
theorem Jl{B:Int}(hB:0<B){a0 a1 a2 a3 a4 b0 b1 b2 b3 b4:Int}(h0:0<=a0/\a0<B)(h1:0<=a1/\a1<B)(h2:0<=a2/\a2<B)(h3:0<=a3/\a3<B)(k0:0<=b0/\b0<B)(k1:0<=b1/\b1<B)(k2:0<=b2/\b2<B)(k3:0<=b3/\b3<B) :
  S.PJ [a0,a1,a2,a3,a4] [b0,b1,b2,b3,b4]=S.Pl (S.Qc B [a0,a1,a2,a3,a4]) (S.Qc B [b0,b1,b2,b3,b4]):=by
 simp only[S.PJ,S.Qc,Int.mul_zero,Int.add_zero,if_true];rw[rU hB h0 k0,rU hB h1 k1,rU hB h2 k2,rU hB h3 k3]
theorem LK{B a x b y:Int}(hB:0<B):S.PJ (S.P8 B a x) (S.P8 B b y)=S.Pl (a*x) (b*y):=by obtain⟨a0,a1,a2,a3,a4,e,h0,h1,h2,h⟩:=uG (a:=a) (b:=x) hB;obtain⟨b0,b1,b2,b3,b4,e',k,c,k2,d⟩:=uG (a:=b) (b:=y) hB;have v:=Gy (a:=a) (b:=x) hB;have v':=Gy (a:=b) (b:=y) hB;rw[e]at v ⊢;rw[e']at v' ⊢;rw[Jl hB h0 h1 h2 h k c k2 d,v,v']
theorem IY{W h l i m:Int}(hW:0<W)(hl:0<=l/\l<W)(hm:0<=m/\m<W) :
  (if i<h\/(h=i/\m<l) then 1 else if h<i\/l<m then -1 else 0:Int)=S.Pl (l+W*h) (m+W*i):=by
 rw[rU hW hl hm];unfold S.Pl
 by_cases c1:i<h
 ·rw[QA (.inl c1),QA c1,Qw (by decide)]
 ·by_cases c2:h<i
  ·rw[Qw (by omega),QA (.inl c2),Qw c1,QA c2,Qw (by decide)]
  ·have e:h=i:=by omega
   subst e;rw[Qw (show ¬h<h by omega),Qw (show ¬h<h by omega),QA rfl]
   by_cases c3:m<l
   ·rw[QA (.inr ⟨rfl,c3⟩),QA c3]
   ·by_cases c4:l<m
    ·rw[Qw (by omega),QA (.inr c4),Qw c3,QA c4]
    ·rw[Qw (by omega),Qw (by omega),Qw c3,Qw c4]
end Hx
end
namespace Hx
open Go
noncomputable section
variable {g g0:G}{d k i j m q B kk ky:Nat}{v w b u S_ fl:AV}{n:Net}{e l ps vals vs:List Int}{t:T}{P:Nat->Prop}{Q:QT}{x:Node}{h:H}{K:AV->G->Prop}{p gr:Int}{D:ADf->Prop}
end
end Hx
