/- A part of the proof: what the functions of the chapter compute. -/
import Derived.Test.YteaikmdilmfbeaaGreatHx12
set_option linter.all false
set_option maxRecDepth 20000
set_option maxHeartbeats 8000000
namespace Hx
open Go
noncomputable section
variable {g:G}{n:Net}{v w:AV}{d k i A b:Nat}{l vals ps:List Int}{x:Node}{P:Nat->Prop}{t:T}{Q:QT}{h:H}{K:AV->G->Prop}
section
variable {p:List Nat}
theorem CO:Jj p 0:=⟨λv _ hb=>by simp at hb,λv _ hb=>by simp at hb⟩
theorem Fm{q:Nat}(ih:Jj p q){j:Nat}(hj:j<64)(hd:Sub (Par p j) q):Jj p (q ||| S.Sn j):=by
 refine⟨λv hv hb=>?_,λv hv hb=>?_⟩
 ·intro u hu;rw[tQ,zN hj,UB,T9]at hb;rw[tQ,UB];rcases hb with hb|hb
  ·exact .inl (ih.1 v hv hb u hu)
  ·subst hb;exact .inl (hd u hu)
 ·rw[tQ,zN hj,UB,T9]at hb;cases hq:q.testBit v
  ·rw[hq]at hb;simp at hb;subst hb;rw[<-Vh];intro hu;have:=HH ih.1 hd p.length j hu;rw[hq]at this;cases this
  ·exact ih.2 v hv hq
theorem vZ{q:Nat}(h:Jj p q)(hf:∀v,v<p.length->q.testBit v=true):S.SP p=true :=
 vY.2 λv hv=>h.2 v hv (hf v hv)
theorem Dn(hp:∀x∈p,x<2 ^ p.length)(h:S.SP p=true){T:Nat}(hst:∀v,v<p.length->T.testBit v=false->¬Sub (Par p v) T):∀v,v<p.length->T.testBit v=true:=by
 rw[vY]at h;have none:∀r v,v<p.length->T.testBit v=false->S.up p (Par p v) p.length=r->False:=by
  intro r
  induction r using Nat.strongRecOn with
  | _ r ih =>
   intro v i hb hr;have d:=hst v i hb;have:∃u,(Par p v).testBit u=true/\T.testBit u=false:=by
    apply U9;intro c;apply d;intro u hu;cases hc:T.testBit u
    ·exact absurd ⟨u,hu,hc⟩ c
    ·rfl
   obtain⟨u,hu,f⟩:=this;have k:u<p.length:=NC (Hf hp) hu;have hcl:=KF hp (s:=Par p v) (Hf hp);have a:(S.up p (Par p v) p.length).testBit u=true:=zA _ u hu;have b:Sub (S.up p (Par p u) p.length) (S.up p (Par p v) p.length):=HH hcl (hcl u k a) _;have hlt:S.up p (Par p u) p.length<S.up p (Par p v) p.length:=by refine Nat.lt_of_le_of_ne (Q6 b) λe=>?_;have:=h u k;rw[e,a]at this;cases this
   exact ih _ (by omega) u k f rfl
 intro v i;cases hc:T.testBit v
 ·exact (none _ v i hc rfl).elim
 ·rfl
end
theorem kY:∀a b:List Int,S.RP (a++b)=S.RP a*S.RP b
 |[],b=>by simp[S.RP]
 |x::a,b=>by rw[T4,cm,cm,kY a b,Vz]
theorem ua:∀{a va:List Int} (b vb:List Int),a.length=va.length->S.RQ (a++b) (va++vb)=S.RQ a va*S.RP b+S.RQ b vb
 |[],[],b,vb,_=>by simp[S.RQ]
 |[],_::_,_,_,h=>by simp at h
 |_::_,[],_,_,h=>by simp at h
 | c::a,v::va,b,vb,h=>by rw[T4,T4,S.RQ,S.RQ,ua b vb (by simpa using h),kY,Wh,Vz];omega
theorem FX:∀{cs vs:List Int} (a:Int),(∀c∈cs,1<=c)->InC cs vs->S.Td cs (a*S.RP cs+S.RQ cs vs)=a
 |[],[],a,_,_=>by simp[S.Td,S.RP,S.RQ]
 |[],_::_,_,_,h=>by cases h
 |_::_,[],_,_,h=>by cases h
 | c::cs,v::vs,a,hc,h=>by
  obtain⟨⟨h1,h2⟩,h3⟩:=h;have ih:=FX (cs:=cs) (vs:=vs) (a*c+v) (λx hx=>hc x (by simp[hx])) h3;have e:a*S.RP (c::cs)+S.RQ (c::cs) (v::vs)=(a*c+v)*S.RP cs+S.RQ cs vs:=by rw[cm,S.RQ,Wh,Vz];omega
  rw[e];show S.Td cs _ / c=a;rw[ih,Int.add_comm,Int.add_mul_ediv_right _ _ (by omega),Int.ediv_eq_zero_of_lt h1 h2];omega
theorem CE:∀{cs vs:List Int} (a:Int) (i:Nat),(∀c∈cs,1<=c)->InC cs vs->i<cs.length->S.So cs (a*S.RP cs+S.RQ cs vs) i=vs[i]?.getD 0
 |[],_,_,_,_,_,hi=>by simp at hi
 |_::_,[],_,_,_,h,_=>by cases h
 | c::cs,v::vs,a,i,hc,h,hi=>by
  obtain⟨⟨h1,h2⟩,h3⟩:=h;have k:∀x∈cs,1<=x:=λx hx=>hc x (by simp[hx]);have e:a*S.RP (c::cs)+S.RQ (c::cs) (v::vs)=(a*c+v)*S.RP cs+S.RQ cs vs:=by rw[cm,S.RQ,Wh,Vz];omega
  rw[e];cases i with
  | zero =>
   show S.Td cs _ % c=v;rw[FX _ k h3,Int.add_comm,Int.add_mul_emod_self_right,WH h1 h2]
  | succ i =>
   have:=CE (a*c+v) i k h3 (by simpa using hi);simpa [S.So] using this
theorem q9{cs vs:List Int}(hc:∀c∈cs,1<=c)(h:InC cs vs):S.RT cs (S.RQ cs vs)=vs:=by
 have hl:=h.len;refine WM (by simp[S.RT,hl]) λi h1 h2=>?_;have hi:i<cs.length:=by simpa [S.RT] using h1
 have:=CE 0 i hc h hi;rw[Int.zero_mul,Int.zero_add,TH h2,TS]at this;simp[S.RT,this]
theorem eD{cs:List Int}(hc:∀c∈cs,1<=c)(h:Int):InC cs (S.RT cs h):=by refine DT (by simp[S.RT]) λi c v h1 h2=>?_;have hi:=(TJ.1 h1).1;rw[S.RT,TK,VD hi,U0,Vj]at h2;have k:=hc c (TL h1);rw[<-h2,S.So,h1,TS];exact⟨WT _ (by omega),WB _ (by omega)⟩
theorem cS(cs:List Int)(h:Int):(S.RT cs h).length=cs.length:=by simp[S.RT]
theorem co:∀{cs:List Int},(∀c∈cs,1<=c)->1<=S.RP cs
 |[],_=>by decide
 | c::cs,h=>by rw[cm];have h1:=h c (by simp);have h2:=co (cs:=cs) λx hx=>h x (by simp[hx]);exact Int.le_trans h1 (by have:=Int.mul_le_mul_of_nonneg_left h2 (show 0<=c by omega);omega)
theorem pX:∀(cs:List Int) (n:Nat),S.RQ cs (List.replicate n 0)=0
 |[],n=>by cases n<;>rfl
 |_::_,0=>rfl
 |c::cs,n+1=>by rw[UY,S.RQ,pX cs n];simp
theorem wM:∀{cs vs:List Int},cs.length=vs.length->(∀(i:Nat) (c:Int),cs[i]?=some c->vs[i]?.getD 0=c - 1)->S.RQ cs vs=S.RP cs - 1
 |[],[],_,_=>by decide
 |[],_::_,h,_=>by simp at h
 |_::_,[],h,_=>by simp at h
 | c::cs,v::vs,hl,h=>by
  have h0:=h 0 c rfl;have ih:=wM (cs:=cs) (vs:=vs) (by simpa using hl) λi x hx=>by have:=h (i+1) x (by simpa using hx);simpa using this
  simp at h0;rw[S.RQ,ih,cm,h0,Int.sub_mul];omega
theorem AJ{cs vs:List Int}(hl:cs.length=vs.length){x:Int}(hi:vs[i]?=some x)(hm:∀(j:Nat) (c:Int),i<j->cs[j]?=some c->vs[j]?.getD 0=c - 1) :
  S.RQ cs (vs.take i++(x+1)::List.replicate (vs.length - (i+1)) 0)=S.RQ cs vs+1:=by
 have h:=(TJ.1 hi).1;obtain⟨c,hc⟩:∃c,cs[i]?=some c:=⟨_,TH (by omega)⟩;have e1:cs=cs.take i++c::cs.drop (i+1):=by have:=UM (l:=cs) (i:=i) (by omega);rw[TH (by omega),Vj]at hc;rw[<-hc,<-this,UE]
 have e2:vs=vs.take i++x::vs.drop (i+1):=by have:=UM (l:=vs) (i:=i) h;rw[TH h,Vj]at hi;rw[<-hi,<-this,UE]
 have hlt:(cs.take i).length=(vs.take i).length:=by simp[hl]
 have k:S.RQ (cs.drop (i+1)) (vs.drop (i+1))=S.RP (cs.drop (i+1)) - 1:=by refine wM (by simp[hl]) λj d hj=>?_;rw[Um]at hj ⊢;exact hm _ d (by omega) hj
 have h1:S.RQ cs vs=S.RQ (cs.take i) (vs.take i)*S.RP (c::cs.drop (i+1))+(x*S.RP (cs.drop (i+1))+S.RQ (cs.drop (i+1)) (vs.drop (i+1))):=by
  conv=>lhs;rw[e1,e2,ua _ _ hlt,S.RQ]
 have h2:S.RQ cs (vs.take i++(x+1)::List.replicate (vs.length - (i+1)) 0)=S.RQ (cs.take i) (vs.take i)*S.RP (c::cs.drop (i+1))+((x+1)*S.RP (cs.drop (i+1))+0):=by
  conv=>lhs;rw[e1,ua _ _ hlt,S.RQ,pX]
 rw[h2,h1,k,Wh];omega
section
variable {k:Int}
def S.RN(n:Net):List Int:=n.nodes.map (·.card)
def S.RO(cs ps:List Int):List Int:=ps.map λp=>cs[p.toNat]?.getD 0
def S.RX(n:Net):List Nat:=n.nodes.map λx=>S.R0 x.parents
def S.Sp(gr card:Int)(r:List Int):Bool:=decide ((r.length:Int)=card)&&r.all (λx=>decide (0<=x)&&decide (x<=gr))&&decide (r.sum=gr)
def S.Tp(k:Int)(x:Node):Bool:=decide (1<=x.card)&&decide (x.card<=4)&&S.Sa x.parents k
def S.Tq(n:Net)(x:Node):Bool:=decide ((x.rows.length:Int)=S.RP (S.RO (S.RN n) x.parents))&&x.rows.all (S.Sp n.grain x.card)
def S.Sl(n:Net):Bool:=decide (1<=n.grain)&&decide (n.grain<=60)&&decide (1<=n.nodes.length)&&decide (n.nodes.length<=8)&&n.nodes.all (S.Tp n.nodes.length)&&decide (S.RP (S.RN n)<=1024)&&S.SP (S.RX n)&&n.nodes.all (S.Tq n)
structure NR (n:Net):Prop where
 g1:1<=n.grain
 g2:n.grain<=60
 l1:1<=n.nodes.length
 l2:n.nodes.length<=8
 card:∀x∈n.nodes,1<=x.card/\x.card<=4
 places:∀x∈n.nodes,S.Sa x.parents n.nodes.length=true
 worlds:S.RP (S.RN n)<=1024
 acyc:S.SP (S.RX n)=true
 rows:∀x∈n.nodes,(x.rows.length:Int)=S.RP (S.RO (S.RN n) x.parents)
 row:∀x∈n.nodes,∀r∈x.rows,(r.length:Int)=x.card/\(∀y∈r,0<=y/\y<=n.grain)/\r.sum=n.grain
theorem cA:S.Sl n=true↔NR n:=by
 simp only[S.Sl,S.Tp,S.Tq,S.Sp,TM,T9,Ue];constructor
 ·rintro⟨⟨⟨⟨⟨⟨⟨a,b⟩,c⟩,d⟩,e⟩,f⟩,g⟩,h⟩;exact⟨a,b,c,d,λx hx=>(e x hx).1,λx hx=>(e x hx).2,f,g,λx hx=>(h x hx).1,λx hx r hr=>⟨((h x hx).2 r hr).1.1,((h x hx).2 r hr).1.2,((h x hx).2 r hr).2⟩⟩
 ·rintro⟨a,b,c,d,e1,e2,f,g,h1,h2⟩;exact⟨⟨⟨⟨⟨⟨⟨a,b⟩,c⟩,d⟩,λx hx=>⟨e1 x hx,e2 x hx⟩⟩,f⟩,g⟩,λx hx=>⟨h1 x hx,λr hr=>⟨⟨(h2 x hx r hr).1,(h2 x hx r hr).2.1⟩,(h2 x hx r hr).2.2⟩⟩⟩
theorem da(h:S.Sa l k=true):∀x∈l,0<=x/\x<k:=by
 intro x hx;obtain⟨i,hi,he⟩:=Vk.1 hx;have:=Ue.1 h i (T8.2 hi);have e:l[i]?.getD 0=x:=by rw[TH hi,he];rfl
 simp only[S.SG,TM,T9,e]at this;omega
theorem vK(h:S.Sa l k=true){x y:Int}(hx:l[i]?=some x)(hy:l[i+1]?=some y):x<y:=by have hi:=(TJ.1 hy).1;have:=Ue.1 h (i+1) (T8.2 hi);simp only[S.SG,TM,T9,hy,TS,VP,hx]at this;simp at this;omega
theorem Kb(h:S.Sa l k=true):∀{i j:Nat} {x y:Int},l[i]?=some x->l[j]?=some y->i<j->x<y:=by
 intro i j
 induction j with
 |zero=>intro x y _ _ h;omega
 | succ j ih =>
  intro x y hx a b;have c:=(TJ.1 a).1;have hz:l[j]?=some l[j]:=TH (by omega);have h1:=vK h hz a
  by_cases e:i=j
  ·subst e;rw[hx]at hz;injection hz with hz;omega
  ·have:=ih hx hz (by omega);omega
theorem dy(h:S.Sa l k=true)(hk:0<=k):(l.length:Int)<=k:=by
 have key:∀(i:Nat) (x:Int),l[i]?=some x->(i:Int)<=x:=by
  intro i
  induction i with
  |zero=>intro x hx;have:=da h x (TL hx);omega
  | succ i ih =>
   intro x hx;have hi:=(TJ.1 hx).1;have h1:=ih l[i] (TH (by omega));have:=vK h (TH (show i<l.length by omega)) hx;omega
 by_cases hl:l.length=0
 ·omega
 ·have h1:=key (l.length - 1) l[l.length - 1] (TH (by omega));have h2:=da h _ (Vr (show l.length - 1<l.length by omega));omega
theorem NR.cs(h:NR n):∀c∈S.RN n,1<=c/\c<=4:=λc hc=>by obtain⟨x,hx,rfl⟩:=UF.1 hc;exact h.card x hx
theorem aB(n:Net):(S.RN n).length=n.nodes.length:=by simp[S.RN]
theorem aZ{cs:List Int}(hc:∀c∈cs,1<=c/\c<=4)(hp:∀p∈ps,0<=p/\p<cs.length):∀c∈S.RO cs ps,1<=c/\c<=4:=λc h=>by obtain⟨p,h1,rfl⟩:=UF.1 h;have h2:=hp p h1;rw[TH (by omega),TS];exact hc _ (Vr _)
theorem dx{cs:List Int}(h:InC cs vals)(hp:∀p∈ps,0<=p/\p<cs.length):InC (S.RO cs ps) (S.RO vals ps):=by refine DT (by simp[S.RO]) λi c v h1 h2=>?_;simp only[S.RO,TK,Option.map_eq_some_iff]at h1 h2;obtain⟨p,h3,rfl⟩:=h1;obtain⟨p',h4,rfl⟩:=h2;rw[h3]at h4;injection h4 with h4;subst h4;have h5:=hp p (TL h3);have h6:cs[p.toNat]?=some cs[p.toNat]:=TH (by omega);obtain⟨v,h7,h8⟩:=h.get h6;rw[h6,h7,TS,TS];exact h8
theorem cQ(cs a b:List Int):S.RO cs (a++b)=S.RO cs a++S.RO cs b:=by simp[S.RO]
def S.R2(n:Net)(vals:List Int)(v:Nat):Int:=match n.nodes[v]? with
 |none=>1
 |some x=>(x.rows[(S.RQ (S.RO (S.RN n) x.parents) (S.RO vals x.parents)).toNat]?.getD [])[(vals[v]?.getD 0).toNat]?.getD 0
def S.Sw(n:Net)(vals:List Int):Int:=S.RP ((List.range n.nodes.length).map (S.R2 n vals))
theorem NR.pin(h:NR n)(hx:x∈n.nodes):∀p∈x.parents,0<=p/\p<(S.RN n).length:=λp hp=>by rw[aB];exact da (h.places x hx) p hp
theorem wE(h:NR n)(hv:InC (S.RN n) vals){v:Nat}(hx:n.nodes[v]?=some x) :
  ∃(i:Nat) (r:List Int) (c y:Int),S.RQ (S.RO (S.RN n) x.parents) (S.RO vals x.parents)=(i:Int)/\i<x.rows.length/\x.rows[i]?=some r/\vals[v]?=some c/\0<=c/\c<x.card/\r[c.toNat]?=some y/\S.R2 n vals v=y/\0<=y/\y<=n.grain:=by
 have hm:=TL hx;have hi:=bI (aZ h.cs (h.pin hm)) (dx hv (h.pin hm));rw[<-h.rows x hm]at hi;obtain⟨i,he⟩:=TP hi.1;have k:i<x.rows.length:=by omega
 have hc:(S.RN n)[v]?=some x.card:=by simp[S.RN,hx]
 obtain⟨c,h1,h2,h3⟩:=hv.get hc;obtain⟨b,a,-⟩:=h.row x hm x.rows[i] (Vr k);have hcl:c.toNat<(x.rows[i]).length:=by omega
 refine⟨i,x.rows[i],c,(x.rows[i])[c.toNat],he,k,TH k,h1,h2,h3,TH hcl,?_,a _ (Vr hcl)⟩;simp only[S.R2,hx,he,h1,Ux,TH k,TS,TH hcl]
theorem wX:∀{l:List Int},(∀x∈l,0<=x/\x<=60)->0<=S.RP l/\S.RP l<=60 ^ l.length
 |[],_=>by decide
 | x::l,h=>by have h1:=wX (l:=l) λy hy=>h y (by simp[hy]);have h2:=h x (by simp);rw[cm,Uq,Wq,Wa x];refine⟨Vp h1.1 h2.1,Int.le_trans (Int.mul_le_mul_of_nonneg_left h2.2 h1.1) (VA h1.2 (by decide))⟩
theorem Ry{k:Nat}(h:k<=8):(60:Int) ^ k<=167961600000000:=by
 have hk:k=0\/k=1\/k=2\/k=3\/k=4\/k=5\/k=6\/k=7\/k=8:=by omega
 rcases hk with rfl|rfl|rfl|rfl|rfl|rfl|rfl|rfl|rfl<;>decide
theorem JI(h:NR n)(hv:InC (S.RN n) vals){v:Nat}(hi:v<n.nodes.length):0<=S.R2 n vals v/\S.R2 n vals v<=60:=by obtain⟨i,r,c,y,-,-,-,-,-,-,-,e,a,b⟩:=wE h hv (TH hi);have:=h.g2;omega
theorem kG(h:NR n)(hv:InC (S.RN n) vals){j:Nat}(hj:j<=n.nodes.length):0<=S.RP ((List.range j).map (S.R2 n vals))/\S.RP ((List.range j).map (S.R2 n vals))<=167961600000000:=by
 have h1:=wX (l:=(List.range j).map (S.R2 n vals)) λx hx=>by obtain⟨i,hi,rfl⟩:=UF.1 hx;exact JI h hv (by have:=T8.1 hi;omega)
 have h2:=Ry (k:=((List.range j).map (S.R2 n vals)).length) (by have:=h.l2;simp;omega);omega
theorem q_(n:Net)(vals:List Int)(j:Nat):S.RP ((List.range (j+1)).map (S.R2 n vals))=S.RP ((List.range j).map (S.R2 n vals))*S.R2 n vals j:=by rw[VL,U_,List.map_singleton,uf]
def S.RW(n:Net)(p:Nat->Bool):Nat->Int
 |0=>0
 |j+1=>S.RW n p j+if p j then S.Sw n (S.RT (S.RN n) (j:Int)) else 0
theorem oZ(h:NR n)(hv:InC (S.RN n) vals):0<=S.Sw n vals/\S.Sw n vals<=167961600000000:=kG h hv (TG _)
theorem vQ{n:Net}(h:NR n)(p:Nat->Bool):∀j:Nat,0<=S.RW n p j/\S.RW n p j<=167961600000000*j
 |0=>by simp[S.RW]
 | j+1=>by
  have ih:=vQ h p j;have hw:=oZ h (eD (λc hc=>(h.cs c hc).1) (j:Int));rw[S.RW]
  split<;>omega
theorem By{n:Net}{p q:Nat->Bool}:∀{j:Nat},(∀i,i<j->p i=q i)->S.RW n p j=S.RW n q j
 |0,_=>rfl
 |j+1,h=>by rw[S.RW,S.RW,By λi hi=>h i (by omega),h j (by omega)]
def S.RR(n:Net):Nat:=(S.RP (S.RN n)).toNat
def S.R6(n:Net)(e:List Int):Int:=S.RW n (λw=>S.S4 (S.RT (S.RN n) (w:Int)) e) (S.RR n)
theorem NR.wl(h:NR n):1<=S.RR n/\S.RR n<=1024/\((S.RR n:Nat):Int)=S.RP (S.RN n):=by have h1:=co λc hc=>(h.cs c hc).1;have h2:=h.worlds;unfold S.RR;omega
theorem nU(h:NR n)(e:List Int):0<=S.R6 n e/\S.R6 n e<=171992678400000000:=by have h1:=vQ h (λw=>S.S4 (S.RT (S.RN n) (w:Int)) e) (S.RR n);have h2:=h.wl;unfold S.R6;omega
def S.Sc(n:Net)(e:List Int):Bool:=decide (e.length=n.nodes.length)&&(List.range e.length).all λv=>decide (-1<=e[v]?.getD 0)&&decide (e[v]?.getD 0<(S.RN n)[v]?.getD 0)
def S.RZ(n:Net)(e:List Int):Int:=if S.Sl n then (if S.Sc n e then 0 else 2) else 50
end
section
variable {x:Nat}
section
variable {b card:Nat}
def S.R5(b card i x:Nat):Nat:=(i / b*card+x)*b+i % b
def S.Sk(b card p:Nat):Nat:=p / (b*card)*b+p % b
def S.SE(b card p:Nat):Nat:=p / b % card
theorem IR(hb:0<b)(hx:x<card):S.Sk b card (S.R5 b card i x)=i/\S.SE b card (S.R5 b card i x)=x:=by
 have hm:=US i hb;have h1:S.R5 b card i x / b=i / b*card+x:=by unfold S.R5;rw[VM,VH _ _ hb,UO hm,Uy]
 have h2:S.R5 b card i x % b=i % b:=by unfold S.R5;rw[VM,VW,Nat.mod_mod]
 have h3:(i / b*card+x) / card=i / b:=by rw[VM,VH _ _ (by omega),UO hx,Uy]
 have h4:(i / b*card+x) % card=x:=by rw[VM,VW,VR hx]
 refine⟨?_,?_⟩
 ·unfold S.Sk;rw[<-UL,h1,h2,h3,UQ];exact UI i b
 ·unfold S.SE;rw[h1,h4]
theorem QK(hb:0<b)(p:Nat):S.R5 b card (S.Sk b card p) (S.SE b card p)=p:=by
 have hm:=US p hb;have h1:S.Sk b card p / b=p / (b*card):=by unfold S.Sk;rw[VM,VH _ _ hb,UO hm,Uy]
 have h2:S.Sk b card p % b=p % b:=by unfold S.Sk;rw[VM,VW,Nat.mod_mod]
 unfold S.R5 S.SE;rw[h1,h2,<-UL,UQ (p / b / card) card,UI,UQ];exact UI p b
theorem Ir(hc:0<card)(p:Nat):S.SE b card p<card:=US _ hc
theorem Ov{p:Nat}(hb:0<b)(hp:p<A*b*card):S.Sk b card p<A*b:=by have h1:p / (b*card)<A:=Vy (by rw[UQ (b*card),<-Wi];exact hp);have hm:=US p hb;unfold S.Sk;have:(p / (b*card)+1)*b<=A*b:=T2 _ h1;rw[Ub,UN]at this;omega
theorem DM(hb:0<b)(hi:i<A*b)(hx:x<card):S.R5 b card i x<A*b*card:=by have h1:i / b<A:=Vy (by rw[UQ];exact hi);have hm:=US i hb;unfold S.R5;have h2:(i / b+1)*card<=A*card:=T2 _ h1;rw[Ub,UN]at h2;have h3:(i / b*card+x+1)*b<=A*card*b:=T2 _ (by omega);rw[Ub (i / b*card+x),UN,Wi A,UQ card b,<-Wi]at h3;omega
def S.Se(rows:List (List Int))(b card t:Nat):List Int:=(List.range (rows.length*card)).map λp=>if S.Sk b card p*card+S.SE b card p<t then (rows[S.Sk b card p]?.getD [])[S.SE b card p]?.getD 0 else 0
def S.S8(rows:List (List Int))(b card:Nat):List Int:=(List.range (rows.length*card)).map λp=>(rows[S.Sk b card p]?.getD [])[S.SE b card p]?.getD 0
theorem Fc(rows:List (List Int))(b card t:Nat):(S.Se rows b card t).length=rows.length*card:=by simp[S.Se]
theorem JK(rows:List (List Int))(b card:Nat):S.Se rows b card 0=List.replicate (rows.length*card) 0:=by refine WM (by simp[S.Se]) λi h1 h2=>?_;simp[S.Se]
theorem JJ{rows:List (List Int)}{r:List Int}{w:Int}(hb:0<b)(hA:rows.length=A*b)(hr:rows[i]?=some r)(hx:x<card)(hw:r[x]?=some w) :
  (S.Se rows b card (i*card+x)).set (S.R5 b card i x) w=S.Se rows b card (i*card+x+1):=by
 have hi:=(TJ.1 hr).1;refine WM (by simp[S.Se]) λp h1 h2=>?_;have hp:p<rows.length*card:=by simpa [S.Se] using h2
 obtain⟨a,q2⟩:=IR hb (i:=i) hx;rw[List.getElem_set]
 by_cases e:S.R5 b card i x=p
 ·subst e;rw[TO rfl];simp only[S.Se,WN,List.getElem_range,a,q2];rw[TO (by omega),hr,TS,hw,TS]
 ·rw[TN e];simp only[S.Se,WN,List.getElem_range];have hf:=Ir (b:=b) (card:=card) (by omega) p;have k:S.Sk b card p*card+S.SE b card p≠i*card+x:=λh=>e (by
   have e1:S.Sk b card p=i:=by
    have h1:(S.Sk b card p*card+S.SE b card p) / card=S.Sk b card p:=by rw[VM,VH _ _ (by omega),UO hf,Uy]
    have h2:(i*card+x) / card=i:=by rw[VM,VH _ _ (by omega),UO hx,Uy]
    rw[<-h1,h,h2]
   have e2:S.SE b card p=x:=by rw[e1]at h;omega
   rw[<-QK hb p (card:=card),e1,e2])
  by_cases h:S.Sk b card p*card+S.SE b card p<i*card+x
  ·rw[TO h,TO (by omega)]
  ·rw[TN h,TN (by omega)]
theorem Lw{rows:List (List Int)}(hb:0<b)(hA:rows.length=A*b):S.Se rows b card (rows.length*card)=S.S8 rows b card:=by
 unfold S.Se S.S8;refine U8 λp hp=>?_;have hp:=T8.1 hp;have hc:0<card:=WD λe=>by subst e;simp at hp
 have h1:=Ov (A:=A) hb (by rw[<-hA];exact hp);have h2:=Ir (b:=b) hc p;rw[TO];rw[<-hA]at h1;have:(S.Sk b card p+1)*card<=rows.length*card:=T2 _ h1;rw[Ub,UN]at this;omega
theorem Om{rows:List (List Int)}(hb:0<b)(hA:rows.length=A*b)(hi:i<rows.length)(hx:x<card):(S.S8 rows b card)[S.R5 b card i x]?=some ((rows[i]?.getD [])[x]?.getD 0):=by obtain⟨h,q2⟩:=IR hb (i:=i) hx;have hp:=DM (A:=A) (i:=i) hb (by rw[<-hA];exact hi) hx;simp only[S.S8,TK];rw[VD (by rw[hA];exact hp)];simp only[U0,h,q2]
end
def S.R3(ps:List Int)(k:Nat)(v:Int):List Int:=ps.take k++v::ps.drop k
theorem Qq(h:NR n)(hv:InC (S.RN n) vals){v:Nat}{x:Node}(hx:n.nodes[v]?=some x)(k:Nat) :
  ∃p:Nat,S.RQ (S.RO (S.RN n) (S.R3 x.parents k (v:Int))) (S.RO vals (S.R3 x.parents k (v:Int)))=(p:Int)/\p<x.rows.length*x.card.toNat /\
   (S.S8 x.rows (S.RP (S.RO (S.RN n) (x.parents.drop k))).toNat x.card.toNat)[p]?=some (S.R2 n vals v):=by
 have hm:=TL hx;obtain⟨i,r,c,y,e1,e2,e3,u,w,z,e7,D,-,-⟩:=wE h hv hx;have b:=h.pin hm;have E:=aZ h.cs b;have F:=dx hv b;have j:(S.RN n)[v]?=some x.card:=by simp[S.RN,hx]
 have ps:x.parents=x.parents.take k++x.parents.drop k:=(UE k _).symm;have e:∀c∈S.RO (S.RN n) (x.parents.drop k),1<=c/\c<=4:=aZ h.cs λp hp=>b p (Uz hp);have l:InC (S.RO (S.RN n) (x.parents.drop k)) (S.RO vals (x.parents.drop k)):=dx hv λp hp=>b p (Uz hp);have s:∀c∈S.RO (S.RN n) (x.parents.take k),1<=c/\c<=4:=aZ h.cs λp hp=>b p (Uc hp);have t:InC (S.RO (S.RN n) (x.parents.take k)) (S.RO vals (x.parents.take k)):=dx hv λp hp=>b p (Uc hp);obtain⟨b1,b2⟩:=bI e l;obtain⟨a1,a2⟩:=bI s t;have hlt:(S.RO (S.RN n) (x.parents.take k)).length=(S.RO vals (x.parents.take k)).length:=by simp[S.RO]
 have ei:S.RQ (S.RO (S.RN n) x.parents) (S.RO vals x.parents)=S.RQ (S.RO (S.RN n) (x.parents.take k)) (S.RO vals (x.parents.take k))*S.RP (S.RO (S.RN n) (x.parents.drop k))+S.RQ (S.RO (S.RN n) (x.parents.drop k)) (S.RO vals (x.parents.drop k)):=by
  conv=>lhs;rw[ps,cQ,cQ,ua _ _ hlt]
 have er:(x.rows.length:Int)=S.RP (S.RO (S.RN n) (x.parents.take k))*S.RP (S.RO (S.RN n) (x.parents.drop k)):=by
  rw[h.rows x hm]
  conv=>lhs;rw[ps,cQ,kY]
 have ef:S.RQ (S.RO (S.RN n) (S.R3 x.parents k (v:Int))) (S.RO vals (S.R3 x.parents k (v:Int))) =
   S.RQ (S.RO (S.RN n) (x.parents.take k)) (S.RO vals (x.parents.take k))*(x.card*S.RP (S.RO (S.RN n) (x.parents.drop k)))+(c*S.RP (S.RO (S.RN n) (x.parents.drop k))+S.RQ (S.RO (S.RN n) (x.parents.drop k)) (S.RO vals (x.parents.drop k))):=by
  rw[S.R3,cQ,cQ,ua _ _ hlt];have:S.RO (S.RN n) ((v:Int)::x.parents.drop k)=x.card::S.RO (S.RN n) (x.parents.drop k):=by simp[S.RO,j]
  have h2:S.RO vals ((v:Int)::x.parents.drop k)=c::S.RO vals (x.parents.drop k):=by simp[S.RO,u]
  rw[this,h2,cm,S.RQ]
 have G:=co λc hc=>(e c hc).1;generalize S.RP (S.RO (S.RN n) (x.parents.drop k))=B at *;generalize S.RP (S.RO (S.RN n) (x.parents.take k))=A at *;generalize S.RQ (S.RO (S.RN n) (x.parents.drop k)) (S.RO vals (x.parents.drop k))=q at *;generalize S.RQ (S.RO (S.RN n) (x.parents.take k)) (S.RO vals (x.parents.take k))=a at *;obtain⟨B,rfl⟩:=TP (show 0<=B by omega);obtain⟨A,rfl⟩:=TP (show 0<=A by omega);obtain⟨q,rfl⟩:=TP b1;obtain⟨a,rfl⟩:=TP a1;obtain⟨c,rfl⟩:=TP w;obtain⟨C,hC⟩:=TP (show 0<=x.card by omega);rw[hC]at ef z ⊢;have f:0<B:=by omega
 have hq:q<B:=by omega
 have hc:c<C:=by omega
 rw[e1]at ei;have hi:i=a*B+q:=by
  have:(i:Int)=((a*B+q:Nat):Int):=by rw[ei,Int.natCast_add,UW]
  omega
 have m:i / B=a:=by rw[hi,VM,VH _ _ f,UO hq,Uy]
 have o:i % B=q:=by rw[hi,VM,VW,VR hq]
 have d:x.rows.length=A*B:=by
  have:((x.rows.length:Nat):Int)=((A*B:Nat):Int):=by rw[er,UW]
  omega
 refine⟨S.R5 B C i c,?_,?_,?_⟩
 ·rw[ef,S.R5,m,o,Ub,Int.natCast_add,Int.natCast_add,UW,UW,UW,Vz];omega
 ·rw[Ux,d];exact DM f (by rw[<-d];exact e2) hc
 ·rw[Ux,Ux,Om f d e2 hc,e3,TS];rw[Ux]at e7;rw[e7,D];rfl
end
abbrev Dk:Type:=UInt8×UInt8×List UInt8
abbrev xn:Type:=UInt8×List Dk×List UInt8
abbrev HO:Type:=UInt8×UInt8×UInt8×Int
theorem C_{x:Dk}{cs:List AV}:Rp.rp P k h x cs↔∃a,cs=[u8v x.1,u8v x.2.1,a]/\SlR P k h x.2.2 a:=by
 constructor
 ·rintro⟨c1,b,rfl,h1,c,d,rfl,h2,⟨a,rfl,h4⟩⟩;rw[gT.1 h1,gT.1 h2];exact⟨a,rfl,h4⟩
 ·rintro⟨a,rfl,h4⟩;exact⟨[_],[_,a],rfl,gT.2 rfl,[_],[a],rfl,gT.2 rfl,⟨a,rfl,h4⟩⟩
theorem C9{x:xn}{cs:List AV}:Rp.rp P k h x cs↔∃a b,cs=[u8v x.1,a,b]/\SlR P k h x.2.1 a/\SlR P k h x.2.2 b:=by
 constructor
 ·rintro⟨c1,c,rfl,h1,d,e,rfl,⟨a,rfl,ha⟩,⟨b,rfl,hb⟩⟩;rw[gT.1 h1];exact⟨a,b,rfl,ha,hb⟩
 ·rintro⟨a,b,rfl,ha,hb⟩;exact⟨[_],[a,b],rfl,gT.2 rfl,[a],[b],rfl,⟨a,rfl,ha⟩,⟨b,rfl,hb⟩⟩
theorem QM{k2:Nat}{P2:Nat->Prop}{p:List Int}(hd:0<d)(hv:SlR P k g.h l v)(hw:SlR P2 k2 g.h p w)(hp:p.length<1073741824)(hin:∀x∈p,0<=x/\x<l.length) :
  ∃r,ah C0 d 68 [v,w] g=.val r/\IT 0 (S.RO l p) r:=by
 obtain⟨v',e1,o⟩:=bm hv d;obtain⟨w',e2,f⟩:=bm hw d;rw[BO];refine aL E_ (xs:=[v',w']) (by simp only[aF,e1,e2]) (by simp[vA]) (aJ _) (by decide) hd ?_;simp only[sz,simprocAttr,vA];have n2:=λg=>(f .nil).len g;have ra:∀h',ak h' 1 v'=some (l.map ci):=λh'=>(o h').ints;have rb:∀h',ak h' 1 w'=some (p.map ci):=λh'=>(f h').ints;refine zC (v:=w') (m:=p.length) (by omega) n2 (λj t df g=>df=[]/\St t [(0,v')]/\∃u,tat t 5=u/\Own g 0 u 1 ((S.RO l (p.take j)).map ci)) ⟨rfl,by simp[St,sx],_,rfl,.inl ⟨by simp[sx],by simp[S.RO]⟩⟩ (by simp[sx]) (by simp[sx]) (by decide)
  (by rintro j t df g v s (rfl|rfl|rfl|rfl|rfl|rfl|rfl)<;>simp[sx,St]) ?_ ?_
 ·rintro j t df g1 e ⟨rfl,⟨h0,-⟩,u,h5,hu⟩ h6 h1;obtain⟨x,hx,b,hm⟩:=ae e;obtain⟨c,i⟩:=hin x hm;obtain⟨n,rfl⟩:=TP c;have a:n<l.length:=by omega
  simp only[sz,simprocAttr,ra,rb,h0,h1,h5,h6,hx,e,a,TT,TK,U0,ci,TH a];refine bk (new:=[ci l[n]]) (hu.step (Fr.new _ _)) (by simp[sx,sy,ci]) (by simp) (by simp[aQ,S.RO];omega) λv2 g2 hv2 n2 f2 _ l2=>?_;simp only[sz,simprocAttr,h0,h1,h6,St];refine⟨_,rfl,?_⟩;rw[b];simpa [a,ci,S.RO] using hv2
 ·rintro t df g1 ⟨rfl,⟨h0,-⟩,u,h5,hu⟩ -;rw[Ur]at hu;simp only[sz,simprocAttr,uK,h5];exact⟨_,hu.ints (by simp[S.RO];omega)⟩
theorem Kh(hd:0<d)(hm:Agg n P k g.h v)(hn:n.nodes.length<1073741824) :
  ∃r,ah C0 d 92 [v] g=.val r/\IT 0 (S.RN n) r:=by
 obtain⟨v',e,cs,rfl,hc⟩:=su (cq n) (by decide) d hm;obtain⟨b,rfl,hN⟩:=ie.1 hc;obtain⟨rows,i,w,p,q⟩:=hN.all;have i:∀h',ak h' 3 b=some rows:=i;rw[xH];refine aL Ay (xs:=[.agg [XL n.grain,b]]) (by simp only[aF,e]) (by simp[oQ]) (aJ _) (by decide) hd ?_;simp only[sz,simprocAttr,oQ,rL,pQ];refine jE n.nodes.length (by omega) (λj t df g=>df=[]/\tat t 1=XM 0/\g.h.get 0=W8 2 [[XL n.grain,b]]/\1<=g.nx/\∃u,tat t 3=u/\Own g 1 u 1 (((n.nodes.take j).map (·.card)).map ci))
  ⟨rfl,by simp[sx],by simp[sx],by simp[sx],_,rfl,.inl ⟨by simp[sx],rfl⟩⟩ (by simp[sx]) (by decide)
  (by rintro j t df g v s (rfl|rfl|rfl)<;>simp[sx]) ?_ ?_ ?_
 ·rintro j t df g l ⟨rfl,h1,hg,a,u,h3,hu⟩ h4;simp only[sz,simprocAttr,h1,h4,hg,hN.len];exact⟨a,u,h3,hu⟩
 ·rintro j t df g l ⟨rfl,h1,hg,a,u,h3,hu⟩ h4;obtain⟨x,hx,f,hm⟩:=ae l;obtain⟨row,o,q2⟩:=p j x hx;obtain⟨a',b',rfl,m,-⟩:=cI.1 q2;have hlt:j<rows.length:=by omega
  have c:=q (by omega);simp only[sz,simprocAttr,h1,h3,h4,hg,i,hlt,o,c];refine bk (new:=[ci x.card]) (hu.step (Fr.new _ _)) (by simp[sx,sy,ci]) (by simp) (by simp[aQ];omega) λv2 g2 hv2 n2 f2 _ l2=>?_;simp only[sz,simprocAttr,h1,h4];refine⟨?_,?_,_,rfl,?_⟩
  ·rw[f2 0 (by simp) (λe=>by have:=(hu.lt e).1;omega),G.new_h,au _ _ _ (by omega),hg]
  ·simp at n2;omega
  ·rw[f];simpa [ci] using hv2
 ·rintro t df g ⟨rfl,h1,hg,a,u,h3,hu⟩;rw[Ur]at hu;simp only[sz,simprocAttr,pR,h3];exact⟨_,hu.ints (by simp;omega)⟩
theorem Ka(hd:0<d)(hm:Agg n P k g.h v)(hn:n.nodes.length<1073741824)(hx:n.nodes[i]?=some x)(hl:x.parents.length<1073741824)(hin:∀p∈x.parents,0<=p/\p<n.nodes.length) :
  ∃r,ah C0 d 49 [v,XL (i:Int)] g=.val r/\IT 0 (S.RO (S.RN n) x.parents) r:=by
 obtain⟨v',e,cs,rfl,hc⟩:=su (cq n) (by decide) d hm;have f:=hc;obtain⟨b,rfl,hN⟩:=ie.1 hc;have j:∀h,Agg n NoP (max k d) h (.agg [XL n.grain,b]):=λh=>⟨_,rfl,Rp.tree f (TG _)⟩;obtain⟨rows,o,y,t,u⟩:=hN.all;have o:∀h',ak h' 3 b=some rows:=o;obtain⟨row,s,q2⟩:=t i x hx;obtain⟨a',b',rfl,a,-⟩:=cI.1 q2;have q:=(TJ.1 hx).1;have hlt:i<rows.length:=by omega
 have m:=u (by omega);rw[qm];refine aL sK (xs:=[.agg [XL n.grain,b],XL (i:Int)]) (by simp only[aF,e,bD 0]) (by simp[gy]) (aJ _) (by decide) hd ?_;simp only[sz,simprocAttr,gy,jR];refine bi (Kh (TW d) (j _) hn) λrc hrc=>?_;have c:=λg=>QM (d:=d+1) (g:=g) (P:=NoP) (P2:=NoP) (k:=0) (k2:=max k d) (l:=S.RN n) (p:=x.parents) (TW d) (hrc.sl g.h) (a.tree (h':=g.h) (TG _)) hl (λp hp=>by rw[aB];exact hin p hp);simp only[sz,simprocAttr,o,hlt,s,m];refine bi (c _) λr hr=>?_;simp only[sz,simprocAttr];obtain⟨w,hw,hs⟩:=hr;exact⟨_,w,hw,hs.tree (TG _)⟩
theorem Nb(hd:0<d)(hv:SlR P k g.h l v):ah C0 d 48 [v] g=.val (XL (S.Sr l)):=by have b:=Is hv.ints;have:=O_ hd (JW hv.ints) (by rw[b];exact hv.1);rwa [b]at this
theorem fP(d:Nat)(hm:Agg n NoP 0 g.h v):∃b rows,v=.agg [XL n.grain,b]/\Hx.snap g.h d aC v=some v/\(∀h,Agg n NoP 0 h v)/\SlR NoP 0 .nil n.nodes b/\(∀h,ak h 3 b=some rows)/\rows.length=n.nodes.length /\
  (∀(i:Nat) (x:Node),n.nodes[i]?=some x->∃pa ra,rows[i]?=some [XL x.card,pa,ra]/\i<rows.length/\SlR NoP 0 .nil x.parents pa/\SlR NoP 0 .nil x.rows ra)/\(0<n.nodes.length->vN b=true):=by
 have e:=mo d hm;obtain⟨cs,rfl,hc⟩:=hm;have c:=hc;obtain⟨b,rfl,hN⟩:=ie.1 hc;have hN:=hN.tree (h':=.nil) (TG _);obtain⟨rows,l,f,m,o⟩:=hN.all;refine⟨b,rows,rfl,e,λh=>⟨_,rfl,Rp.tree c (TG _)⟩,hN,l,f,λi x hx=>?_,o⟩;obtain⟨row,j,q2⟩:=m i x hx;obtain⟨a',b',rfl,k,a⟩:=cI.1 q2;exact⟨a',b',j,by rw[f];exact (TJ.1 hx).1,k,a⟩
theorem zq{l:List (List Int)}{b:AV}(hb:SlR NoP k .nil l b):∃rows:List (List AV),(∀h,ak h 1 b=some rows)/\rows.length=l.length/\(∀(i:Nat) (r:List Int),l[i]?=some r->∃z,rows[i]?=some [z]/\i<rows.length/\SlR NoP k .nil r z)/\(0<l.length->vN b=true):=by obtain⟨rows,d,a,e,f⟩:=hb.all;refine⟨rows,d,a,λi r hr=>?_,f⟩;obtain⟨row,c,q2⟩:=e i r hr;obtain⟨z,rfl,hz⟩:=eC.1 q2;exact⟨z,c,by rw[a];exact (TJ.1 hr).1,hz⟩
section
variable {d:Nat}{b pa ra z:AV}{gr card:Int}{r:List Int}
def LR5(v:Nat)(q:Nat):List (Nat×AV):=[(1,XM 0),(6,XL (v:Int)),(7,XM q)]
structure RJ1 (gr:Int) (r:List Int) (v q i j:Nat) (t:T):Prop where
 st:St t ((8,XL (i:Int))::LR5 v q)
 s9:tat t 9=XL (r.take j).sum
 all:∀y∈r.take j,0<=y/\y<=gr
structure RJ4 (gr card:Int) (rws:List (List Int)) (v q j:Nat) (t:T):Prop where
 st:St t (LR5 v q)
 all:∀r∈rws.take j,S.Sp gr card r=true
structure RJ0 (n:Net) (b:AV) (j:Nat) (t:T) (g:G):Prop where
 st:St t [(1,XM 0),(3,XL (S.RP ((S.RN n).take j)))]
 hg:g.h.get 0=W8 2 [[XL n.grain,b]]
 nx:1<=g.nx
 all:∀x∈n.nodes.take j,S.Tp n.nodes.length x=true
structure RJ6 (n:Net) (b:AV) (j:Nat) (t:T) (g:G):Prop where
 st:St t [(1,XM 0)]
 hg:g.h.get 0=W8 2 [[XL n.grain,b]]
 nx:1<=g.nx
 all:∀x∈n.nodes.take j,S.Tq n x=true
end
section
variable {tl:List Int}
def OwnC(g:G)(b id:Nat)(l tl:List Int):Prop:=b<=id/\id<g.nx/\g.h.get id=W8 1 (l.map ci++tl.map ci)
theorem OwnC.rows{id:Nat}(h:OwnC g b id l tl):ak g.h 1 (.hsl id 0 0 l.length none)=some (l.map ci):=by rw[eA,h.2.2,cK,TO (by simp),VI,List.take_left' (by simp)]
theorem OwnC.fr{g':G}{id:Nat}(h:OwnC g b id l tl)(hn:g.nx<=g'.nx)(hf:g'.h.get id=g.h.get id):OwnC g' b id l tl:=⟨h.1,TU h.2.1 hn,by rw[hf,h.2.2]⟩
theorem Rl{n:Nat}{D:ADf->Prop}(hn:n<=1000)(hb:b<=g.nx)(k:∀g',OwnC g' b g.nx [] (List.replicate n 0)->g'.nx=g.nx+1->(∀i,i<g.nx->g'.h.get i=g.h.get i)->K (.hsl g.nx 0 0 0 none) g') :
  (A0 1 8 [XL 0] (XL 0) (XL (n:Int)) g).sat K g D:=by
 have h1:n<=aQ:=by unfold aQ;omega
 have h2:n*8<=aQ:=by unfold aQ;omega
 have key:A0 1 8 [XL 0] (XL 0) (XL (n:Int)) g=.upd (.hsl g.nx 0 0 0 none) (g.new (W8 1 (fj n [XL 0]))):=by
  show (match bU aQ (XL (.ofNat n)) with
   | some cn=>match bU cn (XL 0) with
    |some ln=>ay (Nat.ble (cn*8) aQ) (OR.upd (.hsl g.nx 0 0 ln none) (g.new (W8 1 (fj cn [XL 0])))) .fail
    |none=>.fail
   |none=>.fail)=_
  have a1:bU aQ (XL (.ofNat n))=some n:=by show ay (Nat.ble n aQ) (some n) none=_;rw[aa,TO (by simpa using h1)]
  have a2:bU n (XL 0)=some 0:=by show ay (Nat.ble 0 n) (some 0) none=_;rw[aa,TO (by simp)]
  rw[a1];dsimp only;rw[a2];dsimp only;rw[aa,TO (by simpa using h2)]
 rw[key];refine k _ ⟨hb,by simp,?_⟩ (by simp) (λi hi=>?_)
 ·simp[aP,fj,ci]
 ·rw[G.new_h,au _ _ _ (by omega)]
theorem KS{id:Nat}{x y:Int}{D:ADf->Prop}(hv:OwnC g b id l (y::tl))(hx:ak g.h 1 w=some [ci x])(hr:l.length<=1000)
  (k:∀g',OwnC g' b id (l++[x]) tl->g'.nx=g.nx->(∀i,i≠id->g'.h.get i=g.h.get i)->K (.hsl id 0 0 (l++[x]).length none) g'):(di 1 8 (.hsl id 0 0 l.length none) w g).sat K g D:=by
 unfold di;rw[hx];obtain⟨h1,h2,h3⟩:=hv;simp only[bg,G.get_eq,h3,aA,aa,Uv,U7,Uw,TM,Uy,Vc,VY,Vl,TT,Uq,Vq];rw[TO ⟨by omega,by unfold aQ;omega⟩,TO (by omega)];have a:jz false=true:=rfl;rw[TO ⟨by omega,a⟩];have e:jA (l.map ci++(y::tl).map ci) l.length [ci x]=(l++[x]).map ci++tl.map ci:=by simp only[jA,g7];rw[U_,UJ,VT,UU _ _ (by simp)];simp
 rw[e];have k:=k (g.put id (W8 1 ((l++[x]).map ci++tl.map ci))) ⟨h1,by simpa using h2,by simp[aP]⟩ (by simp) (λi hi=>by rw[G.put_h,au _ _ _ hi]);have e3:l.length+1=(l++[x]).length:=by simp
 rw[e3];exact k
def Re(p:List Nat):VS:=λP k h v=>∃o:List Int,True/\pj (One o) (One (S.SP p)) P k h v
theorem Kw{p:List Nat}(hd:0<d)(hv:SlR P k g.h p v)(hn:p.length<=8)(hp:∀x∈p,x<2 ^ p.length) :
  ∃z,ah C0 d 124 [v] g=.val z/\Re p NoP 0 .nil z:=by
 obtain⟨v',e,r1⟩:=bm hv d;have hlt:=Dm hv;rw[yS];refine aL B1 (xs:=[v']) (by simp only[aF,e]) (by simp[qB]) (md λo=>bO (m:=1) (aJ _) (aJ _) (by decide) (by decide)) (by decide) hd ?_;have vl:∀g,cH .slice v' g=.val (XL (p.length:Int)):=λg=>(r1 .nil).len g;simp only[sz,simprocAttr,qB,vl];refine Rl (b:=0) (n:=p.length) (by omega) (Uj _) λg1 hu hn1 hf1=>?_;obtain⟨id,J⟩:∃id,id=G.empty.nx:=⟨_,rfl⟩;rw[<-J]at hu ⊢;clear J hn1 hf1;simp only[sz,simprocAttr];refine eW (λn t df g=>df=[]/\∃(L:List Nat) (D:Nat) (tl:List Int),n=p.length - L.length/\L.length+tl.length=p.length/\Jl p L/\Qd D L/\Jj p D/\St t [(0,v'),(4,.hsl id 0 0 (L.map λi:Nat=>(i:Int)).length none),(5,XN (D:Int))]/\OwnC g 0 id (L.map λi:Nat=>(i:Int)) tl) p.length
  ⟨rfl,[],0,List.replicate p.length 0,by simp,by simp,⟨by simp,by simp⟩,⟨by decide,by simp⟩,CO,by simp[sx,St],hu⟩ ?_
 rintro n t df g ⟨rfl,L,D,tl,rfl,I,O,f,hG,⟨h0,h4,h5,-⟩,hu⟩;have h8:=MK O;have Z:∀g',cH .slice (.hsl id 0 0 (L.map λi:Nat=>(i:Int)).length none) g'=.val (XL (L.length:Int)):=λg'=>by rw[j9 hu.rows];simp
 simp only[sz,simprocAttr,rG,h0,h4,vl,Z];refine dz (λhb=>?_) (λhb=>?_)
 ·have K:L.length<p.length:=by simpa using hb
  obtain⟨y,tl,rfl⟩:∃y tl',tl=y::tl':=by
   cases tl with
   |nil=>simp at I;omega
   |cons y tl=>exact⟨y,tl,rfl⟩
  simp only[sz,simprocAttr,h0,vl,rF];refine aI (m:=p.length) (by omega) (λj t df g'=>df=[]/\g'=g/\St t [(0,v'),(16,v'),(4,.hsl id 0 0 (L.map λi:Nat=>(i:Int)).length none),(5,XN (D:Int))]/\∀v,v<j->D.testBit v=true\/¬Sub (Par p v) D)
   ⟨rfl,rfl,by simp[sx,St,h0,h4,h5],λv hv=>by omega⟩ (by simp[sx]) (by simp[sx]) (by decide) (by rintro j t df g v s (rfl|rfl|rfl)<;>simp[sx,St]) ?_ ?_
  ·rintro j t df g' V ⟨rfl,rfl,⟨h0,u,h4,h5,-⟩,c⟩ w H;obtain⟨x,hx,-,h7⟩:=ae V;have F:Par p j=x:=by simp[Par,hx]
   have h6:=hlt x h7;have C:j<(p.map cu).length:=by simpa using V
   have E:(p.map cu)[j]?=some (cu x):=by rw[TK,hx];rfl
   have b1:=H6 .i64 D j f.1;have R:D / 2 ^ j<18446744073709551616:=Nat.lt_of_le_of_lt (Va _ _) f.1;have b2:ct .and (XN ((D / 2 ^ j:Nat):Int)) (XN 1)=.val (XN ((D / 2 ^ j &&& 1:Nat):Int)):=NY _ 1 R (by decide);have b3:=Gw x D h6 f.1;have ra:=λh=>(r1 h).nats;have l:D.testBit j = !decide (((D / 2 ^ j &&& 1:Nat):Int)=0):=by
    rw[<-wN,S.Th];have h2:D / 2 ^ j &&& 1=(D / 2 ^ j) % 2:=Nat.and_one_is_mod _;rw[h2];have:=US (D / 2 ^ j) (show 0<2 by decide)
    by_cases h3:D / 2 ^ j % 2=0
    ·rw[h3];simp
    ·have h4:D / 2 ^ j % 2=1:=by omega
     rw[h4];simp
   have next:(D.testBit j=true\/¬Sub (Par p j) D)->∀v,v<j+1->D.testBit v=true\/¬Sub (Par p v) D:=λh v hv=>by
    by_cases e:v=j
    ·subst e;exact h
    ·exact c v (by omega)
   by_cases c1:((D / 2 ^ j &&& 1:Nat):Int)=0
   ·by_cases c2:((x ^^^ (x &&& D):Nat):Int)=0
    ·have Q:S.Tf x D=0:=by simpa [S.Tf] using c2
     have r:=CD.1 Q;have W:j ∉ L:=λh=>by have:=(f.2 j).2 h;rw[l,c1]at this;simp at this
     have h9:D ||| S.Sn j<18446744073709551616:=MJ f.1 (zM j);simp only[sz,simprocAttr,u,h4,h5,w,b1,b2,b3,ra,C,E,cu,c1,c2];refine KS (x:=(j:Int)) (hu.fr (by simp) (by rw[G.new_h,au _ _ _ (by have:=hu.2.1;omega)])) (by simp[sx,sy,ci]) (by simp;omega) λg2 hu2 n2 f2=>?_;have M:ct .shl (XN 1) (XL (j:Int))=.val (XN (S.Sn j:Int)):=yp .i64 j;have e1:(L.map λi:Nat=>(i:Int))++[(j:Int)]=(L++[j]).map λi:Nat=>(i:Int):=by simp
     rw[e1]at hu2 ⊢;simp only[sz,simprocAttr,h5,M,KZ _ _ f.1 (zM j)];refine⟨p.length - (L++[j]).length,by simp;omega,L++[j],D ||| S.Sn j,tl,rfl,by simp at I ⊢;omega,J_ O W V λq hq=>?_,Kq f (by omega),Fm hG (by omega) (by rw[F];exact r),by simp[sx,St,h0],hu2⟩;rw[F]at hq;exact (f.2 q).1 (r q hq)
    ·have X:¬Sub (Par p j) D:=λh=>c2 (by
      have:=CD.2 h;rw[F]at this;simp[S.Tf]at this;simp[this])
     simp only[sz,simprocAttr,h0,u,h4,h5,w,H,b1,b2,b3,ra,C,E,cu,c1,c2,St];exact next (.inr X)
   ·simp only[sz,simprocAttr,h0,u,h4,h5,w,H,b1,b2,ra,C,E,cu,c1,St];exact next (.inl (by rw[l,VN c1];rfl))
  ·rintro t df g' ⟨rfl,rfl,-,c⟩;obtain⟨v0,h1,N⟩:=OI O K;have A:S.SP p=false:=by
    cases hc:S.SP p with
    |false=>rfl
    | true =>
     have:=Dn hp hc (T:=D) (λv hv hb=>by
      rcases c v hv with h|h
      ·rw[h]at hb;cases hb
      ·exact h) v0 h1
     exact absurd ((f.2 v0).1 this) N
   simp only[sz,simprocAttr,rH];exact⟨λ_=>True,[],.nils,.bool false,rfl,⟨.nils,rfl,by show 0<9223372036854775808;decide,rfl⟩,eB.2 (by rw[A])⟩
 ·have U:p.length<=L.length:=by simp at hb;omega
  have Y:tl=[]:=Ui (by omega);subst Y;have B:=J9 O U;have A:=vZ hG λv hv=>(f.2 v).2 (B.1 v hv);simp only[sz,simprocAttr,rI,h4];refine⟨λ_=>True,L.map (λi:Nat=>(i:Int)),_,_,rfl,⟨_,rfl,by simp;omega,trivial,_,hu.rows,RN (λa=>ax.2 rfl) _⟩,eB.2 (by rw[A])⟩
end
section
variable {nt:Nat}
theorem C6{C:Cfg}{id:Nat}{ps:List Nat}{assign body:Code}{a b:SC}{dfr:Nat}{args:List AV}{D:ADf->Prop}{t':T}
  (hg:g.h.get id=.loop nt t ps assign body dfr .ready none) (ha:eL C nt assign=a) (hb:eL C nt body=b) (hp:cp t nt ps args=some t')
  (h:wp C d (some id) a (λe t1 df g1=>e=.norm/\df=[]/\g1=g /\
   wp C d (some id) b (λe _ df g2=>df=[]/\g2.h.get id=.loop nt t ps assign body dfr .busy none/\((e=.norm/\K (.bool true) (g2.put id (.loop nt t ps assign body dfr .ready none)))\/(e=.ret/\K (.bool false) (g2.put id (.loop nt t ps assign body dfr .done (some .ret))))))
    t1 [] (g.put id (.loop nt t ps assign body dfr .busy none))) t' [] g) :
  (bP (I C) d id args g).sat K g D:=by
 subst ha;subst hb;unfold bP;rw[show g.get id=_ from hg];dsimp only;rw[hp];dsimp only;have h1:=tZ h;cases hc:(I C).code nt d (some id) assign t' [] g with
 |fail=>rw[hc]at h1;exact h1.elim
 | ok e t1 df g1 =>
  rw[hc]at h1;obtain⟨rfl,rfl,rfl,h2⟩:=h1;dsimp only;rw[show g1.get id=_ from hg];dsimp only;have h3:=tZ h2;cases hc2:(I C).code nt d (some id) body t1 [] (g1.put id (.loop nt t ps assign body dfr .busy none)) with
  |fail=>rw[hc2]at h3;exact h3.elim
  | ok e t2 df2 g2 =>
   rw[hc2]at h3;obtain⟨rfl,h4,h5⟩:=h3;dsimp only;rw[show g2.get id=_ from h4];rcases h5 with⟨rfl,h5⟩|⟨rfl,h5⟩<;>exact h5
theorem nC{C:Cfg}{f:Od}{ps:List Nat}{a b:SC}{df:List ADf}{fn:Nat}{first cap:List AV}{s:SF}(hv:f.get t=.clo fn first cap)(he:C.ext fn=none)(hs:nFn C fn=some s)
  (hl:(first++(.yld (g.nx+1)::cap)).length<=s.nt)
  (h:∀assign body,eL C nt assign=a->eL C nt body=b ->
   wp C d none s.code (fnQ C d s.res λ_ g2=>∃nt' t' ps' as' bd' dfr',(g2.h.get (g.nx+1)=.loop nt' t' ps' as' bd' dfr' .ready none/\Q .norm t (.mark g.nx::df) (g2.put (g.nx+1) (.loop nt' t' ps' as' bd' dfr' .exhausted none))) \/
     (g2.h.get (g.nx+1)=.loop nt' t' ps' as' bd' dfr' .done (some .ret)/\Q .ret t (.mark g.nx::df) (g2.put (g.nx+1) (.loop nt' t' ps' as' bd' dfr' .exhausted (some .ret)))))
    (bN 0 (first++(.yld (g.nx+1)::cap)) .nil) [] ((g.new (.dfr true)).new (.loop nt t ps assign body g.nx .ready none))) :
  wp C d none (.rng nt f ps a b) Q t df g:=by
 intro assign body ha hb;have h:=qj hs hl (h assign body ha hb);show (cN C (I C) nt d none (f.get t) ps assign body t (.mark g.nx::df) g.nx (g.new (.dfr true))).sat Q;rw[hv];unfold cN;dsimp only;rw[he];show (match (I C).call d fn (first++(AV.yld (g.nx+1)::cap)) ((g.new (.dfr true)).new (.loop nt t ps assign body g.nx .ready none)) with
  |.ok _ g2=>dY (I C) nt d none (g.nx+1) t (.mark g.nx::df) g2
  |.fail=>.fail).sat Q
 cases hc:(I C).call d fn (first++(AV.yld (g.nx+1)::cap)) ((g.new (.dfr true)).new (.loop nt t ps assign body g.nx .ready none)) with
 |fail=>rw[hc]at h;exact h.elim
 | ok v g2 =>
  rw[hc]at h;obtain⟨nt',t',ps',as',bd',dfr',h⟩:=h;show (dY (I C) nt d none (g.nx+1) t (.mark g.nx::df) g2).sat Q;unfold dY;rcases h with⟨h1,h2⟩|⟨h1,h2⟩
  ·rw[show g2.get (g.nx+1)=_ from h1];exact h2
  ·rw[show g2.get (g.nx+1)=_ from h1];dsimp only;rw[Gr];exact h2
def RwV(x:Node):VS:=λP k h v=>∃p,v=.clo 165 [] [p] /\
 ((∃id cs,p=XM id/\P id/\h.get id=W8 3 [cs]/\Rp.rp P k h x cs)\/∃t cs,p=.tptr t 3 [cs] 0 0/\t<=k/\Rp.rp NoP k .nil x cs)
theorem Q3(x:Node):Snb (RwV x) 2:=by
 refine⟨λ{P k h v n} d r hn=>?_,λ{k h v n} r hn=>?_⟩
 ·obtain⟨p,rfl,r⟩:=r;obtain⟨n,rfl⟩:∃q,n=q+2:=⟨n - 2,by omega⟩;rcases r with⟨id,cs,rfl,-,hg,r⟩|⟨t,cs,rfl,ht,r⟩
  ·obtain⟨cs',e,r'⟩:=Rp.snap (n:=n) d r (by show (_:Nat)<=n;exact T6 (show Rp.dp Node<=20 by decide) (by omega)) (by decide);obtain⟨m,e2,l2⟩:=Rp.tag (n:=aC) r' (by decide);refine⟨.clo 165 [] [.tptr (Nat.max d (Nat.max m 0)) 3 [cs'] 0 0],?_,_,rfl,.inr ⟨_,cs',rfl,?_,r'⟩⟩
   ·have:Hx.snap h d (n+1) (XM id)=some (.tptr (Nat.max d (Nat.max m 0)) 3 [cs'] 0 0):=by simp only[Hx.snap,hg,show Nat.beq 0 0=true from rfl,aF,e,fg,eV,e2]
    simp only[Hx.snap,aF]at this ⊢;rw[this]
   ·show max d (max m 0)<=max k d;omega
  ·refine⟨.clo 165 [] [.tptr t 3 [cs] 0 0],rfl,_,rfl,.inr ⟨t,cs,rfl,by omega,Rp.mono r (λi hi=>hi.elim) (by omega)⟩⟩
 ·obtain⟨p,rfl,r⟩:=r;obtain⟨n,rfl⟩:∃q,n=q+2:=⟨n - 2,by omega⟩;rcases r with⟨id,cs,rfl,a,-⟩|⟨t,cs,rfl,ht,r⟩
  ·exact a.elim
  ·exact⟨Nat.max t 0,rfl,by show max t 0<=k;omega⟩
theorem A7(hd:0<d)(hm:Agg x NoP 0 g.h v) :
  ∃pa ra,ah C0 d 150 [v] g=.val (.clo 165 [] [.tptr 0 3 [[XL x.card,pa,ra]] 0 0])/\SlR NoP 0 .nil x.parents pa/\SlR NoP 0 .nil x.rows ra:=by
 have e0:=mo d hm;obtain⟨cs,rfl,hc⟩:=hm;obtain⟨a,b,rfl,hR,hN⟩:=cI.1 hc;have key:∃r,ah C0 d 150 [.agg [XL x.card,a,b]] g=.val r/\RwV x NoP 0 .nil r:=by rw[BL];refine aL E8 (xs:=[.agg [XL x.card,a,b]]) (by simp only[aF,e0]) (by simp[vy]) (Q3 x) (by decide) hd ?_;simp only[sz,simprocAttr,vy,wH];exact⟨λ_=>True,_,rfl,.inl ⟨0,_,rfl,trivial,by simp[sx],Rp.tree hc (TG _)⟩⟩
 obtain⟨r,h1,p,rfl,h2⟩:=key;rcases h2 with⟨id,cs,rfl,e,-⟩|⟨t,cs,rfl,ht,hr⟩
 ·exact e.elim
 ·have:t=0:=by omega
  subst this;obtain⟨a',b',rfl,c,k⟩:=cI.1 hr;exact⟨a',b',h1,c,k⟩
theorem bH(fo l sz i off:Nat)(rows:List (List AV)):JN fo (.tptr l sz rows i off)=.val (.tptr l sz rows i (off+fo)):=rfl
theorem M6{id:Nat}{c:Int}{pa ra:AV}{rws:List (List Int)}{g0:G}(hra:SlR NoP 0 .nil rws ra)(J:Nat->H->Prop)(E:G->Prop)
  (step:∀(j:Nat) (r:List Int) (z:AV) (g:G) (K':AV->G->Prop) (D:ADf->Prop),rws[j]?=some r->SlR NoP 0 .nil r z->g0.nx<=g.nx->J j g.h ->
   (∀g',J (j+1) g'.h->g.nx<=g'.nx->K' (.bool true) g')->(∀g',E g'->K' (.bool false) g')->(bP (I C0) d id [XL (j:Int),z] g).sat K' g D)
  (h0:J 0 g0.h) (fin:∀g',J rws.length g'.h->g0.nx<=g'.nx->K (.tup []) g') (finE:∀g',E g'->K (.tup []) g') :
  wp C0 d none fW.code (fnQ C0 d fW.res K) (bN 0 [.yld id,.tptr 0 3 [[XL c,pa,ra]] 0 0] .nil) [] g0:=by
 obtain⟨rr,f,n,i,l⟩:=zq hra;simp only[sz,simprocAttr,fW,rE,bH,aT,hra.len];refine aI (m:=rws.length) hra.1 (λj t df g=>df=[]/\St t [(0,.yld id),(6,ra)]/\J j g.h/\g0.nx<=g.nx) ⟨rfl,by simp[St,sx],h0,TG _⟩ (by simp[sx]) (by simp[sx]) (by decide) (by rintro j t df g v s (rfl|rfl|rfl)<;>simp[St,sx]) ?_ ?_
 ·rintro j t df g b ⟨rfl,⟨h0,h6,-⟩,a,k⟩ h8 h7;obtain⟨r,hr,-,-⟩:=ae b;obtain⟨z,q2,q3,hz⟩:=i j r hr;have e:=l (by omega);simp only[sz,simprocAttr,h0,h6,h8,f,q2,q3];show (bP (I C0) d id [XL (j:Int),z] g).sat _ _ _;refine step j r z g _ _ hr hz k a (λg' hJ' hn'=>?_) λg' hE=>?_
  ·simp only[sz,simprocAttr,h7,h8];simp[St,sx,h0,h6,hJ',T6 k hn']
  ·simp only[sz,simprocAttr];exact finE g' hE
 ·rintro t df g ⟨rfl,-,a,k⟩;simp only[sx,↓reduceIte];exact fin g a k
theorem GN:C0.ext 165=none:=by kernel_rfl
structure RowQ (b:Nat) (g2 g3:G) (e:Ex) (A B:Prop):Prop where
 nx:g2.nx<=g3.nx
 fr:∀i,b<=i->i<g2.nx->g3.h.get i=g2.h.get i
 st:(e=.norm/\A)\/(e=.ret/\B)
theorem F8{y p q:Nat}{c:Int}{pa ra:AV}{rws:List (List Int)}{ca cb:SC}(hra:SlR NoP 0 .nil rws ra)(hv:tat t y=.clo 165 [] [.tptr 0 3 [[XL c,pa,ra]] 0 0])(hp:p<nt)(hq:q<nt)
  (J:Nat->H->Prop) (E:H->Prop) (hJ:∀j h h',(∀i,i<g.nx->h'.get i=h.get i)->J j h->J j h') (hE:∀h h',(∀i,i<g.nx->h'.get i=h.get i)->E h->E h') (h0:J 0 g.h)
  (step:∀(j:Nat) (r:List Int) (z:AV) (g1:G),rws[j]?=some r->SlR NoP 0 .nil r z->J j g1.h->g.nx+2<=g1.nx ->
   wp C0 d (some (g.nx+1)) ca (λe t1 df g1'=>e=.norm/\df=[]/\g1'=g1/\∀g2:G,g2.nx=g1.nx->(∀i,i≠g.nx+1->g2.h.get i=g1.h.get i) ->
    wp C0 d (some (g.nx+1)) cb (λe _ df g3=>df=[]/\RowQ g.nx g2 g3 e (J (j+1) g3.h) (E g3.h)) t1 [] g2)
    (d6 (d6 t p (XL (j:Int))) q z) [] g1)
  (fin:∀g',J rws.length g'.h->g.nx+2<=g'.nx->g'.h.get g.nx=.dfr true->Q .norm t [.mark g.nx] g')
  (finE:∀g',E g'.h->g.nx+2<=g'.nx->g'.h.get g.nx=.dfr true->Q .ret t [.mark g.nx] g') :
  wp C0 d none (.rng nt (.t y) [p,q] ca cb) Q t [] g:=by
 refine nC (fn:=165) (first:=[]) (cap:=[.tptr 0 3 [[XL c,pa,ra]] 0 0]) (s:=fW) hv GN B0 (by simp[fW]) ?_;intro assign body ha hb;have e1:((g.new (.dfr true)).new (.loop nt t [p,q] assign body g.nx .ready none)).nx=g.nx+2:=by simp
 refine M6 (g0:=(g.new (.dfr true)).new (.loop nt t [p,q] assign body g.nx .ready none)) (id:=g.nx+1) hra
  (λj h=>J j h/\h.get g.nx=.dfr true/\h.get (g.nx+1)=.loop nt t [p,q] assign body g.nx .ready none)
  (λg'=>E g'.h/\g'.h.get g.nx=.dfr true/\g'.h.get (g.nx+1)=.loop nt t [p,q] assign body g.nx .done (some .ret)/\g.nx+2<=g'.nx) ?_ ?_ ?_ ?_
 ·rintro j r z g1 K' D hr hz k ⟨a1,a2,a⟩ kk kE;rw[e1]at k;refine C6 a ha hb (t':=d6 (d6 t p (XL (j:Int))) q z) ?_ ?_
  ·simp only[cp,aa,UH,TO hp,TO hq];rfl
  ·refine bE _ (step j r z g1 hr hz a1 (by omega)) ?_;rintro e t1 df g1' ⟨rfl,rfl,rfl,h⟩;refine⟨rfl,rfl,rfl,?_⟩;have hl:g.nx+1<g1'.nx:=by omega
   refine bE _ (h (g1'.put (g.nx+1) (.loop nt t [p,q] assign body g.nx .busy none)) (by simp) (λi hi=>by simp[RQ,hi])) ?_;rintro e t2 df g3 ⟨rfl,⟨b2,b,b1⟩⟩;have l:g3.h.get (g.nx+1)=.loop nt t [p,q] assign body g.nx .busy none:=by rw[b _ (by omega) (by simpa using hl)];simp[RQ]
   have f:g3.h.get g.nx=.dfr true:=by rw[b _ (by omega) (by simp;omega)];simp[RQ,a2]
   refine⟨rfl,l,?_⟩;rcases b1 with⟨rfl,b1⟩|⟨rfl,b1⟩
   ·refine .inl ⟨rfl,kk _ ⟨hJ _ g3.h _ (λi hi=>by simp[RQ,show ¬i=g.nx+1 by omega]) b1,?_,?_⟩ (by simpa using b2)⟩
    ·simp[RQ,f]
    ·simp[RQ]
   ·refine .inr ⟨rfl,kE _ ⟨hE g3.h _ (λi hi=>by simp[RQ,show ¬i=g.nx+1 by omega]) b1,?_,?_,?_⟩⟩
    ·simp[RQ,f]
    ·simp[RQ]
    ·simp at b2 ⊢;omega
 ·refine⟨hJ 0 g.h _ (λi hi=>?_) h0,?_,?_⟩
  ·simp[RQ,show ¬i=g.nx+1 by omega,show ¬i=g.nx by omega]
  ·simp[RQ]
  ·simp[RQ]
 ·rintro g' ⟨a1,a2,a⟩ k;rw[e1]at k;refine⟨_,_,_,_,_,_,.inl ⟨a,fin _ (hJ _ g'.h _ (λi hi=>by simp[RQ,show ¬i=g.nx+1 by omega]) a1) (by simpa using k) ?_⟩⟩;simp[RQ,a2]
 ·rintro g' ⟨a1,a2,a,k⟩;refine⟨_,_,_,_,_,_,.inr ⟨a,finE _ (hE g'.h _ (λi hi=>by simp[RQ,show ¬i=g.nx+1 by omega]) a1) (by simpa using k) ?_⟩⟩;simp[RQ,a2]
end
abbrev NwM:Type:=Net×List Int×List Nat×List Int
theorem yF{x:NwM}{cs:List AV}:Rp.rp P k h x cs↔∃a b c e,cs=[XL x.1.grain,a,b,c,e]/\SlR P k h x.1.nodes a/\SlR P k h x.2.1 b/\SlR P k h x.2.2.1 c/\SlR P k h x.2.2.2 e:=by
 constructor
 ·rintro⟨c1,d,rfl,h1,f,i,rfl,⟨b,rfl,hb⟩,j,l,rfl,⟨c,rfl,hc⟩,⟨e,rfl,he⟩⟩;obtain⟨a,rfl,ha⟩:=ie.1 h1;exact⟨a,b,c,e,rfl,ha,hb,hc,he⟩
 ·rintro⟨a,b,c,e,rfl,ha,hb,hc,he⟩;exact⟨[_,a],[b,c,e],rfl,ie.2 ⟨a,rfl,ha⟩,[b],[c,e],rfl,⟨b,rfl,hb⟩,[c],[e],rfl,⟨c,rfl,hc⟩,⟨e,rfl,he⟩⟩
theorem Es:∀{l:List Int},(∀x∈l,0<=x)->0<=l.sum
 |[],_=>by simp
 | x::l,h=>by have:=Es (l:=l) λy hy=>h y (by simp[hy]);have:=h x (by simp);rw[VJ];omega
theorem Gi(h:∀x∈l,0<=x)(j:Nat):(l.take j).sum<=l.sum:=by
 have:=Es (l:=l.drop j) λx hx=>h x (Uz hx);have e:l.sum=(l.take j).sum+(l.drop j).sum:=by rw[<-WV,UE]
 omega
theorem AZ:∀{l:List Int},(∀x∈l,0<=x)->∀x∈l,x<=l.sum
 |[],_,x,hx=>by simp at hx
 | y::l,h,x,hx=>by
  have h1:=Es (l:=l) λz hz=>h z (by simp[hz]);have h2:=h y (by simp);rw[VJ];rcases Us.1 hx with rfl|hx
  ·omega
  ·have:=AZ (l:=l) (λz hz=>h z (by simp[hz])) x hx;omega
def S.Sy(gr:Int)(cs:List Int)(x:Node):Bool:=decide ((x.rows.length:Int)=S.RP (S.RO cs x.parents))&&x.rows.all (S.Sp gr x.card)
structure FJ (gr:Int) (r:List Int) (z:AV) (j:Nat) (t:T):Prop where
 st:St t [(2,XM 0),(3,XM 1),(4,XM 2),(9,z),(40,z),(10,XL (gr - (r.take j).sum))]
 nn:∀x∈r.take j,0<=x
 le:(r.take j).sum<=gr
theorem JQ{rd:Option Nat}{gr:Int}{r:List Int}{z:AV}(hz:SlR NoP 0 .nil r z)(hg1:1<=gr/\gr<=60)
  (ht:St t [(2,XM 0),(3,XM 1),(4,XM 2),(9,z),(40,z),(10,XL gr)]) (h42:tat t 42=XL 0) (h41:tat t 41=XL (r.length:Int)) (e2:g.h.get 2=W8 1 [[.bool false]])
  (bad:∀t,(∀card,S.Sp gr card r=false)->Q .ret t [] (g.put 2 (W8 1 [[.bool false]])))
  (fin:∀t,(∀x∈r,0<=x)->r.sum<=gr->St t [(2,XM 0),(3,XM 1),(4,XM 2),(9,z),(10,XL (gr - r.sum))]->Q (.exit 4) t [] g) :
  wpL (wp C0 d rd dR) Q t [] g:=by
 have rz:=λh=>(hz.tree (h':=h) (TG 0)).ints;simp only[dR];refine aI (m:=r.length) hz.1 (λj t df g'=>df=[]/\g'=g/\FJ gr r z j t) ⟨rfl,rfl,by simpa using ht,by simp,by simp;omega⟩ h42 h41 (by decide)
  (by rintro j t df g v s (rfl|rfl|rfl) ⟨a1,a2,⟨b1,b2,n,o,p,q,-⟩,u,w⟩<;>exact⟨a1,a2,by simp[St,sx,b1,b2,n,o,p,q],u,w⟩) ?_ ?_
 ·rintro j t df g' i ⟨rfl,rfl,⟨⟨h2,h3,h4,h9,k,h10,-⟩,a,c⟩⟩ h42 h41;obtain⟨y,B,b,hm⟩:=ae i;have e:j<(r.map ci).length:=by simpa using i
  have f:(r.map ci)[j]?=some (ci y):=by rw[TK,B];rfl
  have A:=Es a
  by_cases c1:y<0
  ·simp only[sz,simprocAttr,h4,k,h42,rz,e,f,ci,c1,e2];exact bad _ (λcard=>by
    rw[<-Vh,S.Sp];simp only[TM,T9,Ue];rintro⟨⟨-,h⟩,-⟩;have:=h y hm;omega)
  ·by_cases c2:gr - (r.take j).sum<y
   ·simp only[sz,simprocAttr,h4,k,h10,h42,rz,e,f,ci,c1,c2,e2];exact bad _ (λcard=>by
     rw[<-Vh,S.Sp];simp only[TM,T9,Ue];rintro⟨⟨-,h⟩,hs⟩;have h1:=Gi (l:=r) (λx hx=>(h x hx).1) (j+1);rw[b,Bz]at h1;omega)
   ·have w1:IntKind.wrap .i64 (gr - (r.take j).sum - y)=gr - (r.take (j+1)).sum:=by rw[ap (by omega) (by omega),b,Bz];omega
    simp only[sz,simprocAttr,k,h10,h42,h41,rz,e,f,ci,c1,c2,w1];refine⟨by simp[St,sx,h2,h3,h4,h9,k],λx hx=>?_,by rw[b,Bz];omega⟩;rw[b]at hx;rcases Uk.1 hx with h|h
    ·exact a x h
    ·rw[UX.1 h];omega
 ·rintro t df g' ⟨rfl,rfl,⟨⟨h2,h3,h4,h9,k,h10,-⟩,a,c⟩⟩;rw[Ur]at a c h10;exact fin t a c ⟨h2,h3,h4,h9,h10,trivial⟩
structure FlJ (cs1 cs2:List AV) (gr card:Int) (rws:List (List Int)) (j:Nat) (h:H):Prop where
 a0:h.get 0=W8 5 [cs1]
 a1:h.get 1=W8 3 [cs2]
 a2:h.get 2=W8 1 [[.bool false]]
 all:∀r∈rws.take j,S.Sp gr card r=true
structure FlE (gr card:Int) (rws:List (List Int)) (h:H):Prop where
 a2:h.get 2=W8 1 [[.bool false]]
 ex:∃r∈rws,S.Sp gr card r=false
theorem JR{k1 k2:Nat}{P1 P2:Nat->Prop}{m:NwM}(hd:0<d)(hm:Agg m P1 k1 g.h v)(hx:Agg x P2 k2 g.h w)(hk:k2=0/\P2=NoP)(hg1:1<=m.1.grain/\m.1.grain<=60)(hc:∀c∈m.2.1,1<=c/\c<=4)
  (hp:∀p∈x.parents,0<=p/\p<m.2.1.length) (hpl:x.parents.length<=8):ah C0 d 123 [v,w] g=.val (.bool (S.Sy m.1.grain m.2.1 x)):=by
 obtain⟨rfl,rfl⟩:=hk;obtain⟨v',e1,cs,rfl,R⟩:=su (cq m) (by decide) d hm;obtain⟨nb,cb,sb,ob,rfl,-,Q,-,-⟩:=yF.1 R;have e2:=mo d hx;obtain⟨cs2,rfl,u⟩:=hx;obtain⟨pa,ra,rfl,L,E⟩:=cI.1 u;have A:∀h,Agg x NoP 0 h (.agg [XL x.card,pa,ra]):=λh=>⟨_,rfl,Rp.tree u (TG _)⟩;have E:=E.tree (h':=.nil) (TG 0);have rp:=λh=>(L.tree (h':=h) (TG 0)).ints;have rc:=λh=>(Q.tree (h':=h) (TG _)).ints;have pl:=λg=>(L.tree (h':=.nil) (TG 0)).len g;have rl:=λg=>E.len g;rw[pu];refine kV rZ (xs:=[.agg [XL m.1.grain,nb,cb,sb,ob],.agg [XL x.card,pa,ra]]) (by simp only[aF,e1,e2]) (by simp[fF]) hd ?_;simp only[sz,simprocAttr,fF];obtain⟨g0,hg0⟩:∃g0,g0=((G.empty.new (W8 5 [[XL m.1.grain,nb,cb,sb,ob]])).new (W8 3 [[XL x.card,pa,ra]])).new (W8 1 [[.bool false]]):=⟨_,rfl⟩;rw[<-hg0];have f0:g0.h.get 0=W8 5 [[XL m.1.grain,nb,cb,sb,ob]]:=by rw[hg0];simp[sx,RQ]
 have f1:g0.h.get 1=W8 3 [[XL x.card,pa,ra]]:=by rw[hg0];simp[sx,RQ]
 have f2:g0.h.get 2=W8 1 [[.bool false]]:=by rw[hg0];simp[sx]
 have f3:g0.nx=3:=by rw[hg0];simp[sx]
 clear hg0;simp only[sz,simprocAttr,jk,f1,pl,iF];refine aI (m:=x.parents.length) (by omega) (λj t df g=>df=[]/\g=g0/\St t [(2,XM 0),(3,XM 1),(4,XM 2),(14,pa),(5,XL (S.RP (S.RO m.2.1 (x.parents.take j))))])
  ⟨rfl,rfl,by simp[St,sx,S.RP,S.RO]⟩ (by simp[sx]) (by simp[sx]) (by decide) (by rintro j t df g v s (rfl|rfl|rfl)<;>simp[St,sx]) ?_ ?_
 ·rintro j t df g X ⟨rfl,rfl,⟨h2,h3,h4,f,h5,-⟩⟩ O h15;obtain⟨p,U,H,T⟩:=ae X;obtain⟨p0,p1⟩:=hp p T;obtain⟨p,rfl⟩:=TP p0;have e:p<m.2.1.length:=by omega
  have u1:j<(x.parents.map ci).length:=by simpa using X
  have u2:(x.parents.map ci)[j]?=some (ci (p:Int)):=by rw[TK,U];rfl
  have u3:p<(m.2.1.map ci).length:=by simpa using e
  have u4:(m.2.1.map ci)[p]?=some (ci m.2.1[p]):=by rw[TK,TH e];rfl
  have e3:S.RP (S.RO m.2.1 (x.parents.take (j+1)))=S.RP (S.RO m.2.1 (x.parents.take j))*m.2.1[p]:=by rw[H,cQ,kY];congr 1;simp[S.RO,S.RP,TH e]
  have ha:=bG (l:=S.RO m.2.1 (x.parents.take (j+1))) (aZ hc λq hq=>hp q (Uc hq));have h8:=eP (a:=(S.RO m.2.1 (x.parents.take (j+1))).length) (b:=8) (by simp[S.RO];omega);have h6:(4:Int) ^ 8=65536:=by decide
  have w1:IntKind.wrap .i64 (S.RP (S.RO m.2.1 (x.parents.take j))*m.2.1[p])=S.RP (S.RO m.2.1 (x.parents.take (j+1))):=by rw[<-e3,ap (by omega) (by omega)]
  simp only[sz,simprocAttr,h2,f,h5,O,h15,f0,rp,rc,u1,u2,u3,u4,ci,w1];simp[St,sx,h2,h3,h4,f]
 rintro t df g ⟨rfl,rfl,⟨h2,h3,h4,f,h5,-⟩⟩;rw[Ur]at h5;simp only[iI]
 by_cases c1:(x.rows.length:Int)=S.RP (S.RO m.2.1 x.parents)
 ·obtain⟨pa',ra',er,Z,M⟩:=A7 (d:=d+1) (g:=g) (TW d) (A g.h);refine iX (P:=λt' df g'=>df=[]/\g'=g/\St t' [(2,XM 0),(3,XM 1),(4,XM 2)]) ?_ ?_
  ·simp only[sz,simprocAttr,h3,h5,f1,rl,c1];simp[St,sx,h2,h3,h4]
  clear h2 h3 h4 h5 f;rintro t df g ⟨rfl,rfl,h2,h3,h4,-⟩;rw[b_,b_];simp only[sz,simprocAttr,h3,f1,er];refine F8 (c:=x.card) (pa:=pa') M (by simp[sx]) (by decide) (by decide)
   (FlJ [XL m.1.grain,nb,cb,sb,ob] [XL x.card,pa,ra] m.1.grain x.card x.rows)
   (FlE m.1.grain x.card x.rows) ?_ ?_ ⟨f0,f1,f2,by simp⟩ ?_ ?_ ?_
  ·rintro j h h' J ⟨a0,a1,a2,o⟩;exact⟨by rw[J 0 (by omega),a0],by rw[J 1 (by omega),a1],by rw[J 2 (by omega),a2],o⟩
  ·rintro h h' J ⟨a2,o⟩;exact⟨by rw[J 2 (by omega),a2],o⟩
  ·rintro j r z g1 hr hz ⟨a0,a1,a2,o⟩ Y;obtain⟨r',n,H,F⟩:=ae (l:=x.rows) (j:=j) (TJ.1 hr).1;rw[hr]at n;injection n with n;subst n;simp only[sz,simprocAttr,iE];intro g2 W C;have V:g2.h.get 0=W8 5 [[XL m.1.grain,nb,cb,sb,ob]]:=by rw[C 0 (by omega),a0]
   have b1:g2.h.get 1=W8 3 [[XL x.card,pa,ra]]:=by rw[C 1 (by omega),a1]
   have b2:g2.h.get 2=W8 1 [[.bool false]]:=by rw[C 2 (by omega),a2]
   simp only[sz,simprocAttr,iG,h2,V,hz.len];refine JQ (gr:=m.1.grain) (r:=r) (z:=z) hz hg1 (by simp[St,sx,h2,h3,h4]) (by simp[sx]) (by simp[sx]) b2 ?_ ?_
   ·rintro t N;simp only[sx,sy];exact⟨by simp,λi h1 h2=>by simp[RQ,show ¬i=2 by omega],.inr ⟨rfl,by simp[RQ],r,F,N _⟩⟩
   ·rintro t K h7 ⟨h2,h3,h4,h9,h10,-⟩;have I:=λg=>hz.len g
    by_cases c2:(r.length:Int)=x.card
    ·by_cases c3:m.1.grain - r.sum=0
     ·simp only[sz,simprocAttr,ch,h3,h9,h10,I,b1,c2,c3];refine⟨TG _,λi _ _=>rfl,.inl ⟨rfl,V,b1,b2,λy hy=>?_⟩⟩;rw[H]at hy;rcases Uk.1 hy with h|h
      ·exact o y h
      ·rw[UX.1 h,S.Sp];simp only[TM,T9,Ue];exact⟨⟨c2,λq hq=>⟨K q hq,by have:=AZ K q hq;omega⟩⟩,by omega⟩
     ·have k:S.Sp m.1.grain x.card r=false:=by rw[S.Sp];simp;intros;omega
      simp only[sz,simprocAttr,ch,h3,h4,h9,h10,I,b1,b2,c2,c3];exact⟨by simp,λi h1 h2=>by simp[RQ,show ¬i=2 by omega],.inr ⟨rfl,by simp[RQ],r,F,k⟩⟩
    ·have k:S.Sp m.1.grain x.card r=false:=by rw[S.Sp];simp[c2]
     simp only[sz,simprocAttr,ch,h3,h4,h9,I,b1,b2,c2];exact⟨by simp,λi h1 h2=>by simp[RQ,show ¬i=2 by omega],.inr ⟨rfl,by simp[RQ],r,F,k⟩⟩
  ·rintro g' ⟨a0,a1,a2,o⟩ Y B;rw[Ur]at o;have D:S.Sy m.1.grain m.2.1 x=true:=by rw[S.Sy,Ue.2 o];simp[c1]
   simp only[sz,simprocAttr,iH,h4,a2];refine eM (by simp[RQ,show ¬g.nx=2 by omega,B]) ?_;simp only[sx,sy,↓reduceIte,Nat.reduceEqDiff,h4,D];simp[show ¬(2=g.nx) by omega]
   rfl
  ·rintro g' ⟨a2,r,hr,k⟩ Y B;have D:S.Sy m.1.grain m.2.1 x=false:=by
    rw[S.Sy];have:x.rows.all (S.Sp m.1.grain x.card)=false:=by rw[<-Vh,Ue];intro h;rw[h r hr]at k;cases k
    rw[this,Bool.and_false]
   simp only[sx];refine eM B ?_;simp only[sx,sy,↓reduceIte,Nat.reduceEqDiff,h4,D];rw[TN (by omega),a2]
   rfl
 ·simp only[sz,simprocAttr,h3,h4,h5,f1,f2,rl,c1];rw[S.Sy];simp[c1]
theorem zk:∀{l:List Int} {v:Nat},(∀x∈l,0<=x/\x<64)->((S.R0 l).testBit v=true↔(v:Int)∈l):=by
 have key:∀(l:List Int) (s v:Nat),(∀x∈l,0<=x/\x<64)->((l.foldl (λs x=>s ||| S.Sn x.toNat) s).testBit v=true↔s.testBit v=true\/(v:Int)∈l):=by
  intro l
  induction l with
  |nil=>intro s v _;simp
  | cons x l ih =>
   intro s v h;have hx:=h x (by simp);rw[Wp,ih _ _ λy hy=>h y (by simp[hy]),tQ,zN (show x.toNat<64 by omega),UB,T9,Us];constructor
   ·rintro ((h|h)|h)
    ·exact .inl h
    ·exact .inr (.inl (by omega))
    ·exact .inr (.inr h)
   ·rintro (h|h|h)
    ·exact .inl (.inl h)
    ·exact .inl (.inr (by omega))
    ·exact .inr h
 intro l v h;have:=key l 0 v h;simpa [S.R0] using this
theorem Mu(hk:k<=64)(h:∀x∈l,0<=x/\x<k):S.R0 l<2 ^ k:=by
 have hb:∀i,k<=i->(S.R0 l).testBit i=false:=λi hi=>by rw[<-Vh,zk λx hx=>by have:=h x hx;omega];intro hm;have:=h _ hm;omega
 exact Nat.lt_pow_two_of_testBit _ λi hi=>hb i hi
structure RdH (n:Net) (b cv sv:AV) (q:Nat) (X:List Int) (Y:List Nat) (g:G):Prop where
 h0:g.h.get 0=W8 2 [[XL n.grain,b]]
 h1:g.h.get 1=W8 5 [[XL 0,.nils,.nils,.nils,.nils]]
 hq:g.h.get q=W8 5 [[XL n.grain,b,cv,sv,.nils]]
 hc:Own g 2 cv 1 (X.map ci)
 hs:Own g 2 sv 1 (Y.map cu)
 q2:2<=q
 qn:q<g.nx
 d1:vid cv≠some q
 d2:vid sv≠some q
 d3:∀i,vid cv=some i->vid sv≠some i
theorem RdH.fr{n:Net}{b cv sv:AV}{q:Nat}{X:List Int}{Y:List Nat}{g':G}(h:RdH n b cv sv q X Y g)(f:Fr g g'):RdH n b cv sv q X Y g' :=
 ⟨by rw[f.2 0 (by have:=h.qn;have:=h.q2;omega),h.h0],by rw[f.2 1 (by have:=h.qn;have:=h.q2;omega),h.h1],by rw[f.2 q h.qn,h.hq],h.hc.step f,h.hs.step f,h.q2,TU h.qn f.1,h.d1,h.d2,h.d3⟩
def S.Tm(n:Net)(o:List Int):NwM:=if S.Sl n then (n,S.RN n,S.RX n,o) else (⟨0,[]⟩,[],[],[])
def EB(n:Net):VS:=λP k h v=>∃o:List Int,True/\pj (Agg (S.Tm n o)) (One (if S.Sl n then (0:Int) else 50)) P k h v
section
variable {d:Nat}{n:Net}{b cv sv:AV}{q:Nat}{rows:List (List AV)}
def LRd(q:Nat):List (Nat×AV):=[(1,XM 0),(2,XM 1),(4,XM q)]
theorem QN(hn:¬NR n)(h1:g.h.get 1=W8 5 [[XL 0,.nils,.nils,.nils,.nils]])(t2:tat t 2=XM 1)(t3:tat t 3=XL 50) :
  fnQ C0 d mP.res (λv g'=>∃P,EB n P 0 g'.h v) .ret t [] g:=by
 have hf:S.Sl n=false:=by
  cases h:S.Sl n with
  |false=>rfl
  |true=>exact absurd (cA.1 h) hn
 simp only[mP,sx,sy,↓reduceIte,Nat.reduceAdd,Nat.reduceLeDiff,t2,t3,h1];refine⟨λ_=>True,[],trivial,_,_,rfl,⟨_,rfl,?_⟩,?_⟩
 ·rw[S.Tm,hf];exact yF.2 ⟨.nils,.nils,.nils,.nils,rfl,⟨by show 0<9223372036854775808;decide,rfl⟩,⟨by show 0<9223372036854775808;decide,rfl⟩,⟨by show 0<9223372036854775808;decide,rfl⟩,⟨by show 0<9223372036854775808;decide,rfl⟩⟩
 ·rw[hf];exact ax.2 rfl
structure Rd0 (n:Net) (b cv sv:AV) (q j:Nat) (t:T) (g:G):Prop where
 st:St t ((48,b)::(5,XL (S.RP ((S.RN n).take j)))::LRd q)
 hp:RdH n b cv sv q ((S.RN n).take j++List.replicate (n.nodes.length - j) 0) (List.replicate n.nodes.length 0) g
 ok:∀x∈n.nodes.take j,1<=x.card/\x.card<=4
theorem OX(hl:n.nodes.length<=8)(hN:SlR NoP 0 .nil n.nodes b)(r1:∀h,ak h 3 b=some rows)(r2:rows.length=n.nodes.length)
  (r3:∀(i:Nat) (x:Node),n.nodes[i]?=some x->∃pa ra,rows[i]?=some [XL x.card,pa,ra]/\i<rows.length/\SlR NoP 0 .nil x.parents pa/\SlR NoP 0 .nil x.rows ra) (r4:0<n.nodes.length->vN b=true)
  (h0:Rd0 n b cv sv q 0 t g) (h50:tat t 50=XL 0) (h49:tat t 49=XL (n.nodes.length:Int))
  (bad:∀t g,¬NR n->g.h.get 1=W8 5 [[XL 0,.nils,.nils,.nils,.nils]]->tat t 2=XM 1->tat t 3=XL 50->Q .ret t [] g)
  (fin:∀t g,Rd0 n b cv sv q n.nodes.length t g->Q (.exit 0) t [] g):wpL (wp C0 d none oD) Q t [] g:=by
 simp only[oD];refine aI (m:=n.nodes.length) (by omega) (λj t df g=>df=[]/\Rd0 n b cv sv q j t g) ⟨rfl,h0⟩ h50 h49 (by decide)
  (by rintro j t df g v s (rfl|rfl|rfl) ⟨a1,⟨b1,b2,O,R,U,-⟩,c1,u⟩<;>exact⟨a1,by simp[St,LRd,sx,b1,b2,O,R,U],c1,u⟩) ?_ ?_
 ·rintro j t df g V ⟨rfl,⟨⟨f,h5,h1,h2,h4,-⟩,hp,H⟩⟩ h50 h49;obtain⟨x,hx,I,J⟩:=ae V;obtain⟨pa,ra,K,hlt,Y,h3⟩:=r3 j x hx;have h8:=r4 (by omega);have q2:=hp.q2;have qn:=hp.qn;have o:¬(1=g.nx):=by omega
  have N:¬(q=g.nx):=by omega
  have f1:Fr g (g.new (W8 3 [[XL 0,.nils,.nils]])):=Fr.new _ _;have badn:¬(1<=x.card/\x.card<=4)->¬NR n:=λh hr=>h (hr.card x J)
  by_cases c1:x.card<1
  ·simp only[sz,simprocAttr,h2,f,h50,r1,hlt,K,hp.h1,o,c1];exact bad _ _ (badn (by omega)) (by simp[RQ]) (by simp[sx,h2]) (by simp[sx])
  ·by_cases u:4<x.card
   ·simp only[sz,simprocAttr,h2,f,h50,r1,hlt,K,hp.h1,o,c1,u];exact bad _ _ (badn (by omega)) (by simp[RQ]) (by simp[sx,h2]) (by simp[sx])
   ·have l:∀y∈n.nodes.take (j+1),1<=y.card/\y.card<=4:=λy w=>by
     rw[I]at w;rcases Uk.1 w with h|h
     ·exact H y h
     ·rw[UX.1 h];omega
    have D:∀c∈(S.RN n).take (j+1),1<=c/\c<=4:=λc hc=>by rw[S.RN,<-List.map_take]at hc;obtain⟨y,w,rfl⟩:=UF.1 hc;exact l y w
    have Z:=bG D;have X:=eP (a:=((S.RN n).take (j+1)).length) (b:=8) (by rw[T_];omega);have M:(4:Int) ^ 8=65536:=by decide
    have E:(S.RN n)[j]?=some x.card:=by simp[S.RN,hx]
    have ets:(S.RN n).take (j+1)=(S.RN n).take j++[x.card]:=by rw[We,E];rfl
    have e1:S.RP ((S.RN n).take (j+1))=S.RP ((S.RN n).take j)*x.card:=by rw[ets];exact uf _ _
    have w1:IntKind.wrap .i64 (S.RP ((S.RN n).take j)*x.card)=S.RP ((S.RN n).take (j+1)):=by rw[<-e1,ap (by omega) (by omega)]
    have r:((S.RN n).take j).length=j:=by rw[T_,aB];omega
    have B:(((S.RN n).take j++List.replicate (n.nodes.length - j) 0).map ci)[j]?=some (ci 0):=by rw[TK,T0 (by omega),r,UD,VQ,TO (by omega)];rfl
    have A:j<(((S.RN n).take j++List.replicate (n.nodes.length - j) 0).map ci).length:=by simp[aB];omega
    have C:((S.RN n).take j++List.replicate (n.nodes.length - j) 0).set j x.card=(S.RN n).take (j+1)++List.replicate (n.nodes.length - (j+1)) 0:=by rw[UU _ _ (by omega),r,UD,ets,show n.nodes.length - j=(n.nodes.length - (j+1))+1 by omega,UY,Vm,UJ];rfl
    have W:=hp.fr f1;obtain⟨g2,p⟩:∃g2,g2=(g.new (W8 3 [[XL 0,.nils,.nils]])).put g.nx (W8 3 [[XL x.card,pa,ra]]):=⟨_,rfl⟩;have f2:Fr g g2:=by rw[p];exact PI (by simp) λi hi=>by simp[RQ,show ¬i=g.nx by omega]
    have k:=hp.fr f2;have L:g2.h.get g.nx=W8 3 [[XL x.card,pa,ra]]:=by rw[p];simp[RQ]
    refine ge (P:=λt' df g'=>df=[]/\g'=g2/\St t' ((48,b)::(5,XL (S.RP ((S.RN n).take j)))::LRd q)/\tat t' 6=XL (j:Int)/\tat t' 7=XM g.nx/\tat t' 50=XL (j:Int)/\tat t' 49=XL (n.nodes.length:Int)) ?_ ?_
    ·simp only[sz,simprocAttr,f,h49,h50,r1,hlt,K];rw[p];simp[St,LRd,sx,h1,h2,h4,h5,f]
    clear h1 h2 h4 h5 f h49 h50;rintro t df g3 ⟨rfl,rfl,⟨f,h5,h1,h2,h4,-⟩,h6,h7,h50,h49⟩;have F:=k.hc.rows;simp only[sz,simprocAttr,h4,h6,h7,L,k.hq,F,A,c1,u];refine bC (v:=cv) (sz:=1) (n:=1) (i:=j) (off:=0) (x:=XL x.card) (row':=ci x.card) k.hc B rfl rfl rfl λg4 hu4 n4 f4=>?_;rw[qL,C]at hu4;have z:g4.h.get g.nx=W8 3 [[XL x.card,pa,ra]]:=by rw[f4 _ λe=>by have:=(hp.hc.lt e).2;omega,L]
    simp only[sz,simprocAttr,h5,h7,h49,h50,z,w1];refine⟨by simp[St,LRd,sx,h1,h2,h4,f],⟨?_,?_,?_,hu4,?_,q2,by rw[n4];exact k.qn,hp.d1,hp.d2,hp.d3⟩,l⟩
    ·rw[f4 0 λe=>by have:=(hp.hc.lt e).1;omega,k.h0]
    ·rw[f4 1 λe=>by have:=(hp.hc.lt e).1;omega,k.h1]
    ·rw[f4 q hp.d1,k.hq]
    ·exact k.hs.fr (by omega) λi hi=>f4 i λe=>hp.d3 i e hi
 ·rintro t df g ⟨rfl,h⟩;exact fin t g h
end
section
variable {p:Int}
def jy(ps:List Int)(i:Nat):Int:=if i=0 then -1 else ps[i - 1]?.getD 0
theorem yy(h:ps[i]?=some p):jy ps (i+1)=p:=by unfold jy;rw[TN (by omega),VP,h];rfl
structure PlI (ps:List Int) (k:Int) (v i:Nat):Prop where
 rng:∀(j:Nat) (p:Int),j<i->ps[j]?=some p->0<=p/\p<k/\p≠(v:Int)
 inc:∀(j:Nat) (p q:Int),j+1<i->ps[j]?=some p->ps[j+1]?=some q->p<q
theorem MX{k:Int}{v:Nat}(h:PlI ps k v i)(hp:ps[i]?=some p)(h1:jy ps i<p)(h2:p<k)(h3:p≠(v:Int)):PlI ps k v (i+1):=by
 refine⟨λj q hj hq=>?_,λj a c hj ha hc=>?_⟩
 ·by_cases e:j=i
  ·subst e;rw[hp]at hq;injection hq with hq;subst hq;refine⟨?_,h2,h3⟩
   by_cases e0:j=0
   ·subst e0;unfold jy at h1;simp at h1;omega
   ·have b:j - 1<ps.length:=by have:=(TJ.1 hp).1;omega
    have:=h.rng (j - 1) ps[j - 1] (by omega) (TH b);unfold jy at h1;rw[TN e0,TH b,TS]at h1;omega
  ·exact h.rng j q (by omega) hq
 ·by_cases e:j+1=i
  ·subst e;rw[hp]at hc;injection hc with hc;subst hc;rw[yy ha]at h1;exact h1
  ·exact h.inc j a c (by omega) ha hc
theorem Hg{k:Int}{v:Nat}(h:PlI ps k v ps.length):S.Sa ps k=true:=by
 unfold S.Sa;rw[Ue];intro i hi;have hi:=T8.1 hi;have hp:ps[i]?=some ps[i]:=TH hi;obtain⟨a,b,-⟩:=h.rng i _ hi hp
 by_cases e:i=0
 ·subst e;simp only[S.SG,hp,TS];simp;omega
 ·have hq:ps[i - 1]?=some ps[i - 1]:=TH (by omega);have:=h.inc (i - 1) _ ps[i] (by omega) hq (by rw[show i - 1+1=i by omega];exact hp);simp only[S.SG,hp,hq,TS];simp;omega
theorem NR.pl{n:Net}(h:NR n){v:Nat}(hx:n.nodes[v]?=some x)(hp:x.parents[i]?=some p):jy x.parents i<p/\p<n.nodes.length/\p≠(v:Int):=by
 have hm:=TL hx;have k:=h.places x hm;have h1:=da k p (TL hp);have hl2:=h.l2;refine⟨?_,h1.2,λe=>?_⟩
 ·unfold jy
  split
  ·omega
  ·rename_i e;have b:=(TJ.1 hp).1;have hq:x.parents[i - 1]?=some x.parents[i - 1]:=TH (by omega);rw[hq,TS];exact vK k hq (by rw[show i - 1+1=i by omega];exact hp)
 ·have c:=(TJ.1 hx).1;have ha:=vY.1 h.acyc v (by simp[S.RX];exact c);have a:Par (S.RX n) v=S.R0 x.parents:=by simp[Par,S.RX,hx]
  have hb:(Par (S.RX n) v).testBit v=true:=by rw[a,zk λy hy=>by have:=da k y hy;omega,<-e];exact TL hp
  have:=zA (p:=S.RX n) (s:=Par (S.RX n) v) (S.RX n).length v hb;rw[this]at ha;cases ha
section
variable {d:Nat}{n:Net}{b cv sv:AV}{q:Nat}{rows:List (List AV)}
def S.Si(n:Net)(j:Nat)(m:Nat):List Nat:=(S.RX n).take j++m::List.replicate (n.nodes.length - (j+1)) 0
structure Rd1 (n:Net) (x:Node) (b cv sv pa:AV) (q j p9 i:Nat) (t:T) (g:G):Prop where
 st:St t ((80,b)::(81,XL (n.nodes.length:Int))::(82,XL (j:Int))::(88,pa)::(8,XL (j:Int))::(9,XM p9)::(10,XL (jy x.parents i))::LRd q)
 hp:RdH n b cv sv q (S.RN n) (S.Si n j (S.R0 (x.parents.take i))) g
 ok:PlI x.parents n.nodes.length j i
theorem OY{pa:AV}{j p9:Nat}{c9:List AV}(hl:n.nodes.length<=8)(hN:SlR NoP 0 .nil n.nodes b)(hx:n.nodes[j]?=some x)(hpa:SlR NoP 0 .nil x.parents pa)
  (h0:Rd1 n x b cv sv pa q j p9 0 t g) (h90:tat t 90=XL 0) (h89:tat t 89=XL (x.parents.length:Int)) (e9:g.h.get p9=W8 3 [c9]) (p9s:vid sv≠some p9)
  (bad:∀t g,¬NR n->g.h.get 1=W8 5 [[XL 0,.nils,.nils,.nils,.nils]]->tat t 2=XM 1->tat t 3=XL 50->Q .ret t [] g)
  (fin:∀t g',Rd1 n x b cv sv pa q j p9 x.parents.length t g'->g'.h.get p9=W8 3 [c9]->g.nx<=g'.nx->Q (.exit 4) t [] g'):wpL (wp C0 d none oE) Q t [] g:=by
 have Z:=(TJ.1 hx).1;have nl:=λg=>hN.len g;have rp:=λh=>(hpa.tree (h':=h) (TG 0)).ints;have w:(S.RX n).length=n.nodes.length:=by simp[S.RX]
 have y:((S.RX n).take j).length=j:=by rw[T_,w];omega
 simp only[oE];refine aI (m:=x.parents.length) hpa.1 (λi t df g'=>df=[]/\Rd1 n x b cv sv pa q j p9 i t g'/\g'.h.get p9=W8 3 [c9]/\g.nx<=g'.nx) ⟨rfl,h0,e9,TG _⟩ h90 h89 (by decide)
  (by rintro i t df g v s (rfl|rfl|rfl) ⟨a1,⟨⟨b1,b2,O,R,U,V,W,X,Y,H,-⟩,c1,z⟩,A⟩<;>exact⟨a1,⟨by simp[St,LRd,sx,b1,b2,O,R,U,V,W,X,Y,H],c1,z⟩,A⟩) ?_ ?_
 ·rintro i t df g hi ⟨rfl,⟨⟨a,c,f,k,h8,h9,h10,h1,h2,h4,-⟩,hp,L⟩,e9,en⟩ h90 h89;obtain⟨p,o,N,-⟩:=ae hi;have E:i<(x.parents.map ci).length:=by simpa using hi
  have F:(x.parents.map ci)[i]?=some (ci p):=by rw[TK,o];rfl
  have badn:¬(jy x.parents i<p/\p<n.nodes.length/\p≠(j:Int))->¬NR n:=λh hr=>h (hr.pl hx o);have q2:=hp.q2
  by_cases c1:p<=jy x.parents i
  ·simp only[sz,simprocAttr,h2,h10,k,h90,rp,E,F,ci,hp.h1,c1];exact bad _ _ (badn (by omega)) (by simp[RQ]) (by simp[sx,h2]) (by simp[sx])
  by_cases z:(n.nodes.length:Int)<=p
  ·simp only[sz,simprocAttr,h2,h4,h10,k,h90,rp,E,F,ci,hp.hq,nl,hp.h1,c1,z];exact bad _ _ (badn (by omega)) (by simp[RQ]) (by simp[sx,h2]) (by simp[sx])
  by_cases A:p=(j:Int)
  ·subst A;simp only[sz,simprocAttr,h2,h4,h8,h10,k,h90,rp,E,F,ci,hp.hq,nl,hp.h1,c1,z,eq_self];exact bad _ _ (badn (by omega)) (by simp[RQ]) (by simp[sx,h2]) (by simp[sx])
  have u:=MX L o (by omega) (by omega) A;obtain⟨p0,-,-⟩:=u.rng i p (by omega) o;obtain⟨p,rfl⟩:=TP p0;have B:((S.Si n j (S.R0 (x.parents.take i))).map cu)[j]?=some (cu (S.R0 (x.parents.take i))):=by rw[TK,S.Si,T0 (by omega),y,UD];rfl
  have I:j<((S.Si n j (S.R0 (x.parents.take i))).map cu).length:=by simp[S.Si,w];omega
  have J:(S.Si n j (S.R0 (x.parents.take i))).set j (S.R0 (x.parents.take (i+1)))=S.Si n j (S.R0 (x.parents.take (i+1))):=by simp only[S.Si];rw[UU _ _ (by omega),y,UD,Vm]
  have em:S.R0 (x.parents.take (i+1))=S.R0 (x.parents.take i) ||| S.Sn p:=by rw[N,J1];rfl
  have D:ct .shl (XN 1) (XL (p:Int))=.val (XN (S.Sn p:Int)):=yp .i64 p;have C:=KZ (S.R0 (x.parents.take i)) (S.Sn p) (zi _) (zM p);rw[<-em]at C;have M:=hp.hs.rows;have K:=yy o;refine iX (P:=λt' df g'=>df=[]/\g'=g/\St t' ((80,b)::(81,XL (n.nodes.length:Int))::(82,XL (j:Int))::(88,pa)::(8,XL (j:Int))::(9,XM p9)::(10,XL (jy x.parents i))::LRd q)/\tat t' 12=XL (p:Int)/\tat t' 90=XL (i:Int)/\tat t' 89=XL (x.parents.length:Int)) ?_ ?_
  ·simp only[sz,simprocAttr,k,h90,rp,E,F,ci];simp[St,LRd,sx,h1,h2,h4,h8,h9,h10,a,c,f,k,h89]
  clear h1 h2 h4 h8 h9 h10 a c f k h89 h90;rintro t df g' ⟨rfl,rfl,⟨a,c,f,k,h8,h9,h10,h1,h2,h4,-⟩,r,h90,h89⟩;refine iX (P:=λt' df g''=>df=[]/\g''=g'/\St t' ((80,b)::(81,XL (n.nodes.length:Int))::(82,XL (j:Int))::(88,pa)::(8,XL (j:Int))::(9,XM p9)::(10,XL (jy x.parents i))::LRd q)/\tat t' 12=XL (p:Int)/\tat t' 90=XL (i:Int)/\tat t' 89=XL (x.parents.length:Int)) ?_ ?_
  ·simp only[sz,simprocAttr,h4,h8,h10,r,h89,h90,hp.hq,nl,c1,z,A];simp[St,LRd,sx,h1,h2,h4,h8,h9,h10,a,c,f,k]
  clear h1 h2 h4 h8 h9 h10 r a c f k h89 h90;rintro t df g'' ⟨rfl,rfl,⟨a,c,f,k,h8,h9,h10,h1,h2,h4,-⟩,r,h90,h89⟩;simp only[sz,simprocAttr,sf,h4,h8,r,hp.hq,M,I,B,cu,D,C];refine bC (v:=sv) (sz:=1) (n:=1) (i:=j) (off:=0) (x:=XN (S.R0 (x.parents.take (i+1)):Int)) (row':=cu (S.R0 (x.parents.take (i+1)))) (hp.hs.fr (by simp;omega) λi _=>by simp) B rfl rfl rfl λg4 hu4 n4 f4=>?_;rw[show (((S.Si n j (S.R0 (x.parents.take i))).map cu).set j (cu (S.R0 (x.parents.take (i+1)))))=(S.Si n j (S.R0 (x.parents.take (i+1)))).map cu from by rw[<-Vf,J]]at hu4;have l:∀i,vid sv≠some i->g4.h.get i=g''.h.get i:=λi hi=>by rw[f4 i hi];simp
  have h3:g''.nx<=g4.nx:=by rw[n4];simp;omega
  simp only[sx,sy,↓reduceIte,Nat.reduceEqDiff];refine⟨?_,⟨⟨?_,⟨?_,?_,?_,?_,?_,q2,?_,hp.d1,hp.d2,hp.d3⟩,u⟩,?_,?_⟩,h90,h89⟩
  ·simp only[Uf,Ug,Ud,T4];exact aN (false::(Xn (true::[]))) [] (by simp[All2,am,aE]) (by decide) (by simp)
  ·rw[K];simp[St,LRd,sx,h1,h2,h4,h8,h9,a,c,f,k]
  ·simp only[bumpG_h];rw[l 0 λe=>by have:=(hp.hs.lt e).1;omega,hp.h0]
  ·simp only[bumpG_h];rw[l 1 λe=>by have:=(hp.hs.lt e).1;omega,hp.h1]
  ·simp only[bumpG_h];rw[l q hp.d2,hp.hq]
  ·exact hp.hc.fr (by simp;omega) λi hi=>by simp only[bumpG_h];exact l i (hp.d3 i hi)
  ·exact hu4.fr (by simp) λi _=>by simp
  ·have:=hp.qn;simp;omega
  ·rw[l p9 p9s,e9]
  ·omega
 ·rintro t df g' ⟨rfl,h,e9,en⟩;exact fin t g' h e9 en
end
end
section
variable {d:Nat}{n:Net}{b cv sv:AV}{q:Nat}{rows:List (List AV)}
structure Rd4 (n:Net) (b cv sv:AV) (q j:Nat) (t:T) (g:G):Prop where
 st:St t ((80,b)::LRd q)
 hp:RdH n b cv sv q (S.RN n) ((S.RX n).take j++List.replicate (n.nodes.length - j) 0) g
 ok:∀x∈n.nodes.take j,S.Sa x.parents n.nodes.length=true/\S.Sy n.grain (S.RN n) x=true
theorem Px(n:Net)(j m:Nat)(hm:m<18446744073709551616):∀y∈S.Si n j m,y<18446744073709551616:=λy hy=>by
 simp only[S.Si,Uk,Us]at hy;rcases hy with hy|rfl|hy
 ·obtain⟨x,-,rfl⟩:=UF.1 (Uc hy);exact zi _
 ·exact hm
 ·rw[(Wl.1 hy).2];decide
theorem Own.natsV{b:Nat}{l:List Nat}(h:Own g b v 1 (l.map cu))(hl:l.length<9223372036854775808)(hb:∀y∈l,y<18446744073709551616):SlR (λi=>vid v=some i) 0 g.h l v :=
 Own.sl (α:=Nat) h hl (by
  have:∀l:List Nat,(∀y∈l,y<18446744073709551616)->All2 (Rp.rp (α:=Nat) (λi=>vid v=some i) 0 g.h) l (l.map cu):=λl=>by
   induction l with
   |nil=>intro _;trivial
   |cons y l ih=>intro h;exact⟨Hq.2 ⟨rfl,h y (by simp)⟩,ih λz hz=>h z (by simp[hz])⟩
  exact this l hb) λ_ h=>h
theorem Own.nats'{b:Nat}{l:List Nat}(h:Own g b v 1 (l.map cu))(hl:l.length<9223372036854775808)(hb:∀y∈l,y<18446744073709551616):SlR (λ_=>True) 0 g.h l v :=
 (h.natsV hl hb).wd λ_ _=>⟨trivial,rfl⟩
theorem Own.intsV{b:Nat}(h:Own g b v 1 (l.map ci))(hl:l.length<9223372036854775808):SlR (λi=>vid v=some i) 0 g.h l v :=
 Own.sl (α:=Int) h hl (RN (λa=>ax.2 rfl) _) λ_ h=>h
theorem Ot{n:Net}(h:NR n)(hx:x∈n.nodes):S.Sy n.grain (S.RN n) x=true:=by simp only[S.Sy,S.Sp,TM,T9,Ue];exact⟨h.rows x hx,λr hr=>⟨⟨(h.row x hx r hr).1,(h.row x hx r hr).2.1⟩,(h.row x hx r hr).2.2⟩⟩
theorem OZ(hd:0<d)(hl:n.nodes.length<=8)(hg1:1<=n.grain/\n.grain<=60)(hcard:∀c∈S.RN n,1<=c/\c<=4)(hN:SlR NoP 0 .nil n.nodes b)(r1:∀h,ak h 3 b=some rows)(r2:rows.length=n.nodes.length)
  (r3:∀(i:Nat) (x:Node),n.nodes[i]?=some x->∃pa ra,rows[i]?=some [XL x.card,pa,ra]/\i<rows.length/\SlR NoP 0 .nil x.parents pa/\SlR NoP 0 .nil x.rows ra) (r4:0<n.nodes.length->vN b=true)
  (h0:Rd4 n b cv sv q 0 t g) (h82:tat t 82=XL 0) (h81:tat t 81=XL (n.nodes.length:Int))
  (bad:∀t g,¬NR n->g.h.get 1=W8 5 [[XL 0,.nils,.nils,.nils,.nils]]->tat t 2=XM 1->tat t 3=XL 50->Q .ret t [] g)
  (fin:∀t g,Rd4 n b cv sv q n.nodes.length t g->Q (.exit 2) t [] g):wpL (wp C0 d none oG) Q t [] g:=by
 simp only[oG,uI];refine aI (m:=n.nodes.length) (by omega) (λj t df g=>df=[]/\Rd4 n b cv sv q j t g) ⟨rfl,h0⟩ h82 h81 (by decide)
  (by rintro j t df g v s (rfl|rfl|rfl) ⟨a1,⟨b1,b2,R,U,-⟩,c1,V⟩<;>exact⟨a1,by simp[St,LRd,sx,b1,b2,R,U],c1,V⟩) ?_ ?_
 ·rintro j t df g X ⟨rfl,⟨⟨f,h1,h2,h4,-⟩,hp,E⟩⟩ h82 h81;obtain⟨x,hx,J,L⟩:=ae X;obtain⟨pa,ra,q1,hlt,w,I⟩:=r3 j x hx;have Z:=r4 (by omega);have q2:=hp.q2;have qn:=hp.qn;have C:(S.RX n).length=n.nodes.length:=by simp[S.RX]
  have F:(S.RX n)[j]?=some (S.R0 x.parents):=by simp[S.RX,hx]
  obtain⟨g2,u⟩:∃g2,g2=(g.new (W8 3 [[XL 0,.nils,.nils]])).put g.nx (W8 3 [[XL x.card,pa,ra]]):=⟨_,rfl⟩;have f2:Fr g g2:=by rw[u];exact PI (by simp) λi hi=>by simp[RQ,show ¬i=g.nx by omega]
  have n2:g.nx<g2.nx:=by rw[u];simp
  have A:=hp.fr f2;have M:g2.h.get g.nx=W8 3 [[XL x.card,pa,ra]]:=by rw[u];simp[RQ]
  have eY:(S.RX n).take j++List.replicate (n.nodes.length - j) 0=S.Si n j (S.R0 (x.parents.take 0)):=by rw[S.Si,show n.nodes.length - j=(n.nodes.length - (j+1))+1 by omega,UY];rfl
  have eY2:S.Si n j (S.R0 x.parents)=(S.RX n).take (j+1)++List.replicate (n.nodes.length - (j+1)) 0:=by rw[S.Si,We,F,UJ];rfl
  rw[eY]at A;refine ge (P:=λt' df g'=>df=[]/\g'=g2/\St t' ((80,b)::(81,XL (n.nodes.length:Int))::(82,XL (j:Int))::(8,XL (j:Int))::(9,XM g.nx)::LRd q)) ?_ ?_
  ·simp only[sz,simprocAttr,f,h82,r1,hlt,q1];rw[u];simp[St,LRd,sx,h1,h2,h4,f,h81,h82]
  clear h1 h2 h4 f h81 h82;rintro t df g3 ⟨rfl,rfl,⟨f,h81,h82,h8,h9,h1,h2,h4,-⟩⟩;have pl:=λg=>w.len g;simp only[sz,simprocAttr,h9,M,pl];refine OY (j:=j) (p9:=g.nx) (x:=x) (pa:=pa) (b:=b) (cv:=cv) (sv:=sv) (q:=q) hl hN hx w ⟨by simp[St,LRd,sx,jy,h1,h2,h4,h8,h9,f,h81,h82],A,⟨λi p hi=>by omega,λi p r hi=>by omega⟩⟩ (by simp[sx]) (by simp[sx]) M (λe=>by have:=(hp.hs.lt e).2;omega) ?_ ?_
  ·intro t g Y a1 a2 O;simp only[sx,sy];exact bad t g Y a1 a2 O
  ·rintro t D ⟨⟨f,h81,h82,W,h8,h9,h10,h1,h2,h4,-⟩,k,H⟩ z n4;rw[Ur]at k;have o:=Hg H;have B:∀p∈x.parents,0<=p/\p<((S.RN n).length:Int):=λp hp=>by rw[aB];exact da o p hp
   have N:=dy o (by omega);have h3:(S.Si n j (S.R0 x.parents)).length<=8:=by simp[S.Si,C];omega
   have hm:Agg ((n,S.RN n,S.Si n j (S.R0 x.parents),[]):NwM) (λ_=>True) 0 D.h (.agg [XL n.grain,b,cv,sv,.nils]) :=
    ⟨_,rfl,yF.2 ⟨b,cv,sv,.nils,rfl,hN.wide (TG 0),Own.sl (α:=Int) k.hc (by rw[aB];omega) (RN (λa=>ax.2 rfl) _) λ_ _=>trivial,k.hs.nats' (by omega) (Px n j _ (zi _)),⟨by show 0<9223372036854775808;decide,rfl⟩⟩⟩
   have K:Agg x NoP 0 D.h (.agg [XL x.card,pa,ra]):=⟨_,rfl,cI.2 ⟨pa,ra,rfl,w.tree (TG 0),I.tree (TG 0)⟩⟩;have l:=JR (d:=d) (g:=D) hd hm K ⟨rfl,rfl⟩ hg1 hcard B (by omega);have l:ah C0 d 123 [.agg [XL n.grain,b,cv,sv,.nils],.agg [XL x.card,pa,ra]] D=.val (.bool (S.Sy n.grain (S.RN n) x)):=l;cases hf:S.Sy n.grain (S.RN n) x with
   | false =>
    rw[hf]at l;simp only[sz,simprocAttr,oH,h2,h4,h9,k.hq,k.h1,z,l];refine bad _ _ (λhr=>?_) (by simp[RQ]) (by simp[sx,h2]) (by simp[sx]);have:=Ot hr L;rw[hf]at this;cases this
   | true =>
    rw[hf]at l;simp only[sz,simprocAttr,oH,h4,h9,k.hq,z,l];rw[eY2]at k;refine⟨⟨by simp[St,LRd,sx,h1,h2,h4,f],k,λy hy=>?_⟩,by simp[h82],by simp[h81]⟩;rw[J]at hy;rcases Uk.1 hy with h|h
    ·exact E y h
    ·rw[UX.1 h];exact⟨o,hf⟩
 ·rintro t df g ⟨rfl,h⟩;exact fin t g h
end
theorem Nr(n:Net):Snb (EB n) 2:=md λo=>bO (m:=2) (cq _) (aJ _) (by decide) (by decide)
theorem zp{d:Nat}{n:Net}(hd:0<d)(hm:Agg n NoP 0 g.h v):∃r,ah C0 d 87 [v] g=.val r/\EB n NoP 0 .nil r:=by
 obtain⟨b,rows,rfl,e,R,hN,L,M,N,O⟩:=fP d hm;rw[BK];refine aL E7 (xs:=[.agg [XL n.grain,b]]) (by simp only[aF,e]) (by simp[mP]) (Nr n) (by decide) hd ?_;have nl:=λg=>hN.len g;simp only[sz,simprocAttr,mP];obtain⟨g0,hg0⟩:∃g0,g0=(G.empty.new (W8 2 [[XL n.grain,b]])).new (W8 5 [[XL 0,.nils,.nils,.nils,.nils]]):=⟨_,rfl⟩;rw[<-hg0];have f0:g0.h.get 0=W8 2 [[XL n.grain,b]]:=by rw[hg0];simp[sx,RQ]
 have f1:g0.h.get 1=W8 5 [[XL 0,.nils,.nils,.nils,.nils]]:=by rw[hg0];simp[sx]
 have f2:g0.nx=2:=by rw[hg0];simp[sx]
 clear hg0;obtain⟨Qf,m⟩:∃Qf,Qf=fnQ C0 (d+1) [SR.cell true 5 2,SR.tm 3] (λv g'=>∃P,EB n P 0 g'.h v):=⟨_,rfl⟩;have bad:∀(t:T) (g:G),¬NR n->g.h.get 1=W8 5 [[XL 0,.nils,.nils,.nils,.nils]]->tat t 2=XM 1->tat t 3=XL 50->Qf .ret t [] g:=λt g C a1 a2 w=>by rw[m];exact QN C a1 a2 w
 rw[<-m];simp only[wG]
 by_cases c1:n.grain<1
 ·rw[b_];simp only[sz,simprocAttr,f0,f1,c1];exact bad _ _ (λh=>by have:=h.g1;omega) (by simp[RQ]) (by simp[sx]) (by simp[sx])
 by_cases c2:60<n.grain
 ·rw[b_];simp only[sz,simprocAttr,f0,f1,c1,c2];exact bad _ _ (λh=>by have:=h.g2;omega) (by simp[RQ]) (by simp[sx]) (by simp[sx])
 by_cases c3:(n.nodes.length:Int)<1
 ·rw[b_];simp only[sz,simprocAttr,f0,f1,c1,c2,c3,nl];exact bad _ _ (λh=>by have:=h.l1;omega) (by simp[RQ]) (by simp[sx]) (by simp[sx])
 by_cases c4:8<(n.nodes.length:Int)
 ·rw[b_];simp only[sz,simprocAttr,f0,f1,c1,c2,c3,c4,nl];exact bad _ _ (λh=>by have:=h.l2;omega) (by simp[RQ]) (by simp[sx]) (by simp[sx])
 refine iX (P:=λt' df g'=>df=[]/\g'=g0/\St t' [(1,XM 0),(2,XM 1)]) ?_ ?_
 ·simp only[sz,simprocAttr,f0,c1,c2,c3,c4,nl];simp[St,sx]
 rintro t df g1 ⟨rfl,rfl,h1,h2,-⟩;have B:n.nodes.length<=8:=by omega
 refine iX (P:=λt' df g'=>df=[]/\∃cv sv q,St t' (LRd q)/\RdH n b cv sv q (List.replicate n.nodes.length 0) (List.replicate n.nodes.length 0) g') ?_ ?_
 ·simp only[sz,simprocAttr,sf,h1,f0,nl];refine nj (b:=2) (n:=n.nodes.length) (by unfold aQ;omega) (by unfold aQ;omega) (by first| (simp;done)| (simp;omega)) λcv g2 hcv n2 fr2 v2 lg2=>?_;simp only[sy]at n2 fr2 v2 lg2;have k0:g2.h.get 0=W8 2 [[XL n.grain,b]]:=by rw[fr2 0 (by omega),f0]
  simp only[sz,simprocAttr,sf,h1,k0,nl,lg2];refine nj (b:=2) (n:=n.nodes.length) (by unfold aQ;omega) (by unfold aQ;omega) (by first| (simp;done)| (simp;omega)) λsv g3 hsv n3 fr3 v3 lg3=>?_;simp only[sy]at n3 fr3 v3 lg3;simp only[sz,simprocAttr,sf,lg3,hcv.cell.1,hcv.cell.2,hsv.cell.1,hsv.cell.2];refine⟨?_,cv,sv,g3.nx+1+1,?_,?_⟩
  ·simp only[Uf,Ug,Ud,T4,G.new_lg,G.put_lg,setLog_lg];refine aN (Xo (true::(false::(Xp (true::(false::(true::(true::[])))))))) [(0,4),(4,5),(4,6),(4,7),(0,8),(1,8),(2,8),(3,8),(4,8),(0,10),(1,10),(2,10),(3,10),(4,10),(5,10),(6,10),(7,10),(8,10),(9,10)] (by simp[All2,am,aE]) (by decide) ?_;rintro p hp x y hx l;simp only[Us,TY,Wt]at hp;rcases hp with rfl|rfl|rfl|rfl|rfl|rfl|rfl|rfl|rfl|rfl|rfl|rfl|rfl|rfl|rfl|rfl|rfl|rfl|rfl<;>(simp at hx l;subst hx;subst l;refine dh rfl rfl rfl rfl ?_ ?_ ?_<;>simp[am,aE,an]<;>omega)
  ·simp[St,LRd,sx,h1,h2]
  ·have fa:∀i,i<g2.nx->g3.h.get i=g2.h.get i:=λi hi=>by have:=fr3 i (by omega);simpa using this
   have fb:∀i,i<g1.nx->g2.h.get i=g1.h.get i:=λi hi=>by have:=fr2 i (by omega);simpa using this
   have A:Own g2 2 cv 1 ((List.replicate n.nodes.length (0:Int)).map ci):=by simpa [ci] using hcv
   have H:Own g3 2 sv 1 ((List.replicate n.nodes.length (0:Nat)).map cu):=by simpa [cu] using hsv
   have D:∀i,i<g3.nx->¬i=g3.nx+1+1:=λi hi=>by omega
   refine⟨?_,?_,?_,A.fr (by simp;omega) λi hi=>?_,H.fr (by simp;omega) λi hi=>?_,by omega,by first| (simp;done)| (simp;omega),λe=>?_,λe=>?_,λi hi hi2=>?_⟩
   ·simp[RQ];rw[fa 0 (by omega),k0]
   ·simp[RQ];rw[fa 1 (by omega),fb 1 (by omega),f1]
   ·simp[RQ]
   ·have:=dv v2 hi;simp[RQ,D i (by omega)];rw[fa i (by omega)]
   ·have:=dv v3 hi;simp[RQ,D i (by omega)]
   ·have:=dv v2 e;omega
   ·have:=dv v3 e;omega
   ·have:=dv v2 hi;have:=dv v3 hi2;omega
 rintro t df g ⟨rfl,cv,sv,q,⟨h1,h2,h4,-⟩,hp⟩;clear f0 f1 f2;have nlen:=nl g;simp only[sz,simprocAttr,h4,hp.hq,nl];refine OX (b:=b) (cv:=cv) (sv:=sv) (q:=q) B hN L M N O ⟨by simp[St,LRd,sx,S.RP,h1,h2,h4],by simpa using hp,by simp⟩ (by simp[sx]) (by simp[sx]) ?_ ?_
 ·intro t g C a1 a2 w;simp only[sx];exact bad t g C a1 a2 w
 clear h1 h2 h4 hp nlen;rintro t g ⟨⟨I,h5,h1,h2,h4,-⟩,hp,s⟩;rw[TX (by rw[aB];exact TG _)]at h5 hp;rw[UD,List.replicate_zero,T3]at hp;rw[Ur]at s;have J:∀c∈S.RN n,1<=c/\c<=4:=λc hc=>by obtain⟨y,l,rfl⟩:=UF.1 hc;exact s y l
 simp only[sz,simprocAttr,uJ]
 by_cases d1:1024<S.RP (S.RN n)
 ·simp only[sz,simprocAttr,h2,h5,hp.h1,d1];exact bad _ _ (λh=>by have:=h.worlds;omega) (by simp[RQ]) (by simp[sx,h2]) (by simp[sx])
 simp only[sz,simprocAttr,h4,h5,hp.hq,nl,d1];refine OZ (b:=b) (cv:=cv) (sv:=sv) (q:=q) (TW d) B (by omega) J hN L M N O ⟨by simp[St,LRd,sx,h1,h2,h4],by simpa using hp,by simp⟩ (by simp[sx]) (by simp[sx]) ?_ ?_
 ·intro t g C a1 a2 w;simp only[sx];exact bad t g C a1 a2 w
 clear h1 h2 h4 I h5 hp;rintro t g ⟨⟨Q,h1,h2,h4,-⟩,hp,k⟩;rw[TX (by simp[S.RX])]at hp;rw[UD,List.replicate_zero,T3]at hp;rw[Ur]at k;have F:(S.RX n).length=n.nodes.length:=by simp[S.RX]
 have j:∀y∈S.RX n,y<18446744073709551616:=λy l=>by obtain⟨x,-,rfl⟩:=UF.1 l;exact zi _
 have u:∀y∈S.RX n,y<2 ^ (S.RX n).length:=λy l=>by obtain⟨x,hx,rfl⟩:=UF.1 l;rw[F];exact Mu (by omega) λz hz=>da (k x hx).1 z hz
 obtain⟨z,ez,o,-,oz,az,rfl,f,a⟩:=Kw (d:=d+1) (g:=g) (TW d) (hp.hs.nats' (by omega) j) (by omega) u;have a:=eB.1 a;injection a with a;subst a;obtain⟨_,e1,f⟩:=f;injection e1 with e1;subst e1;cases hac:S.SP (S.RX n) with
 | false =>
  rw[hac]at ez;simp only[sz,simprocAttr,oI,h2,h4,hp.hq,hp.h1,ez];exact bad _ _ (λh=>by have:=h.acyc;rw[hac]at this;cases this) (by simp[RQ]) (by simp[sx,h2]) (by simp[sx])
 | true =>
  rw[hac]at ez;have E:S.Sl n=true:=cA.2 ⟨by omega,by omega,by omega,by omega,s,λx hx=>(k x hx).1,by omega,hac,λx hx=>by
   have:=(k x hx).2;simp only[S.Sy,TM,T9]at this;exact this.1,λx hx r hr=>by
   have:=(k x hx).2;simp only[S.Sy,S.Sp,TM,T9,Ue]at this;have:=this.2 r hr;exact⟨this.1.1,this.1.2,this.2⟩⟩
  have q2:=hp.q2;have K:¬(1=q):=by omega
  have U:¬(q=1):=by omega
  have oc:=f.cell;rw[m];simp only[sz,simprocAttr,oI,h2,h4,hp.hq,hp.h1,ez,K,oc.1,oc.2];have fh:∀i,¬i=1->¬i=q->((g.h.put q (W8 5 [[XL n.grain,b,cv,sv,oz]])).put 1 (W8 5 [[XL n.grain,b,cv,sv,oz]])).get i=g.h.get i:=λi hi hi2=>by simp[RQ,hi,hi2]
  refine⟨λ_=>True,o,trivial,_,_,rfl,⟨_,rfl,?_⟩,?_⟩
  ·rw[S.Tm,TO E];refine yF.2 ⟨b,cv,sv,oz,rfl,hN.wide (TG 0),(hp.hc.intsV (by rw[aB];omega)).wd λi hi=>⟨trivial,fh i (by have:=(hp.hc.lt hi).1;omega) λe=>hp.d1 (by rw[hi,e])⟩,(hp.hs.natsV (by omega) j).wd λi hi=>⟨trivial,fh i (by have:=(hp.hs.lt hi).1;omega) λe=>hp.d2 (by rw[hi,e])⟩,f.wide (TG 0)⟩
  ·rw[TO E];exact ax.2 rfl
theorem G9{o:List Int}(h:S.Sl n=true):S.Tm n o=(n,S.RN n,S.RX n,o):=by rw[S.Tm,TO h]
theorem nX(hv:EB n P k h v) :
  (S.Sl n=false/\∃cs,v=.tup [.agg cs,XL 50]/\cs.length=5) \/
  (S.Sl n=true/\∃b cv sv oz o,v=.tup [.agg [XL n.grain,b,cv,sv,oz],XL 0]/\SlR P k h n.nodes b/\SlR P k h (S.RN n) cv/\SlR P k h (S.RX n) sv/\SlR P k h (o:List Int) oz):=by
 obtain⟨o,-,a,c,rfl,⟨cs,rfl,hc⟩,hi⟩:=hv;have hi:=ax.1 hi;injection hi with hi;subst hi;cases hn:S.Sl n with
 | false =>
  refine .inl ⟨rfl,cs,rfl,?_⟩;obtain⟨a,b,c,e,rfl,-⟩:=yF.1 hc
  rfl
 | true =>
  rw[G9 hn]at hc;obtain⟨a,b,c,e,rfl,h1,h2,h3,h4⟩:=yF.1 hc;exact .inr ⟨rfl,a,b,c,e,o,rfl,h1,h2,h3,h4⟩
theorem EQ{k2:Nat}{P2:Nat->Prop}{e:List Int}(hd:0<d)(hm:Agg n NoP 0 g.h v)(he:SlR P2 k2 g.h e w):ah C0 d 93 [v,w] g=.val (XL (S.RZ n e)):=by
 obtain⟨w',e2,p⟩:=bm he d;obtain⟨b,rows,rfl,e1,B,hN,L,M,N,O⟩:=fP d hm;have n2:=λg=>(p .nil).len g;have rb:=λh=>(p h).ints;rw[qi];refine ff sI (xs:=[.agg [XL n.grain,b],w']) (by simp only[aF,e1,e2]) (by simp[gu]) hd ?_;have J:=he.1;simp only[sz,simprocAttr,gu,jL,jh];obtain⟨z,ez,hz⟩:=zp (d:=d+1) (g:=G.empty.new (W8 2 [[XL n.grain,b]])) (TW d) (n:=n) (v:=.agg [XL n.grain,b]) (B _);rcases nX hz with⟨i,cs,rfl,x⟩|⟨i,b',cv,sv,oz,o,rfl,hb,A,-,-⟩
 ·have hs:S.RZ n e=50:=by rw[S.RZ,i];rfl
  obtain⟨a1,a2,q,a4,r,rfl⟩:∃a1 a2 q a4 r,cs=[a1,a2,q,a4,r]:=by
   match cs,x with
   |[a1,a2,q,a4,r],_=>exact⟨a1,a2,q,a4,r,rfl⟩
  simp only[sz,simprocAttr,ez,hs,show ¬((50:Int)=0) from by decide]
 ·have nb:=λg=>(hb.tree (h':=g) (TG 0)).len;have I:=hb.1;have rc:=λh=>(A.tree (h':=h) (TG 0)).ints;have hcl:=aB n
  by_cases hl:e.length=n.nodes.length
  ·have f:(e.length:Int)=(n.nodes.length:Int):=by rw[hl]
   simp only[sz,simprocAttr,ez,n2,hb.len,hl];refine aI (m:=n.nodes.length) (by omega) (λj t df g=>df=[]/\St t [(24,w'),(5,XM 1),(4,XL 0)]/\g.h.get 1=W8 5 [[XL n.grain,b',cv,sv,oz]]/\((List.range j).all λv=>decide (-1<=e[v]?.getD 0)&&decide (e[v]?.getD 0<(S.RN n)[v]?.getD 0))=true)
    ⟨rfl,by simp[St,sx],by simp[sx],by simp⟩ (by simp[sx]) (by simp[sx]) (by decide) (by rintro j t df g v s (rfl|rfl|rfl)<;>simp[St,sx]) ?_ ?_
   ·rintro j t df g K ⟨rfl,⟨k,h5,h4,-⟩,hg,ha⟩ a u;obtain⟨y,D,-,-⟩:=ae (l:=e) (j:=j) (by omega);obtain⟨c,hc,-,-⟩:=ae (l:=S.RN n) (j:=j) (by omega);have E:j<(e.map ci).length:=by simp;omega
    have F:(e.map ci)[j]?=some (ci y):=by rw[TK,D];rfl
    have u3:j<((S.RN n).map ci).length:=by simp;omega
    have H:((S.RN n).map ci)[j]?=some (ci c):=by rw[TK,hc];rfl
    have C:((List.range (j+1)).all λv=>decide (-1<=e[v]?.getD 0)&&decide (e[v]?.getD 0<(S.RN n)[v]?.getD 0))=(decide (-1<=y)&&decide (y<c)):=by rw[VL,List.all_append,ha];simp[D,hc]
    have bad:(decide (-1<=y)&&decide (y<c))=false->S.RZ n e=2:=λh=>by
     have h1:S.Sc n e=false:=by
      rw[S.Sc];have:((List.range e.length).all λv=>decide (-1<=e[v]?.getD 0)&&decide (e[v]?.getD 0<(S.RN n)[v]?.getD 0))=false:=by rw[<-Vh,Ue];intro h2;have:=h2 j (T8.2 (by omega));rw[D,hc,TS,TS,h]at this;cases this
      rw[this,Bool.and_false]
     rw[S.RZ,i,h1];rfl
    by_cases c1:y < -1
    ·have:=bad (by simp;omega);simp only[sz,simprocAttr,k,a,rb,E,F,ci,c1,this]
    ·by_cases c2:c<=y
     ·have:=bad (by simp;omega);simp only[sz,simprocAttr,k,h5,a,hg,rb,rc,E,F,u3,H,ci,c1,c2,this]
     ·have h3:((List.range (j+1)).all λv=>decide (-1<=e[v]?.getD 0)&&decide (e[v]?.getD 0<(S.RN n)[v]?.getD 0))=true:=by rw[C];simp;omega
      simp only[sz,simprocAttr,k,h5,h4,a,u,hg,rb,rc,E,F,u3,H,ci,c1,c2,St,h3]
   ·rintro t df g ⟨rfl,⟨k,h5,h4,-⟩,hg,ha⟩;have h1:S.Sc n e=true:=by rw[S.Sc,hl,Wc rfl,ha];rfl
    have hs:S.RZ n e=0:=by rw[S.RZ,i,h1];rfl
    simp only[sz,simprocAttr,ji,hs]
  ·have f:¬((e.length:Int)=(n.nodes.length:Int)):=by omega
   have h1:S.Sc n e=false:=by rw[S.Sc,VN hl];rfl
   have hs:S.RZ n e=2:=by rw[S.RZ,i,h1];rfl
   simp only[sz,simprocAttr,ez,n2,hb.len,f,hs]
end
end Hx
