/- A part of the proof: what the functions of the chapter compute. -/
import Derived.Test.YtikpmbiklokdiaaGreatHx9
set_option linter.all false
set_option maxRecDepth 20000
set_option maxHeartbeats 8000000
namespace Hx
open Go
noncomputable section
variable {g g0:G}{d k i b A j q p:Nat}{n:Net}{v w pa ra u:AV}{l vals ps:List Int}{x:Node}{t:T}{P:Nat->Prop}{Q:QT}{h:H}{K:AV->G->Prop}{D:ADf->Prop}{rws:List (List Int)}{y gr:Int}
theorem ql:∀a b:List Int,S.Sz (a++b)=S.Sz a*S.Sz b
 |[],b=>by simp[S.Sz]
 |x::a,b=>by rw[UE,eM,eM,ql a b,Xc]
theorem wR:∀{a va:List Int} (b vb:List Int),a.length=va.length->S.SA (a++b) (va++vb)=S.SA a va*S.Sz b+S.SA b vb
 |[],[],b,vb,_=>by simp[S.SA]
 |[],_::_,_,_,h=>by simp at h
 |_::_,[],_,_,h=>by simp at h
 | c::a,v::va,b,vb,h=>by rw[UE,UE,S.SA,S.SA,wR b vb (by simpa using h),ql,Xr,Xc];omega
theorem Gr:∀{cs vs:List Int} (a:Int),(∀c∈cs,1<=c)->InC cs vs->S.TT cs (a*S.Sz cs+S.SA cs vs)=a
 |[],[],a,_,_=>by simp[S.TT,S.Sz,S.SA]
 |[],_::_,_,_,h=>by cases h
 |_::_,[],_,_,h=>by cases h
 | c::cs,v::vs,a,hc,h=>by
  obtain⟨⟨h1,h2⟩,k⟩:=h;have ih:=Gr (cs:=cs) (vs:=vs) (a*c+v) (λx hx=>hc x (by simp[hx])) k;have e:a*S.Sz (c::cs)+S.SA (c::cs) (v::vs)=(a*c+v)*S.Sz cs+S.SA cs vs:=by rw[eM,S.SA,Xr,Xc];omega
  rw[e];show S.TT cs _ / c=a;rw[ih,Int.add_comm,Int.add_mul_ediv_right _ _ (by omega),Int.ediv_eq_zero_of_lt h1 h2];omega
theorem Cz:∀{cs vs:List Int} (a:Int) (i:Nat),(∀c∈cs,1<=c)->InC cs vs->i<cs.length->S.TV cs (a*S.Sz cs+S.SA cs vs) i=vs[i]?.getD 0
 |[],_,_,_,_,_,hi=>by simp at hi
 |_::_,[],_,_,_,h,_=>by cases h
 | c::cs,v::vs,a,i,hc,h,hi=>by
  obtain⟨⟨h1,h2⟩,b⟩:=h;have k:∀x∈cs,1<=x:=λx hx=>hc x (by simp[hx]);have e:a*S.Sz (c::cs)+S.SA (c::cs) (v::vs)=(a*c+v)*S.Sz cs+S.SA cs vs:=by rw[eM,S.SA,Xr,Xc];omega
  rw[e];cases i with
  | zero =>
   show S.TT cs _ % c=v;rw[Gr _ k b,Int.add_comm,Int.add_mul_emod_self_right,Int.emod_eq_of_lt h1 h2]
  | succ i =>
   have:=Cz (a*c+v) i k b (by simpa using hi);simpa [S.TV] using this
theorem Ik{cs vs:List Int}(hc:∀c∈cs,1<=c)(h:InC cs vs):S.ST cs (S.SA cs vs)=vs:=by
 have hl:=h.len;refine List.ext_getElem (by simp[S.ST,hl]) λi h1 h2=>?_;have hi:i<cs.length:=by simpa [S.ST] using h1
 have:=Cz 0 i hc h hi;rw[Int.zero_mul,Int.zero_add,Uj h2,Us]at this;simp[S.ST,this]
theorem Bw{cs:List Int}(hc:∀c∈cs,1<=c)(h:Int):InC cs (S.ST cs h):=by refine D7 (by simp[S.ST]) λi c v h1 h2=>?_;have hi:=(Uh.1 h1).1;rw[S.ST,Uo,Xa hi,VK,Vo]at h2;have k:=hc c (Ul h1);rw[<-h2,S.TV,h1,Us];exact⟨Int.emod_nonneg _ (by omega),Xh _ (by omega)⟩
theorem Il(cs:List Int)(h:Int):(S.ST cs h).length=cs.length:=by simp[S.ST]
theorem kw:∀{cs:List Int},(∀c∈cs,1<=c)->1<=S.Sz cs
 |[],_=>by decide
 | c::cs,h=>by rw[eM];have h1:=h c (by simp);have h2:=kw (cs:=cs) λx hx=>h x (by simp[hx]);exact Int.le_trans h1 (by have:=Int.mul_le_mul_of_nonneg_left h2 (show 0<=c by omega);omega)
theorem AF:∀(cs:List Int) (n:Nat),S.SA cs (List.replicate n 0)=0
 |[],n=>by cases n<;>rfl
 |_::_,0=>rfl
 |c::cs,n+1=>by rw[VO,S.SA,AF cs n];simp
theorem D6:∀{cs vs:List Int},cs.length=vs.length->(∀(i:Nat) (c:Int),cs[i]?=some c->vs[i]?.getD 0=c - 1)->S.SA cs vs=S.Sz cs - 1
 |[],[],_,_=>by decide
 |[],_::_,h,_=>by simp at h
 |_::_,[],h,_=>by simp at h
 | c::cs,v::vs,hl,h=>by
  have h0:=h 0 c rfl;have ih:=D6 (cs:=cs) (vs:=vs) (by simpa using hl) λi x hx=>by have:=h (i+1) x (by simpa using hx);simpa using this
  simp at h0;rw[S.SA,ih,eM,h0,Int.sub_mul];omega
theorem MR{cs vs:List Int}(hl:cs.length=vs.length){x:Int}(hi:vs[i]?=some x)(hm:∀(j:Nat) (c:Int),i<j->cs[j]?=some c->vs[j]?.getD 0=c - 1) :
  S.SA cs (vs.take i++(x+1)::List.replicate (vs.length - (i+1)) 0)=S.SA cs vs+1:=by
 have h:=(Uh.1 hi).1;obtain⟨c,hc⟩:∃c,cs[i]?=some c:=⟨_,Uj (by omega)⟩;have e1:cs=cs.take i++c::cs.drop (i+1):=by have:=VY (l:=cs) (i:=i) (by omega);rw[Uj (by omega),Vo]at hc;rw[<-hc,<-this,Vi]
 have a:vs=vs.take i++x::vs.drop (i+1):=by have:=VY (l:=vs) (i:=i) h;rw[Uj h,Vo]at hi;rw[<-hi,<-this,Vi]
 have hlt:(cs.take i).length=(vs.take i).length:=by simp[hl]
 have k:S.SA (cs.drop (i+1)) (vs.drop (i+1))=S.Sz (cs.drop (i+1)) - 1:=by refine D6 (by simp[hl]) λj d hj=>?_;rw[UO]at hj ⊢;exact hm _ d (by omega) hj
 have h1:S.SA cs vs=S.SA (cs.take i) (vs.take i)*S.Sz (c::cs.drop (i+1))+(x*S.Sz (cs.drop (i+1))+S.SA (cs.drop (i+1)) (vs.drop (i+1))):=by
  conv=>lhs;rw[e1,a,wR _ _ hlt,S.SA]
 have h2:S.SA cs (vs.take i++(x+1)::List.replicate (vs.length - (i+1)) 0)=S.SA (cs.take i) (vs.take i)*S.Sz (c::cs.drop (i+1))+((x+1)*S.Sz (cs.drop (i+1))+0):=by
  conv=>lhs;rw[e1,wR _ _ hlt,S.SA,AF]
 rw[h2,h1,k,Xr];omega
section
variable {k:Int}
def S.Sx(n:Net):List Int:=n.nodes.map (·.card)
def S.Sy(cs ps:List Int):List Int:=ps.map λp=>cs[p.toNat]?.getD 0
def S.SK(n:Net):List Nat:=n.nodes.map λx=>S.SQ x.parents
def S.Tb(gr card:Int)(r:List Int):Bool:=decide ((r.length:Int)=card)&&r.all (λx=>decide (0<=x)&&decide (x<=gr))&&decide (r.sum=gr)
def S.T0(k:Int)(x:Node):Bool:=decide (1<=x.card)&&decide (x.card<=4)&&S.Tn x.parents k
def S.T2(n:Net)(x:Node):Bool:=decide ((x.rows.length:Int)=S.Sz (S.Sy (S.Sx n) x.parents))&&x.rows.all (S.Tb n.grain x.card)
def S.SW(n:Net):Bool:=decide (1<=n.grain)&&decide (n.grain<=60)&&decide (1<=n.nodes.length)&&decide (n.nodes.length<=8)&&n.nodes.all (S.T0 n.nodes.length)&&decide (S.Sz (S.Sx n)<=1024)&&S.Tv (S.SK n)&&n.nodes.all (S.T2 n)
structure NR (n:Net):Prop where
 g1:1<=n.grain
 g2:n.grain<=60
 l1:1<=n.nodes.length
 l2:n.nodes.length<=8
 card:∀x∈n.nodes,1<=x.card/\x.card<=4
 places:∀x∈n.nodes,S.Tn x.parents n.nodes.length=true
 worlds:S.Sz (S.Sx n)<=1024
 acyc:S.Tv (S.SK n)=true
 rows:∀x∈n.nodes,(x.rows.length:Int)=S.Sz (S.Sy (S.Sx n) x.parents)
 row:∀x∈n.nodes,∀r∈x.rows,(r.length:Int)=x.card/\(∀y∈r,0<=y/\y<=n.grain)/\r.sum=n.grain
theorem bw:S.SW n=true↔NR n:=by
 simp only[S.SW,S.T0,S.T2,S.Tb,Uk,UD,Uz];constructor
 ·rintro⟨⟨⟨⟨⟨⟨⟨a,b⟩,c⟩,d⟩,e⟩,f⟩,g⟩,h⟩;exact⟨a,b,c,d,λx hx=>(e x hx).1,λx hx=>(e x hx).2,f,g,λx hx=>(h x hx).1,λx hx r hr=>⟨((h x hx).2 r hr).1.1,((h x hx).2 r hr).1.2,((h x hx).2 r hr).2⟩⟩
 ·rintro⟨a,b,c,d,e1,k,f,g,h1,h2⟩;exact⟨⟨⟨⟨⟨⟨⟨a,b⟩,c⟩,d⟩,λx hx=>⟨e1 x hx,k x hx⟩⟩,f⟩,g⟩,λx hx=>⟨h1 x hx,λr hr=>⟨⟨(h2 x hx r hr).1,(h2 x hx r hr).2.1⟩,(h2 x hx r hr).2.2⟩⟩⟩
theorem gw(h:S.Tn l k=true):∀x∈l,0<=x/\x<k:=by
 intro x hx;obtain⟨i,hi,he⟩:=VD.1 hx;have:=Uz.1 h i (Uw.2 hi);have e:l[i]?.getD 0=x:=by rw[Uj hi,he];rfl
 simp only[S.TO,Uk,UD,e]at this;omega
theorem v6(h:S.Tn l k=true){x:Int}(hx:l[i]?=some x)(hy:l[i+1]?=some y):x<y:=by have hi:=(Uh.1 hy).1;have:=Uz.1 h (i+1) (Uw.2 hi);simp only[S.TO,Uk,UD,hy,Us,Nat.add_sub_cancel,hx]at this;simp at this;omega
theorem KX(h:S.Tn l k=true):∀{i j:Nat} {x y:Int},l[i]?=some x->l[j]?=some y->i<j->x<y:=by
 intro i j
 induction j with
 |zero=>intro x y _ _ h;omega
 | succ j ih =>
  intro x y hx a b;have c:=(Uh.1 a).1;have hz:l[j]?=some l[j]:=Uj (by omega);have h1:=v6 h hz a
  by_cases e:i=j
  ·subst e;rw[hx]at hz;injection hz with hz;omega
  ·have:=ih hx hz (by omega);omega
theorem qX(h:S.Tn l k=true)(hk:0<=k):(l.length:Int)<=k:=by
 have key:∀(i:Nat) (x:Int),l[i]?=some x->(i:Int)<=x:=by
  intro i
  induction i with
  |zero=>intro x hx;have:=gw h x (Ul hx);omega
  | succ i ih =>
   intro x hx;have hi:=(Uh.1 hx).1;have h1:=ih l[i] (Uj (by omega));have:=v6 h (Uj (show i<l.length by omega)) hx;omega
 by_cases hl:l.length=0
 ·omega
 ·have h1:=key (l.length - 1) l[l.length - 1] (Uj (by omega));have h2:=gw h _ (VL (show l.length - 1<l.length by omega));omega
theorem NR.cs(h:NR n):∀c∈S.Sx n,1<=c/\c<=4:=λc hc=>by obtain⟨x,hx,rfl⟩:=U4.1 hc;exact h.card x hx
theorem bE(n:Net):(S.Sx n).length=n.nodes.length:=by simp[S.Sx]
theorem cA{cs:List Int}(hc:∀c∈cs,1<=c/\c<=4)(hp:∀p∈ps,0<=p/\p<cs.length):∀c∈S.Sy cs ps,1<=c/\c<=4:=λc h=>by obtain⟨p,h1,rfl⟩:=U4.1 h;have h2:=hp p h1;rw[Uj (by omega),Us];exact hc _ (VL _)
theorem nK{cs:List Int}(h:InC cs vals)(hp:∀p∈ps,0<=p/\p<cs.length):InC (S.Sy cs ps) (S.Sy vals ps):=by refine D7 (by simp[S.Sy]) λi c v h1 h2=>?_;simp only[S.Sy,Uo,Option.map_eq_some_iff]at h1 h2;obtain⟨p,k,rfl⟩:=h1;obtain⟨p',h4,rfl⟩:=h2;rw[k]at h4;injection h4 with h4;subst h4;have h5:=hp p (Ul k);have a:cs[p.toNat]?=some cs[p.toNat]:=Uj (by omega);obtain⟨v,h7,h8⟩:=h.get a;rw[a,h7,Us,Us];exact h8
theorem fc(cs a b:List Int):S.Sy cs (a++b)=S.Sy cs a++S.Sy cs b:=by simp[S.Sy]
def S.S4(n:Net)(vals:List Int)(v:Nat):Int:=match n.nodes[v]? with
 |none=>1
 |some x=>(x.rows[(S.SA (S.Sy (S.Sx n) x.parents) (S.Sy vals x.parents)).toNat]?.getD [])[(vals[v]?.getD 0).toNat]?.getD 0
def S.Tl(n:Net)(vals:List Int):Int:=S.Sz ((List.range n.nodes.length).map (S.S4 n vals))
theorem NR.pin(h:NR n)(hx:x∈n.nodes):∀p∈x.parents,0<=p/\p<(S.Sx n).length:=λp hp=>by rw[bE];exact gw (h.places x hx) p hp
theorem Ft(h:NR n)(hv:InC (S.Sx n) vals){v:Nat}(hx:n.nodes[v]?=some x) :
  ∃(i:Nat) (r:List Int) (c y:Int),S.SA (S.Sy (S.Sx n) x.parents) (S.Sy vals x.parents)=(i:Int)/\i<x.rows.length/\x.rows[i]?=some r/\vals[v]?=some c/\0<=c/\c<x.card/\r[c.toNat]?=some y/\S.S4 n vals v=y/\0<=y/\y<=n.grain:=by
 have hm:=Ul hx;have hi:=iS (cA h.cs (h.pin hm)) (nK hv (h.pin hm));rw[<-h.rows x hm]at hi;obtain⟨i,he⟩:=Ur hi.1;have k:i<x.rows.length:=by omega
 have hc:(S.Sx n)[v]?=some x.card:=by simp[S.Sx,hx]
 obtain⟨c,h1,h2,a⟩:=hv.get hc;obtain⟨d,b,-⟩:=h.row x hm x.rows[i] (VL k);have hcl:c.toNat<(x.rows[i]).length:=by omega
 refine⟨i,x.rows[i],c,(x.rows[i])[c.toNat],he,k,Uj k,h1,h2,a,Uj hcl,?_,b _ (VL hcl)⟩;simp only[S.S4,hx,he,h1,U2,Uj k,Us,Uj hcl]
theorem qZ:∀{l:List Int},(∀x∈l,0<=x/\x<=60)->0<=S.Sz l/\S.Sz l<=60 ^ l.length
 |[],_=>by decide
 | x::l,h=>by have h1:=qZ (l:=l) λy hy=>h y (by simp[hy]);have h2:=h x (by simp);rw[eM,UX,Int.pow_succ,Int.mul_comm x];refine⟨WO h1.1 h2.1,Int.le_trans (Int.mul_le_mul_of_nonneg_left h2.2 h1.1) (Int.mul_le_mul_of_nonneg_right h1.2 (by decide))⟩
theorem QK{k:Nat}(h:k<=8):(60:Int) ^ k<=167961600000000:=by
 have hk:k=0\/k=1\/k=2\/k=3\/k=4\/k=5\/k=6\/k=7\/k=8:=by omega
 rcases hk with rfl|rfl|rfl|rfl|rfl|rfl|rfl|rfl|rfl<;>decide
theorem Kn(h:NR n)(hv:InC (S.Sx n) vals){v:Nat}(hi:v<n.nodes.length):0<=S.S4 n vals v/\S.S4 n vals v<=60:=by obtain⟨i,r,c,y,-,-,-,-,-,-,-,e,a,b⟩:=Ft h hv (Uj hi);have:=h.g2;omega
theorem vd(h:NR n)(hv:InC (S.Sx n) vals)(hj:j<=n.nodes.length):0<=S.Sz ((List.range j).map (S.S4 n vals))/\S.Sz ((List.range j).map (S.S4 n vals))<=167961600000000:=by
 have h1:=qZ (l:=(List.range j).map (S.S4 n vals)) λx hx=>by obtain⟨i,hi,rfl⟩:=U4.1 hx;exact Kn h hv (by have:=Uw.1 hi;omega)
 have h2:=QK (k:=((List.range j).map (S.S4 n vals)).length) (by have:=h.l2;simp;omega);omega
theorem In(n:Net)(vals:List Int)(j:Nat):S.Sz ((List.range (j+1)).map (S.S4 n vals))=S.Sz ((List.range j).map (S.S4 n vals))*S.S4 n vals j:=by rw[WG,Wh,List.map_singleton,um]
def S.SJ(n:Net)(p:Nat->Bool):Nat->Int
 |0=>0
 |j+1=>S.SJ n p j+if p j then S.Tl n (S.ST (S.Sx n) (j:Int)) else 0
theorem u7(h:NR n)(hv:InC (S.Sx n) vals):0<=S.Tl n vals/\S.Tl n vals<=167961600000000:=vd h hv (Ui _)
theorem nP{n:Net}(h:NR n)(p:Nat->Bool):∀j:Nat,0<=S.SJ n p j/\S.SJ n p j<=167961600000000*j
 |0=>by simp[S.SJ]
 | j+1=>by
  have ih:=nP h p j;have hw:=u7 h (Bw (λc hc=>(h.cs c hc).1) (j:Int));rw[S.SJ]
  split<;>omega
def S.SZ(n:Net):Nat:=(S.Sz (S.Sx n)).toNat
def S.SM(n:Net)(e:List Int):Int:=S.SJ n (λw=>S.TL (S.ST (S.Sx n) (w:Int)) e) (S.SZ n)
theorem NR.wl(h:NR n):1<=S.SZ n/\S.SZ n<=1024/\((S.SZ n:Nat):Int)=S.Sz (S.Sx n):=by have h1:=kw λc hc=>(h.cs c hc).1;have h2:=h.worlds;unfold S.SZ;omega
theorem oq(h:NR n)(e:List Int):0<=S.SM n e/\S.SM n e<=171992678400000000:=by have h1:=nP h (λw=>S.TL (S.ST (S.Sx n) (w:Int)) e) (S.SZ n);have h2:=h.wl;unfold S.SM;omega
def S.TE(n:Net):Int:=S.Sz (List.replicate n.nodes.length n.grain)
def S.SL(n:Net)(e:List Int):Bool:=decide (e.length=n.nodes.length)&&(List.range e.length).all λv=>decide (-1<=e[v]?.getD 0)&&decide (e[v]?.getD 0<(S.Sx n)[v]?.getD 0)
def S.SN(n:Net)(e:List Int):Int:=if S.SW n then (if S.SL n e then 0 else 2) else 50
end
section
variable {x:Nat}
section
variable {b card:Nat}
def S.SV(b card i x:Nat):Nat:=(i / b*card+x)*b+i % b
def S.Ta(b card p:Nat):Nat:=p / (b*card)*b+p % b
def S.Tm(b card p:Nat):Nat:=p / b % card
theorem Ju(hb:0<b)(hx:x<card):S.Ta b card (S.SV b card i x)=i/\S.Tm b card (S.SV b card i x)=x:=by
 have hm:=VT i hb;have h1:S.SV b card i x / b=i / b*card+x:=by unfold S.SV;rw[We,V7 _ _ hb,VN hm,UU]
 have h2:S.SV b card i x % b=i % b:=by unfold S.SV;rw[We,Wf,Nat.mod_mod]
 have h:(i / b*card+x) / card=i / b:=by rw[We,V7 _ _ (by omega),VN hx,UU]
 have h4:(i / b*card+x) % card=x:=by rw[We,Wf,Ww hx]
 refine⟨?_,?_⟩
 ·unfold S.Ta;rw[<-Nat.div_div_eq_div_mul,h1,h2,h,Wg];exact Xe i b
 ·unfold S.Tm;rw[h1,h4]
theorem Rs(hb:0<b)(p:Nat):S.SV b card (S.Ta b card p) (S.Tm b card p)=p:=by
 have hm:=VT p hb;have h1:S.Ta b card p / b=p / (b*card):=by unfold S.Ta;rw[We,V7 _ _ hb,VN hm,UU]
 have h2:S.Ta b card p % b=p % b:=by unfold S.Ta;rw[We,Wf,Nat.mod_mod]
 unfold S.SV S.Tm;rw[h1,h2,<-Nat.div_div_eq_div_mul,Wg (p / b / card) card,Xe,Wg];exact Xe p b
theorem IR(hc:0<card)(p:Nat):S.Tm b card p<card:=VT _ hc
theorem O5(hb:0<b)(hp:p<A*b*card):S.Ta b card p<A*b:=by have h1:p / (b*card)<A:=Nat.div_lt_of_lt_mul (by rw[Wg (b*card),<-WW];exact hp);have hm:=VT p hb;unfold S.Ta;have:(p / (b*card)+1)*b<=A*b:=UB _ h1;rw[UH,Vk]at this;omega
theorem DZ(hb:0<b)(hi:i<A*b)(hx:x<card):S.SV b card i x<A*b*card:=by have h1:i / b<A:=Nat.div_lt_of_lt_mul (by rw[Wg];exact hi);have hm:=VT i hb;unfold S.SV;have h2:(i / b+1)*card<=A*card:=UB _ h1;rw[UH,Vk]at h2;have h:(i / b*card+x+1)*b<=A*card*b:=UB _ (by omega);rw[UH (i / b*card+x),Vk,WW A,Wg card b,<-WW]at h;omega
def S.S5(rows:List (List Int))(b card t:Nat):List Int:=(List.range (rows.length*card)).map λp=>if S.Ta b card p*card+S.Tm b card p<t then (rows[S.Ta b card p]?.getD [])[S.Tm b card p]?.getD 0 else 0
def S.TH(rows:List (List Int))(b card:Nat):List Int:=(List.range (rows.length*card)).map λp=>(rows[S.Ta b card p]?.getD [])[S.Tm b card p]?.getD 0
theorem Fu(rows:List (List Int))(b card t:Nat):(S.S5 rows b card t).length=rows.length*card:=by simp[S.S5]
theorem Kp(rows:List (List Int))(b card:Nat):S.S5 rows b card 0=List.replicate (rows.length*card) 0:=by refine List.ext_getElem (by simp[S.S5]) λi h1 h2=>?_;simp[S.S5]
theorem Ko{rows:List (List Int)}{r:List Int}{w:Int}(hb:0<b)(hA:rows.length=A*b)(hr:rows[i]?=some r)(hx:x<card)(hw:r[x]?=some w) :
  (S.S5 rows b card (i*card+x)).set (S.SV b card i x) w=S.S5 rows b card (i*card+x+1):=by
 have hi:=(Uh.1 hr).1;refine List.ext_getElem (by simp[S.S5]) λp h1 h2=>?_;have hp:p<rows.length*card:=by simpa [S.S5] using h2
 obtain⟨q1,q2⟩:=Ju hb (i:=i) hx;rw[List.getElem_set]
 by_cases e:S.SV b card i x=p
 ·subst e;rw[Un rfl];simp only[S.S5,List.getElem_map,List.getElem_range,q1,q2];rw[Un (by omega),hr,Us,hw,Us]
 ·rw[Um e];simp only[S.S5,List.getElem_map,List.getElem_range];have hf:=IR (b:=b) (card:=card) (by omega) p;have a:S.Ta b card p*card+S.Tm b card p≠i*card+x:=λh=>e (by
   have e1:S.Ta b card p=i:=by
    have h1:(S.Ta b card p*card+S.Tm b card p) / card=S.Ta b card p:=by rw[We,V7 _ _ (by omega),VN hf,UU]
    have h2:(i*card+x) / card=i:=by rw[We,V7 _ _ (by omega),VN hx,UU]
    rw[<-h1,h,h2]
   have k:S.Tm b card p=x:=by rw[e1]at h;omega
   rw[<-Rs hb p (card:=card),e1,k])
  by_cases h:S.Ta b card p*card+S.Tm b card p<i*card+x
  ·rw[Un h,Un (by omega)]
  ·rw[Um h,Um (by omega)]
theorem Mi{rows:List (List Int)}(hb:0<b)(hA:rows.length=A*b):S.S5 rows b card (rows.length*card)=S.TH rows b card:=by
 unfold S.S5 S.TH;refine Vr λp hp=>?_;have hp:=Uw.1 hp;have hc:0<card:=Nat.pos_of_ne_zero λe=>by subst e;simp at hp
 have h1:=O5 (A:=A) hb (by rw[<-hA];exact hp);have h2:=IR (b:=b) hc p;rw[Un];rw[<-hA]at h1;have:(S.Ta b card p+1)*card<=rows.length*card:=UB _ h1;rw[UH,Vk]at this;omega
theorem OZ{rows:List (List Int)}(hb:0<b)(hA:rows.length=A*b)(hi:i<rows.length)(hx:x<card):(S.TH rows b card)[S.SV b card i x]?=some ((rows[i]?.getD [])[x]?.getD 0):=by obtain⟨q1,q2⟩:=Ju hb (i:=i) hx;have hp:=DZ (A:=A) (i:=i) hb (by rw[<-hA];exact hi) hx;simp only[S.TH,Uo];rw[Xa (by rw[hA];exact hp)];simp only[VK,q1,q2]
end
def S.SS(ps:List Int)(k:Nat)(v:Int):List Int:=ps.take k++v::ps.drop k
theorem Q9(h:NR n)(hv:InC (S.Sx n) vals){v:Nat}{x:Node}(hx:n.nodes[v]?=some x)(k:Nat) :
  ∃p:Nat,S.SA (S.Sy (S.Sx n) (S.SS x.parents k (v:Int))) (S.Sy vals (S.SS x.parents k (v:Int)))=(p:Int)/\p<x.rows.length*x.card.toNat /\
   (S.TH x.rows (S.Sz (S.Sy (S.Sx n) (x.parents.drop k))).toNat x.card.toNat)[p]?=some (S.S4 n vals v):=by
 have hm:=Ul hx;obtain⟨i,r,c,y,e1,u,w,z,D,E,e7,F,-,-⟩:=Ft h hv hx;have b:=h.pin hm;have G:=cA h.cs b;have H:=nK hv b;have j:(S.Sx n)[v]?=some x.card:=by simp[S.Sx,hx]
 have ps:x.parents=x.parents.take k++x.parents.drop k:=(Vi k _).symm;have e:∀c∈S.Sy (S.Sx n) (x.parents.drop k),1<=c/\c<=4:=cA h.cs λp hp=>b p (Vg hp);have l:InC (S.Sy (S.Sx n) (x.parents.drop k)) (S.Sy vals (x.parents.drop k)):=nK hv λp hp=>b p (Vg hp);have s:∀c∈S.Sy (S.Sx n) (x.parents.take k),1<=c/\c<=4:=cA h.cs λp hp=>b p (Vh hp);have t:InC (S.Sy (S.Sx n) (x.parents.take k)) (S.Sy vals (x.parents.take k)):=nK hv λp hp=>b p (Vh hp);obtain⟨b1,b2⟩:=iS e l;obtain⟨a1,a2⟩:=iS s t;have hlt:(S.Sy (S.Sx n) (x.parents.take k)).length=(S.Sy vals (x.parents.take k)).length:=by simp[S.Sy]
 have ei:S.SA (S.Sy (S.Sx n) x.parents) (S.Sy vals x.parents)=S.SA (S.Sy (S.Sx n) (x.parents.take k)) (S.Sy vals (x.parents.take k))*S.Sz (S.Sy (S.Sx n) (x.parents.drop k))+S.SA (S.Sy (S.Sx n) (x.parents.drop k)) (S.Sy vals (x.parents.drop k)):=by
  conv=>lhs;rw[ps,fc,fc,wR _ _ hlt]
 have er:(x.rows.length:Int)=S.Sz (S.Sy (S.Sx n) (x.parents.take k))*S.Sz (S.Sy (S.Sx n) (x.parents.drop k)):=by
  rw[h.rows x hm]
  conv=>lhs;rw[ps,fc,ql]
 have ef:S.SA (S.Sy (S.Sx n) (S.SS x.parents k (v:Int))) (S.Sy vals (S.SS x.parents k (v:Int))) =
   S.SA (S.Sy (S.Sx n) (x.parents.take k)) (S.Sy vals (x.parents.take k))*(x.card*S.Sz (S.Sy (S.Sx n) (x.parents.drop k)))+(c*S.Sz (S.Sy (S.Sx n) (x.parents.drop k))+S.SA (S.Sy (S.Sx n) (x.parents.drop k)) (S.Sy vals (x.parents.drop k))):=by
  rw[S.SS,fc,fc,wR _ _ hlt];have:S.Sy (S.Sx n) ((v:Int)::x.parents.drop k)=x.card::S.Sy (S.Sx n) (x.parents.drop k):=by simp[S.Sy,j]
  have h2:S.Sy vals ((v:Int)::x.parents.drop k)=c::S.Sy vals (x.parents.drop k):=by simp[S.Sy,z]
  rw[this,h2,eM,S.SA]
 have I:=kw λc hc=>(e c hc).1;generalize S.Sz (S.Sy (S.Sx n) (x.parents.drop k))=B at *;generalize S.Sz (S.Sy (S.Sx n) (x.parents.take k))=A at *;generalize S.SA (S.Sy (S.Sx n) (x.parents.drop k)) (S.Sy vals (x.parents.drop k))=q at *;generalize S.SA (S.Sy (S.Sx n) (x.parents.take k)) (S.Sy vals (x.parents.take k))=a at *;obtain⟨B,rfl⟩:=Ur (show 0<=B by omega);obtain⟨A,rfl⟩:=Ur (show 0<=A by omega);obtain⟨q,rfl⟩:=Ur b1;obtain⟨a,rfl⟩:=Ur a1;obtain⟨c,rfl⟩:=Ur D;obtain⟨C,hC⟩:=Ur (show 0<=x.card by omega);rw[hC]at ef E ⊢;have f:0<B:=by omega
 have hq:q<B:=by omega
 have hc:c<C:=by omega
 rw[e1]at ei;have hi:i=a*B+q:=by
  have:(i:Int)=((a*B+q:Nat):Int):=by rw[ei,Int.natCast_add,Vn]
  omega
 have m:i / B=a:=by rw[hi,We,V7 _ _ f,VN hq,UU]
 have o:i % B=q:=by rw[hi,We,Wf,Ww hq]
 have d:x.rows.length=A*B:=by
  have:((x.rows.length:Nat):Int)=((A*B:Nat):Int):=by rw[er,Vn]
  omega
 refine⟨S.SV B C i c,?_,?_,?_⟩
 ·rw[ef,S.SV,m,o,UH,Int.natCast_add,Int.natCast_add,Vn,Vn,Vn,Xc];omega
 ·rw[U2,d];exact DZ f (by rw[<-d];exact u) hc
 ·rw[U2,U2,OZ f d u hc,w,Us];rw[U2]at e7;rw[e7,F];rfl
end
theorem Pl{e:List Int}:S.TL vals e=true↔∀i,i<e.length->e[i]?.getD 0<0\/e[i]?.getD 0=vals[i]?.getD 0:=by simp only[S.TL,Uz,Uw,S.TW,UZ,UD]
abbrev Dn:Type:=UInt8×UInt8×List UInt8
abbrev ve:Type:=UInt8×List Dn×List UInt8
abbrev Io:Type:=UInt8×UInt8×UInt8×Int
theorem C_{x:Dn}{cs:List AV}:Rp.rp P k h x cs↔∃a,cs=[u8v x.1,u8v x.2.1,a]/\SlR P k h x.2.2 a:=by
 constructor
 ·rintro⟨c1,b,rfl,h1,c,d,rfl,h2,⟨a,rfl,h4⟩⟩;rw[fM.1 h1,fM.1 h2];exact⟨a,rfl,h4⟩
 ·rintro⟨a,rfl,h4⟩;exact⟨[_],[_,a],rfl,fM.2 rfl,[_],[a],rfl,fM.2 rfl,⟨a,rfl,h4⟩⟩
theorem xY{x:ve}{cs:List AV}:Rp.rp P k h x cs↔∃a b,cs=[u8v x.1,a,b]/\SlR P k h x.2.1 a/\SlR P k h x.2.2 b:=by
 constructor
 ·rintro⟨c1,c,rfl,h1,d,e,rfl,⟨a,rfl,ha⟩,⟨b,rfl,hb⟩⟩;rw[fM.1 h1];exact⟨a,b,rfl,ha,hb⟩
 ·rintro⟨a,b,rfl,ha,hb⟩;exact⟨[_],[a,b],rfl,fM.2 rfl,[a],[b],rfl,⟨a,rfl,ha⟩,⟨b,rfl,hb⟩⟩
theorem Ru[XOc]{k2:Nat}{P2:Nat->Prop}{p:List Int}(hd:0<d)(hv:SlR P k g.h l v)(hw:SlR P2 k2 g.h p w)(hp:p.length<1073741824)(hin:∀x∈p,0<=x/\x<l.length) :
  ∃r,ae C0 d 72 [v,w] g=.val r/\IT 0 (S.Sy l p) r:=by
 obtain⟨v',e1,y⟩:=dy hv d;obtain⟨w',o,i⟩:=dy hw d;rw[BK];refine a_ Fo (xs:=[v',w']) (by simp only[aD,e1,o]) (by simp[vP]) (aG _) (by decide) hd ?_;simp only[sz,simprocAttr,vP];have n2:=λg=>(i .nil).len g;have ra:∀h',ah h' 1 v'=some (l.map ci):=λh'=>(y h').ints;have rb:∀h',ah h' 1 w'=some (p.map ci):=λh'=>(i h').ints;refine JU (v:=w') (m:=p.length) (by omega) n2 (λj t df g=>df=[]/\St t [(0,v')]/\∃u,tat t 5=u/\Own g 0 u 1 ((S.Sy l (p.take j)).map ci)) ⟨rfl,by simp[St,sx],_,rfl,.inl ⟨by simp[sx],by simp[S.Sy]⟩⟩ (by simp[sx]) (by simp[sx]) (by decide)
  (by rintro j t df g v s (rfl|rfl|rfl|rfl|rfl|rfl|rfl)<;>simp[sx,St]) ?_ ?_
 ·rintro j t df g1 f ⟨rfl,⟨h0,-⟩,u,h5,hu⟩ e h1;obtain⟨x,hx,b,hm⟩:=ay f;obtain⟨c,q⟩:=hin x hm;obtain⟨n,rfl⟩:=Ur c;have a:n<l.length:=by omega
  simp only[sz,simprocAttr,ra,rb,h0,h1,h5,e,hx,f,a,UK,Uo,VK,ci,Uj a];refine dS (new:=[ci l[n]]) (hu.step (Fr.new _ _)) (by simp[sx,sy,ci]) (by simp) (by simp[bz,S.Sy];omega) λv2 g2 hv2 n2 f2 _ l2=>?_;simp only[sz,simprocAttr,h0,h1,e,St];refine⟨_,rfl,?_⟩;rw[b];simpa [a,ci,S.Sy] using hv2
 ·rintro t df g1 ⟨rfl,⟨h0,-⟩,u,h5,hu⟩ -;rw[U3]at hu;simp only[sz,simprocAttr,uW,h5];exact⟨_,hu.ints (by simp[S.Sy];omega)⟩
theorem K3[XOc](hd:0<d)(hm:Agg n P k g.h v)(hn:n.nodes.length<1073741824) :
  ∃r,ae C0 d 73 [v] g=.val r/\IT 0 (S.Sx n) r:=by
 obtain⟨v',e,cs,rfl,hc⟩:=sj (dw n) (by decide) d hm;obtain⟨b,rfl,hN⟩:=l_.1 hc;obtain⟨rows,l,w,p,q⟩:=hN.all;have l:∀h',ah h' 3 b=some rows:=l;rw[xH];refine a_ As (xs:=[.agg [X8 n.grain,b]]) (by simp only[aD,e]) (by simp[o_]) (aG _) (by decide) hd ?_;simp only[sz,simprocAttr,o_,rO,qb];refine im n.nodes.length (by omega) (λj t df g=>df=[]/\tat t 1=X9 0/\g.h.get 0=Xs 2 [[X8 n.grain,b]]/\1<=g.nx/\∃u,tat t 3=u/\Own g 1 u 1 (((n.nodes.take j).map (·.card)).map ci))
  ⟨rfl,by simp[sx],by simp[sx],by simp[sx],_,rfl,.inl ⟨by simp[sx],rfl⟩⟩ (by simp[sx]) (by decide)
  (by rintro j t df g v s (rfl|rfl|rfl)<;>simp[sx]) ?_ ?_ ?_
 ·rintro j t df g m ⟨rfl,h1,hg,a,u,c,hu⟩ h4;simp only[sz,simprocAttr,h1,h4,hg,hN.len];exact⟨a,u,c,hu⟩
 ·rintro j t df g m ⟨rfl,h1,hg,a,u,c,hu⟩ h4;obtain⟨x,hx,i,hm⟩:=ay m;obtain⟨row,q1,q2⟩:=p j x hx;obtain⟨a',b',rfl,o,-⟩:=fd.1 q2;have hlt:j<rows.length:=by omega
  have f:=q (by omega);simp only[sz,simprocAttr,h1,c,h4,hg,l,hlt,q1,f];refine dS (new:=[ci x.card]) (hu.step (Fr.new _ _)) (by simp[sx,sy,ci]) (by simp) (by simp[bz];omega) λv2 g2 hv2 n2 f2 _ l2=>?_;simp only[sz,simprocAttr,h1,h4];refine⟨?_,?_,_,rfl,?_⟩
  ·rw[f2 0 (by simp) (λe=>by have:=(hu.lt e).1;omega),G.new_h,aL _ _ _ (by omega),hg]
  ·simp at n2;omega
  ·rw[i];simpa [ci] using hv2
 ·rintro t df g ⟨rfl,h1,hg,a,u,c,hu⟩;rw[U3]at hu;simp only[sz,simprocAttr,qc,c];exact⟨_,hu.ints (by simp;omega)⟩
theorem KW[XOc](hd:0<d)(hm:Agg n P k g.h v)(hn:n.nodes.length<1073741824)(hx:n.nodes[i]?=some x)(hl:x.parents.length<1073741824)(hin:∀p∈x.parents,0<=p/\p<n.nodes.length) :
  ∃r,ae C0 d 31 [v,X8 (i:Int)] g=.val r/\IT 0 (S.Sy (S.Sx n) x.parents) r:=by
 obtain⟨v',e,cs,rfl,hc⟩:=sj (dw n) (by decide) d hm;have f:=hc;obtain⟨b,rfl,hN⟩:=l_.1 hc;have j:∀h,Agg n NoP (max k d) h (.agg [X8 n.grain,b]):=λh=>⟨_,rfl,Rp.tree f (Ui _)⟩;obtain⟨rows,o,u,s,t⟩:=hN.all;have o:∀h',ah h' 3 b=some rows:=o;obtain⟨row,q1,q2⟩:=s i x hx;obtain⟨a',b',rfl,a,-⟩:=fd.1 q2;have q:=(Uh.1 hx).1;have hlt:i<rows.length:=by omega
 have m:=t (by omega);rw[qw];refine a_ sN (xs:=[.agg [X8 n.grain,b],X8 (i:Int)]) (by simp only[aD,e,cg 0]) (by simp[gO]) (aG _) (by decide) hd ?_;simp only[sz,simprocAttr,gO,jN];refine dE (K3 (UC d) (j _) hn) λrc hrc=>?_;have c:=λg=>Ru (d:=d+1) (g:=g) (P:=NoP) (P2:=NoP) (k:=0) (k2:=max k d) (l:=S.Sx n) (p:=x.parents) (UC d) (hrc.sl g.h) (a.tree (h':=g.h) (Ui _)) hl (λp hp=>by rw[bE];exact hin p hp);simp only[sz,simprocAttr,o,hlt,q1,m];refine dE (c _) λr hr=>?_;simp only[sz,simprocAttr];obtain⟨w,hw,hs⟩:=hr;exact⟨_,w,hw,hs.tree (Ui _)⟩
theorem NX[XOc](hd:0<d)(hv:SlR P k g.h l v):ae C0 d 30 [v] g=.val (X8 (S.Tu l)):=by have b:=IU hv.ints;have:=PS hd (KG hv.ints) (by rw[b];exact hv.1);rwa [b]at this
theorem dt(d:Nat)(hm:Agg n NoP 0 g.h v):∃b rows,v=.agg [X8 n.grain,b]/\Hx.snap g.h d an v=some v/\(∀h,Agg n NoP 0 h v)/\SlR NoP 0 .nil n.nodes b/\(∀h,ah h 3 b=some rows)/\rows.length=n.nodes.length /\
  (∀(i:Nat) (x:Node),n.nodes[i]?=some x->∃pa ra,rows[i]?=some [X8 x.card,pa,ra]/\i<rows.length/\SlR NoP 0 .nil x.parents pa/\SlR NoP 0 .nil x.rows ra)/\(0<n.nodes.length->xX b=true):=by
 have e:=lf d hm;obtain⟨cs,rfl,hc⟩:=hm;have c:=hc;obtain⟨b,rfl,hN⟩:=l_.1 hc;have hN:=hN.tree (h':=.nil) (Ui _);obtain⟨rows,j,f,l,m⟩:=hN.all;refine⟨b,rows,rfl,e,λh=>⟨_,rfl,Rp.tree c (Ui _)⟩,hN,j,f,λi x hx=>?_,m⟩;obtain⟨row,q1,q2⟩:=l i x hx;obtain⟨a',b',rfl,k,a⟩:=fd.1 q2;exact⟨a',b',q1,by rw[f];exact (Uh.1 hx).1,k,a⟩
theorem JA{l:List (List Int)}{b:AV}(hb:SlR NoP k .nil l b):∃rows:List (List AV),(∀h,ah h 1 b=some rows)/\rows.length=l.length/\(∀(i:Nat) (r:List Int),l[i]?=some r->∃z,rows[i]?=some [z]/\i<rows.length/\SlR NoP k .nil r z)/\(0<l.length->xX b=true):=by obtain⟨rows,c,a,d,e⟩:=hb.all;refine⟨rows,c,a,λi r hr=>?_,e⟩;obtain⟨row,q1,q2⟩:=d i r hr;obtain⟨z,rfl,hz⟩:=jx.1 q2;exact⟨z,q1,by rw[a];exact (Uh.1 hr).1,hz⟩
section
variable {d:Nat}{b pa ra z:AV}{gr card:Int}{r:List Int}
def LR5(v:Nat)(q:Nat):List (Nat×AV):=[(1,X9 0),(6,X8 (v:Int)),(7,X9 q)]
structure RJ1 (gr:Int) (r:List Int) (v q i j:Nat) (t:T):Prop where
 st:St t ((8,X8 (i:Int))::LR5 v q)
 s9:tat t 9=X8 (r.take j).sum
 all:∀y∈r.take j,0<=y/\y<=gr
structure RJ4 (gr card:Int) (rws:List (List Int)) (v q j:Nat) (t:T):Prop where
 st:St t (LR5 v q)
 all:∀r∈rws.take j,S.Tb gr card r=true
structure RJ0 (n:Net) (b:AV) (j:Nat) (t:T) (g:G):Prop where
 st:St t [(1,X9 0),(3,X8 (S.Sz ((S.Sx n).take j)))]
 hg:g.h.get 0=Xs 2 [[X8 n.grain,b]]
 nx:1<=g.nx
 all:∀x∈n.nodes.take j,S.T0 n.nodes.length x=true
structure RJ6 (n:Net) (b:AV) (j:Nat) (t:T) (g:G):Prop where
 st:St t [(1,X9 0)]
 hg:g.h.get 0=Xs 2 [[X8 n.grain,b]]
 nx:1<=g.nx
 all:∀x∈n.nodes.take j,S.T2 n x=true
end
section
variable {tl:List Int}
def OwnC(g:G)(b id:Nat)(l tl:List Int):Prop:=b<=id/\id<g.nx/\g.h.get id=Xs 1 (l.map ci++tl.map ci)
theorem OwnC.rows{id:Nat}(h:OwnC g b id l tl):ah g.h 1 (.hsl id 0 0 l.length none)=some (l.map ci):=by rw[kC,h.2.2,fB,Un (by simp),WA,List.take_left' (by simp)]
theorem OwnC.fr{g':G}{id:Nat}(h:OwnC g b id l tl)(hn:g.nx<=g'.nx)(hf:g'.h.get id=g.h.get id):OwnC g' b id l tl:=⟨h.1,UI h.2.1 hn,by rw[hf,h.2.2]⟩
theorem R4{n:Nat}(hn:n<=1000)(hb:b<=g.nx)(k:∀g',OwnC g' b g.nx [] (List.replicate n 0)->g'.nx=g.nx+1->(∀i,i<g.nx->g'.h.get i=g.h.get i)->K (.hsl g.nx 0 0 0 none) g') :
  (HF 1 8 [X8 0] (X8 0) (X8 (n:Int)) g).sat K g D:=by
 have h1:n<=bz:=by unfold bz;omega
 have h2:n*8<=bz:=by unfold bz;omega
 have key:HF 1 8 [X8 0] (X8 0) (X8 (n:Int)) g=.upd (.hsl g.nx 0 0 0 none) (g.new (Xs 1 (ib n [X8 0]))):=by
  show (match dN bz (X8 (.ofNat n)) with
   | some cn=>match dN cn (X8 0) with
    |some ln=>ak (Nat.ble (cn*8) bz) (OR.upd (.hsl g.nx 0 0 ln none) (g.new (Xs 1 (ib cn [X8 0])))) .fail
    |none=>.fail
   |none=>.fail)=_
  have a1:dN bz (X8 (.ofNat n))=some n:=by show ak (Nat.ble n bz) (some n) none=_;rw[aa,Un (by simpa using h1)]
  have a2:dN n (X8 0)=some 0:=by show ak (Nat.ble 0 n) (some 0) none=_;rw[aa,Un (by simp)]
  rw[a1];dsimp only;rw[a2];dsimp only;rw[aa,Un (by simpa using h2)]
 rw[key];refine k _ ⟨hb,by simp,?_⟩ (by simp) (λi hi=>?_)
 ·simp[bg,ib,ci]
 ·rw[G.new_h,aL _ _ _ (by omega)]
theorem LE{id:Nat}{x:Int}(hv:OwnC g b id l (y::tl))(hx:ah g.h 1 w=some [ci x])(hr:l.length<=1000)
  (k:∀g',OwnC g' b id (l++[x]) tl->g'.nx=g.nx->(∀i,i≠id->g'.h.get i=g.h.get i)->K (.hsl id 0 0 (l++[x]).length none) g'):(eS 1 8 (.hsl id 0 0 l.length none) w g).sat K g D:=by
 unfold eS;rw[hx];obtain⟨h1,h2,d⟩:=hv;simp only[bA,G.get_eq,d,aq,aa,UT,Vd,UR,Uk,UU,WS,WJ,VG,UK,UX,V8];rw[Un ⟨by omega,by unfold bz;omega⟩,Un (by omega)];have a:ju false=true:=rfl;rw[Un ⟨by omega,a⟩];have e:mG (l.map ci++(y::tl).map ci) l.length [ci x]=(l++[x]).map ci++tl.map ci:=by simp only[mG,il];rw[Wh,VB,VM,VR _ _ (by simp)];simp
 rw[e];have k:=k (g.put id (Xs 1 ((l++[x]).map ci++tl.map ci))) ⟨h1,by simpa using h2,by simp[bg]⟩ (by simp) (λi hi=>by rw[G.put_h,aL _ _ _ hi]);have c:l.length+1=(l++[x]).length:=by simp
 rw[c];exact k
def RT(p:List Nat):VS:=λP k h v=>∃o:List Int,True/\oE (One o) (One (S.Tv p)) P k h v
theorem Lo[XOc]{p:List Nat}(hd:0<d)(hv:SlR P k g.h p v)(hn:p.length<=8)(hp:∀x∈p,x<2 ^ p.length) :
  ∃z,ae C0 d 131 [v] g=.val z/\RT p NoP 0 .nil z:=by
 obtain⟨v',e,r1⟩:=dy hv d;have hlt:=Do hv;rw[yO];refine a_ B0 (xs:=[v']) (by simp only[aD,e]) (by simp[qJ]) (mK λo=>bY (m:=1) (aG _) (aG _) (by decide) (by decide)) (by decide) hd ?_;have vl:∀g,jC .slice v' g=.val (X8 (p.length:Int)):=λg=>(r1 .nil).len g;simp only[sz,simprocAttr,qJ,vl];refine R4 (b:=0) (n:=p.length) (by omega) (US _) λg1 hu hn1 hf1=>?_;obtain⟨id,J⟩:∃id,id=G.empty.nx:=⟨_,rfl⟩;rw[<-J]at hu ⊢;clear J hn1 hf1;simp only[sz,simprocAttr];refine pC (λn t df g=>df=[]/\∃(L:List Nat) (D:Nat) (tl:List Int),n=p.length - L.length/\L.length+tl.length=p.length/\J3 p L/\QV D L/\J2 p D/\St t [(0,v'),(4,.hsl id 0 0 (L.map λi:Nat=>(i:Int)).length none),(5,X_ (D:Int))]/\OwnC g 0 id (L.map λi:Nat=>(i:Int)) tl) p.length
  ⟨rfl,[],0,List.replicate p.length 0,by simp,by simp,⟨by simp,by simp⟩,⟨by decide,by simp⟩,CQ,by simp[sx,St],hu⟩ ?_
 rintro n t df g ⟨rfl,L,D,tl,rfl,I,O,f,hG,⟨h0,h4,h5,-⟩,hu⟩;have h8:=Ny O;have Z:∀g',jC .slice (.hsl id 0 0 (L.map λi:Nat=>(i:Int)).length none) g'=.val (X8 (L.length:Int)):=λg'=>by rw[mS hu.rows];simp
 simp only[sz,simprocAttr,rJ,h0,h4,vl,Z];refine ij (λhb=>?_) (λhb=>?_)
 ·have K:L.length<p.length:=by simpa using hb
  obtain⟨y,tl,rfl⟩:∃y tl',tl=y::tl':=by
   cases tl with
   |nil=>simp at I;omega
   |cons y tl=>exact⟨y,tl,rfl⟩
  simp only[sz,simprocAttr,h0,vl,rI];refine aV (m:=p.length) (by omega) (λj t df g'=>df=[]/\g'=g/\St t [(0,v'),(16,v'),(4,.hsl id 0 0 (L.map λi:Nat=>(i:Int)).length none),(5,X_ (D:Int))]/\∀v,v<j->D.testBit v=true\/¬Sub (Par p v) D)
   ⟨rfl,rfl,by simp[sx,St,h0,h4,h5],λv hv=>by omega⟩ (by simp[sx]) (by simp[sx]) (by decide) (by rintro j t df g v s (rfl|rfl|rfl)<;>simp[sx,St]) ?_ ?_
  ·rintro j t df g' V ⟨rfl,rfl,⟨h0,u,h4,h5,-⟩,c⟩ w H;obtain⟨x,hx,-,h7⟩:=ay V;have F:Par p j=x:=by simp[Par,hx]
   have h6:=hlt x h7;have C:j<(p.map cu).length:=by simpa using V
   have E:(p.map cu)[j]?=some (cu x):=by rw[Uo,hx];rfl
   have b1:=iY .i64 D j f.1;have R:D / 2 ^ j<18446744073709551616:=Wm (V9 _ _) f.1;have b2:bB .and (X_ ((D / 2 ^ j:Nat):Int)) (X_ 1)=.val (X_ ((D / 2 ^ j &&& 1:Nat):Int)):=mC _ 1 R (by decide);have b3:=zI x D h6 f.1;have ra:=λh=>(r1 h).nats;have l:D.testBit j = !decide (((D / 2 ^ j &&& 1:Nat):Int)=0):=by
    rw[<-qO,S.Te];have h2:D / 2 ^ j &&& 1=(D / 2 ^ j) % 2:=Nat.and_one_is_mod _;rw[h2];have:=VT (D / 2 ^ j) (show 0<2 by decide)
    by_cases h3:D / 2 ^ j % 2=0
    ·rw[h3];simp
    ·have h4:D / 2 ^ j % 2=1:=by omega
     rw[h4];simp
   have next:(D.testBit j=true\/¬Sub (Par p j) D)->∀v,v<j+1->D.testBit v=true\/¬Sub (Par p v) D:=λh v hv=>by
    by_cases e:v=j
    ·subst e;exact h
    ·exact c v (by omega)
   by_cases c1:((D / 2 ^ j &&& 1:Nat):Int)=0
   ·by_cases c2:((x ^^^ (x &&& D):Nat):Int)=0
    ·have Q:S.SB x D=0:=by simpa [S.SB] using c2
     have r:=Cy.1 Q;have W:j ∉ L:=λh=>by have:=(f.2 j).2 h;rw[l,c1]at this;simp at this
     have h9:D ||| S.S3 j<18446744073709551616:=Nx f.1 (vp j);simp only[sz,simprocAttr,u,h4,h5,w,b1,b2,b3,ra,C,E,cu,c1,c2];refine LE (x:=(j:Int)) (hu.fr (by simp) (by rw[G.new_h,aL _ _ _ (by have:=hu.2.1;omega)])) (by simp[sx,sy,ci]) (by simp;omega) λg2 hu2 n2 f2=>?_;have M:bB .shl (X_ 1) (X8 (j:Int))=.val (X_ (S.S3 j:Int)):=oa .i64 j;have e1:(L.map λi:Nat=>(i:Int))++[(j:Int)]=(L++[j]).map λi:Nat=>(i:Int):=by simp
     rw[e1]at hu2 ⊢;simp only[sz,simprocAttr,h5,M,Dx _ _ f.1 (vp j)];refine⟨p.length - (L++[j]).length,by simp;omega,L++[j],D ||| S.S3 j,tl,rfl,by simp at I ⊢;omega,KV O W V λq hq=>?_,Lf f (by omega),FI hG (by omega) (by rw[F];exact r),by simp[sx,St,h0],hu2⟩;rw[F]at hq;exact (f.2 q).1 (r q hq)
    ·have X:¬Sub (Par p j) D:=λh=>c2 (by
      have:=Cy.2 h;rw[F]at this;simp[S.SB]at this;simp[this])
     simp only[sz,simprocAttr,h0,u,h4,h5,w,H,b1,b2,b3,ra,C,E,cu,c1,c2,St];exact next (.inr X)
   ·simp only[sz,simprocAttr,h0,u,h4,h5,w,H,b1,b2,ra,C,E,cu,c1,St];exact next (.inl (by rw[l,Va c1];rfl))
  ·rintro t df g' ⟨rfl,rfl,-,c⟩;obtain⟨v0,h1,N⟩:=Po O K;have A:S.Tv p=false:=by
    cases hc:S.Tv p with
    |false=>rfl
    | true =>
     have:=Dp hp hc (T:=D) (λv hv hb=>by
      rcases c v hv with h|h
      ·rw[h]at hb;cases hb
      ·exact h) v0 h1
     exact absurd ((f.2 v0).1 this) N
   simp only[sz,simprocAttr,rK];exact⟨λ_=>True,[],.nils,.bool false,rfl,⟨.nils,rfl,by show 0<9223372036854775808;decide,rfl⟩,gy.2 (by rw[A])⟩
 ·have U:p.length<=L.length:=by simp at hb;omega
  have Y:tl=[]:=UJ (by omega);subst Y;have B:=KU O U;have A:=wi hG λv hv=>(f.2 v).2 (B.1 v hv);simp only[sz,simprocAttr,rL,h4];refine⟨λ_=>True,L.map (λi:Nat=>(i:Int)),_,_,rfl,⟨_,rfl,by simp;omega,trivial,_,hu.rows,Sx (λa=>ax.2 rfl) _⟩,gy.2 (by rw[A])⟩
end
section
variable {nt:Nat}
theorem K4{C:Cfg}{id:Nat}{ps:List Nat}{assign body:Code}{a b:SC}{dfr:Nat}{args:List AV}{t':T}
  (hg:g.h.get id=.loop nt t ps assign body dfr .ready none) (ha:bQ C nt assign=a) (hb:bQ C nt body=b) (hp:di t nt ps args=some t')
  (h:wp C d (some id) a (λe t1 df g1=>e=.norm/\df=[]/\g1=g /\
   wp C d (some id) b (λe _ df g2=>df=[]/\g2.h.get id=.loop nt t ps assign body dfr .busy none/\((e=.norm/\K (.bool true) (g2.put id (.loop nt t ps assign body dfr .ready none)))\/(e=.ret/\K (.bool false) (g2.put id (.loop nt t ps assign body dfr .done (some .ret))))))
    t1 [] (g.put id (.loop nt t ps assign body dfr .busy none))) t' [] g) :
  (cR (I C) d id args g).sat K g D:=by
 subst ha;subst hb;unfold cR;rw[show g.get id=_ from hg];dsimp only;rw[hp];dsimp only;have h1:=mM h;cases hc:(I C).code nt d (some id) assign t' [] g with
 |fail=>rw[hc]at h1;exact h1.elim
 | ok e t1 df g1 =>
  rw[hc]at h1;obtain⟨rfl,rfl,rfl,h2⟩:=h1;dsimp only;rw[show g1.get id=_ from hg];dsimp only;have k:=mM h2;cases hc2:(I C).code nt d (some id) body t1 [] (g1.put id (.loop nt t ps assign body dfr .busy none)) with
  |fail=>rw[hc2]at k;exact k.elim
  | ok e t2 df2 g2 =>
   rw[hc2]at k;obtain⟨rfl,h4,h5⟩:=k;dsimp only;rw[show g2.get id=_ from h4];rcases h5 with⟨rfl,h5⟩|⟨rfl,h5⟩<;>exact h5
theorem BC{C:Cfg}{f:Od}{ps:List Nat}{a b:SC}{df:List ADf}{fn:Nat}{first cap:List AV}{s:SF}(hv:f.get t=.clo fn first cap)(he:C.ext fn=none)(hs:nFn C fn=some s)
  (hl:(first++(.yld (g.nx+1)::cap)).length<=s.nt)
  (h:∀assign body,bQ C nt assign=a->bQ C nt body=b ->
   wp C d none s.code (fnQ C d s.res λ_ g2=>∃nt' t' ps' as' bd' dfr',(g2.h.get (g.nx+1)=.loop nt' t' ps' as' bd' dfr' .ready none/\Q .norm t (.mark g.nx::df) (g2.put (g.nx+1) (.loop nt' t' ps' as' bd' dfr' .exhausted none))) \/
     (g2.h.get (g.nx+1)=.loop nt' t' ps' as' bd' dfr' .done (some .ret)/\Q .ret t (.mark g.nx::df) (g2.put (g.nx+1) (.loop nt' t' ps' as' bd' dfr' .exhausted (some .ret)))))
    (ba 0 (first++(.yld (g.nx+1)::cap)) .nil) [] ((g.new (.dfr true)).new (.loop nt t ps assign body g.nx .ready none))) :
  wp C d none (.rng nt f ps a b) Q t df g:=by
 intro assign body ha hb;have h:=i7 hs hl (h assign body ha hb);show (bK C (I C) nt d none (f.get t) ps assign body t (.mark g.nx::df) g.nx (g.new (.dfr true))).sat Q;rw[hv];unfold bK;dsimp only;rw[he];show (match (I C).call d fn (first++(AV.yld (g.nx+1)::cap)) ((g.new (.dfr true)).new (.loop nt t ps assign body g.nx .ready none)) with
  |.ok _ g2=>cT (I C) nt d none (g.nx+1) t (.mark g.nx::df) g2
  |.fail=>.fail).sat Q
 cases hc:(I C).call d fn (first++(AV.yld (g.nx+1)::cap)) ((g.new (.dfr true)).new (.loop nt t ps assign body g.nx .ready none)) with
 |fail=>rw[hc]at h;exact h.elim
 | ok v g2 =>
  rw[hc]at h;obtain⟨nt',t',ps',as',bd',dfr',h⟩:=h;show (cT (I C) nt d none (g.nx+1) t (.mark g.nx::df) g2).sat Q;unfold cT;rcases h with⟨h1,h2⟩|⟨h1,h2⟩
  ·rw[show g2.get (g.nx+1)=_ from h1];exact h2
  ·rw[show g2.get (g.nx+1)=_ from h1];dsimp only;rw[Dm];exact h2
def RwV(x:Node):VS:=λP k h v=>∃p,v=.clo 169 [] [p] /\
 ((∃id cs,p=X9 id/\P id/\h.get id=Xs 3 [cs]/\Rp.rp P k h x cs)\/∃t cs,p=.tptr t 3 [cs] 0 0/\t<=k/\Rp.rp NoP k .nil x cs)
theorem RF(x:Node):Snb (RwV x) 2:=by
 refine⟨λ{P k h v n} d r hn=>?_,λ{k h v n} r hn=>?_⟩
 ·obtain⟨p,rfl,r⟩:=r;obtain⟨n,rfl⟩:∃q,n=q+2:=⟨n - 2,by omega⟩;rcases r with⟨id,cs,rfl,-,hg,r⟩|⟨t,cs,rfl,ht,r⟩
  ·obtain⟨cs',e,r'⟩:=Rp.snap (n:=n) d r (by show (_:Nat)<=n;exact Uy (show Rp.dp Node<=20 by decide) (by omega)) (by decide);obtain⟨m,a,l2⟩:=Rp.tag (n:=an) r' (by decide);refine⟨.clo 169 [] [.tptr (Nat.max d (Nat.max m 0)) 3 [cs'] 0 0],?_,_,rfl,.inr ⟨_,cs',rfl,?_,r'⟩⟩
   ·have:Hx.snap h d (n+1) (X9 id)=some (.tptr (Nat.max d (Nat.max m 0)) 3 [cs'] 0 0):=by simp only[Hx.snap,hg,show Nat.beq 0 0=true from rfl,aD,e,gz,h_,a]
    simp only[Hx.snap,aD]at this ⊢;rw[this]
   ·show max d (max m 0)<=max k d;omega
  ·refine⟨.clo 169 [] [.tptr t 3 [cs] 0 0],rfl,_,rfl,.inr ⟨t,cs,rfl,by omega,Rp.mono r (λi hi=>hi.elim) (by omega)⟩⟩
 ·obtain⟨p,rfl,r⟩:=r;obtain⟨n,rfl⟩:∃q,n=q+2:=⟨n - 2,by omega⟩;rcases r with⟨id,cs,rfl,b,-⟩|⟨t,cs,rfl,ht,r⟩
  ·exact b.elim
  ·exact⟨Nat.max t 0,rfl,by show max t 0<=k;omega⟩
theorem A5[XOc](hd:0<d)(hm:Agg x NoP 0 g.h v) :
  ∃pa ra,ae C0 d 156 [v] g=.val (.clo 169 [] [.tptr 0 3 [[X8 x.card,pa,ra]] 0 0])/\SlR NoP 0 .nil x.parents pa/\SlR NoP 0 .nil x.rows ra:=by
 have e0:=lf d hm;obtain⟨cs,rfl,hc⟩:=hm;obtain⟨a,b,rfl,hR,hN⟩:=fd.1 hc;have key:∃r,ae C0 d 156 [.agg [X8 x.card,a,b]] g=.val r/\RwV x NoP 0 .nil r:=by rw[BJ];refine a_ Fn (xs:=[.agg [X8 x.card,a,b]]) (by simp only[aD,e0]) (by simp[vO]) (RF x) (by decide) hd ?_;simp only[sz,simprocAttr,vO,wN];exact⟨λ_=>True,_,rfl,.inl ⟨0,_,rfl,trivial,by simp[sx],Rp.tree hc (Ui _)⟩⟩
 obtain⟨r,h1,p,rfl,h2⟩:=key;rcases h2 with⟨id,cs,rfl,e,-⟩|⟨t,cs,rfl,ht,hr⟩
 ·exact e.elim
 ·have:t=0:=by omega
  subst this;obtain⟨a',b',rfl,c,k⟩:=fd.1 hr;exact⟨a',b',h1,c,k⟩
theorem wO(fo l sz i off:Nat)(rows:List (List AV)):Mk fo (.tptr l sz rows i off)=.val (.tptr l sz rows i (off+fo)):=rfl
theorem NS[XOc]{id:Nat}{c:Int}(hra:SlR NoP 0 .nil rws ra)(J:Nat->H->Prop)(E:G->Prop)
  (step:∀(j:Nat) (r:List Int) (z:AV) (g:G) (K':AV->G->Prop) (D:ADf->Prop),rws[j]?=some r->SlR NoP 0 .nil r z->g0.nx<=g.nx->J j g.h ->
   (∀g',J (j+1) g'.h->g.nx<=g'.nx->K' (.bool true) g')->(∀g',E g'->K' (.bool false) g')->(cR (I C0) d id [X8 (j:Int),z] g).sat K' g D)
  (h0:J 0 g0.h) (fin:∀g',J rws.length g'.h->g0.nx<=g'.nx->K (.tup []) g') (finE:∀g',E g'->K (.tup []) g') :
  wp C0 d none gu.code (fnQ C0 d gu.res K) (ba 0 [.yld id,.tptr 0 3 [[X8 c,pa,ra]] 0 0] .nil) [] g0:=by
 obtain⟨rr,i,o,l,n⟩:=JA hra;simp only[sz,simprocAttr,gu,rH,wO,iT,hra.len];refine aV (m:=rws.length) hra.1 (λj t df g=>df=[]/\St t [(0,.yld id),(6,ra)]/\J j g.h/\g0.nx<=g.nx) ⟨rfl,by simp[St,sx],h0,Ui _⟩ (by simp[sx]) (by simp[sx]) (by decide) (by rintro j t df g v s (rfl|rfl|rfl)<;>simp[St,sx]) ?_ ?_
 ·rintro j t df g e ⟨rfl,⟨h0,b,-⟩,a,k⟩ h8 h7;obtain⟨r,hr,-,-⟩:=ay e;obtain⟨z,q2,q3,hz⟩:=l j r hr;have f:=n (by omega);simp only[sz,simprocAttr,h0,b,h8,i,q2,q3];show (cR (I C0) d id [X8 (j:Int),z] g).sat _ _ _;refine step j r z g _ _ hr hz k a (λg' hJ' hn'=>?_) λg' hE=>?_
  ·simp only[sz,simprocAttr,h7,h8];simp[St,sx,h0,b,hJ',Uy k hn']
  ·simp only[sz,simprocAttr];exact finE g' hE
 ·rintro t df g ⟨rfl,-,a,k⟩;simp only[sx,↓reduceIte];exact fin g a k
theorem Hi[XOc]:C0.ext 169=none:=by kernel_rfl
structure RowQ (b:Nat) (g2 g3:G) (e:Ex) (A B:Prop):Prop where
 nx:g2.nx<=g3.nx
 fr:∀i,b<=i->i<g2.nx->g3.h.get i=g2.h.get i
 st:(e=.norm/\A)\/(e=.ret/\B)
theorem Gx[XOc]{y:Nat}{c:Int}{ca cb:SC}(hra:SlR NoP 0 .nil rws ra)(hv:tat t y=.clo 169 [] [.tptr 0 3 [[X8 c,pa,ra]] 0 0])(hp:p<nt)(hq:q<nt)
  (J:Nat->H->Prop) (E:H->Prop) (hJ:∀j h h',(∀i,i<g.nx->h'.get i=h.get i)->J j h->J j h') (hE:∀h h',(∀i,i<g.nx->h'.get i=h.get i)->E h->E h') (h0:J 0 g.h)
  (step:∀(j:Nat) (r:List Int) (z:AV) (g1:G),rws[j]?=some r->SlR NoP 0 .nil r z->J j g1.h->g.nx+2<=g1.nx ->
   wp C0 d (some (g.nx+1)) ca (λe t1 df g1'=>e=.norm/\df=[]/\g1'=g1/\∀g2:G,g2.nx=g1.nx->(∀i,i≠g.nx+1->g2.h.get i=g1.h.get i) ->
    wp C0 d (some (g.nx+1)) cb (λe _ df g3=>df=[]/\RowQ g.nx g2 g3 e (J (j+1) g3.h) (E g3.h)) t1 [] g2)
    (fe (fe t p (X8 (j:Int))) q z) [] g1)
  (fin:∀g',J rws.length g'.h->g.nx+2<=g'.nx->g'.h.get g.nx=.dfr true->Q .norm t [.mark g.nx] g')
  (finE:∀g',E g'.h->g.nx+2<=g'.nx->g'.h.get g.nx=.dfr true->Q .ret t [.mark g.nx] g') :
  wp C0 d none (.rng nt (.t y) [p,q] ca cb) Q t [] g:=by
 refine BC (fn:=169) (first:=[]) (cap:=[.tptr 0 3 [[X8 c,pa,ra]] 0 0]) (s:=gu) hv Hi BZ (by simp[gu]) ?_;intro assign body ha hb;have e1:((g.new (.dfr true)).new (.loop nt t [p,q] assign body g.nx .ready none)).nx=g.nx+2:=by simp
 refine NS (g0:=(g.new (.dfr true)).new (.loop nt t [p,q] assign body g.nx .ready none)) (id:=g.nx+1) hra
  (λj h=>J j h/\h.get g.nx=.dfr true/\h.get (g.nx+1)=.loop nt t [p,q] assign body g.nx .ready none)
  (λg'=>E g'.h/\g'.h.get g.nx=.dfr true/\g'.h.get (g.nx+1)=.loop nt t [p,q] assign body g.nx .done (some .ret)/\g.nx+2<=g'.nx) ?_ ?_ ?_ ?_
 ·rintro j r z g1 K' D hr hz k ⟨a1,a2,a⟩ kk kE;rw[e1]at k;refine K4 a ha hb (t':=fe (fe t p (X8 (j:Int))) q z) ?_ ?_
  ·simp only[di,aa,U_,Un hp,Un hq];rfl
  ·refine bO _ (step j r z g1 hr hz a1 (by omega)) ?_;rintro e t1 df g1' ⟨rfl,rfl,rfl,h⟩;refine⟨rfl,rfl,rfl,?_⟩;have hl:g.nx+1<g1'.nx:=by omega
   refine bO _ (h (g1'.put (g.nx+1) (.loop nt t [p,q] assign body g.nx .busy none)) (by simp) (λi hi=>by simp[SD,hi])) ?_;rintro e t2 df g3 ⟨rfl,⟨b2,b,b1⟩⟩;have l:g3.h.get (g.nx+1)=.loop nt t [p,q] assign body g.nx .busy none:=by rw[b _ (by omega) (by simpa using hl)];simp[SD]
   have f:g3.h.get g.nx=.dfr true:=by rw[b _ (by omega) (by simp;omega)];simp[SD,a2]
   refine⟨rfl,l,?_⟩;rcases b1 with⟨rfl,b1⟩|⟨rfl,b1⟩
   ·refine .inl ⟨rfl,kk _ ⟨hJ _ g3.h _ (λi hi=>by simp[SD,show ¬i=g.nx+1 by omega]) b1,?_,?_⟩ (by simpa using b2)⟩
    ·simp[SD,f]
    ·simp[SD]
   ·refine .inr ⟨rfl,kE _ ⟨hE g3.h _ (λi hi=>by simp[SD,show ¬i=g.nx+1 by omega]) b1,?_,?_,?_⟩⟩
    ·simp[SD,f]
    ·simp[SD]
    ·simp at b2 ⊢;omega
 ·refine⟨hJ 0 g.h _ (λi hi=>?_) h0,?_,?_⟩
  ·simp[SD,show ¬i=g.nx+1 by omega,show ¬i=g.nx by omega]
  ·simp[SD]
  ·simp[SD]
 ·rintro g' ⟨a1,a2,a⟩ k;rw[e1]at k;refine⟨_,_,_,_,_,_,.inl ⟨a,fin _ (hJ _ g'.h _ (λi hi=>by simp[SD,show ¬i=g.nx+1 by omega]) a1) (by simpa using k) ?_⟩⟩;simp[SD,a2]
 ·rintro g' ⟨a1,a2,a,k⟩;refine⟨_,_,_,_,_,_,.inr ⟨a,finE _ (hE g'.h _ (λi hi=>by simp[SD,show ¬i=g.nx+1 by omega]) a1) (by simpa using k) ?_⟩⟩;simp[SD,a2]
end
abbrev NwM:Type:=Net×List Int×List Nat×List Int
theorem yC{x:NwM}{cs:List AV}:Rp.rp P k h x cs↔∃a b c e,cs=[X8 x.1.grain,a,b,c,e]/\SlR P k h x.1.nodes a/\SlR P k h x.2.1 b/\SlR P k h x.2.2.1 c/\SlR P k h x.2.2.2 e:=by
 constructor
 ·rintro⟨c1,d,rfl,h1,f,i,rfl,⟨b,rfl,hb⟩,j,l,rfl,⟨c,rfl,hc⟩,⟨e,rfl,he⟩⟩;obtain⟨a,rfl,ha⟩:=l_.1 h1;exact⟨a,b,c,e,rfl,ha,hb,hc,he⟩
 ·rintro⟨a,b,c,e,rfl,ha,hb,hc,he⟩;exact⟨[_,a],[b,c,e],rfl,l_.2 ⟨a,rfl,ha⟩,[b],[c,e],rfl,⟨b,rfl,hb⟩,[c],[e],rfl,⟨c,rfl,hc⟩,⟨e,rfl,he⟩⟩
theorem EG:∀{l:List Int},(∀x∈l,0<=x)->0<=l.sum
 |[],_=>by simp
 | x::l,h=>by have:=EG (l:=l) λy hy=>h y (by simp[hy]);have:=h x (by simp);rw[Wu];omega
theorem GK(h:∀x∈l,0<=x)(j:Nat):(l.take j).sum<=l.sum:=by
 have:=EG (l:=l.drop j) λx hx=>h x (Vg hx);have e:l.sum=(l.take j).sum+(l.drop j).sum:=by rw[<-List.sum_append,Vi]
 omega
theorem A0:∀{l:List Int},(∀x∈l,0<=x)->∀x∈l,x<=l.sum
 |[],_,x,hx=>by simp at hx
 | y::l,h,x,hx=>by
  have h1:=EG (l:=l) λz hz=>h z (by simp[hz]);have h2:=h y (by simp);rw[Wu];rcases UW.1 hx with rfl|hx
  ·omega
  ·have:=A0 (l:=l) (λz hz=>h z (by simp[hz])) x hx;omega
def S.Tj(gr:Int)(cs:List Int)(x:Node):Bool:=decide ((x.rows.length:Int)=S.Sz (S.Sy cs x.parents))&&x.rows.all (S.Tb gr x.card)
structure FJ (gr:Int) (r:List Int) (z:AV) (j:Nat) (t:T):Prop where
 st:St t [(2,X9 0),(3,X9 1),(4,X9 2),(9,z),(40,z),(10,X8 (gr - (r.take j).sum))]
 nn:∀x∈r.take j,0<=x
 le:(r.take j).sum<=gr
theorem Ku[XOc]{rd:Option Nat}{r:List Int}{z:AV}(hz:SlR NoP 0 .nil r z)(hg1:1<=gr/\gr<=60)
  (ht:St t [(2,X9 0),(3,X9 1),(4,X9 2),(9,z),(40,z),(10,X8 gr)]) (h42:tat t 42=X8 0) (h41:tat t 41=X8 (r.length:Int)) (e2:g.h.get 2=Xs 1 [[.bool false]])
  (bad:∀t,(∀card,S.Tb gr card r=false)->Q .ret t [] (g.put 2 (Xs 1 [[.bool false]])))
  (fin:∀t,(∀x∈r,0<=x)->r.sum<=gr->St t [(2,X9 0),(3,X9 1),(4,X9 2),(9,z),(10,X8 (gr - r.sum))]->Q (.exit 4) t [] g) :
  wpL (wp C0 d rd eB) Q t [] g:=by
 have rz:=λh=>(hz.tree (h':=h) (Ui 0)).ints;simp only[eB];refine aV (m:=r.length) hz.1 (λj t df g'=>df=[]/\g'=g/\FJ gr r z j t) ⟨rfl,rfl,by simpa using ht,by simp,by simp;omega⟩ h42 h41 (by decide)
  (by rintro j t df g v s (rfl|rfl|rfl) ⟨a1,a2,⟨b1,b2,p,q,u,w,-⟩,A,B⟩<;>exact⟨a1,a2,by simp[St,sx,b1,b2,p,q,u,w],A,B⟩) ?_ ?_
 ·rintro j t df g' o ⟨rfl,rfl,⟨⟨h2,f,h4,h9,a,k,-⟩,b,e⟩⟩ h42 h41;obtain⟨y,D,c,hm⟩:=ay o;have i:j<(r.map ci).length:=by simpa using o
  have n:(r.map ci)[j]?=some (ci y):=by rw[Uo,D];rfl
  have C:=EG b
  by_cases c1:y<0
  ·simp only[sz,simprocAttr,h4,a,h42,rz,i,n,ci,c1,e2];exact bad _ (λcard=>by
    rw[<-U5,S.Tb];simp only[Uk,UD,Uz];rintro⟨⟨-,h⟩,-⟩;have:=h y hm;omega)
  ·by_cases c2:gr - (r.take j).sum<y
   ·simp only[sz,simprocAttr,h4,a,k,h42,rz,i,n,ci,c1,c2,e2];exact bad _ (λcard=>by
     rw[<-U5,S.Tb];simp only[Uk,UD,Uz];rintro⟨⟨-,h⟩,hs⟩;have h1:=GK (l:=r) (λx hx=>(h x hx).1) (j+1);rw[c,Br]at h1;omega)
   ·have w1:IntKind.wrap .i64 (gr - (r.take j).sum - y)=gr - (r.take (j+1)).sum:=by rw[aE (by omega) (by omega),c,Br];omega
    simp only[sz,simprocAttr,a,k,h42,h41,rz,i,n,ci,c1,c2,w1];refine⟨by simp[St,sx,h2,f,h4,h9,a],λx hx=>?_,by rw[c,Br];omega⟩;rw[c]at hx;rcases UL.1 hx with h|h
    ·exact b x h
    ·rw[Vc.1 h];omega
 ·rintro t df g' ⟨rfl,rfl,⟨⟨h2,f,h4,h9,a,k,-⟩,b,e⟩⟩;rw[U3]at b e k;exact fin t b e ⟨h2,f,h4,h9,k,trivial⟩
structure FlJ (cs1 cs2:List AV) (gr card:Int) (rws:List (List Int)) (j:Nat) (h:H):Prop where
 a0:h.get 0=Xs 5 [cs1]
 a1:h.get 1=Xs 3 [cs2]
 a2:h.get 2=Xs 1 [[.bool false]]
 all:∀r∈rws.take j,S.Tb gr card r=true
structure FlE (gr card:Int) (rws:List (List Int)) (h:H):Prop where
 a2:h.get 2=Xs 1 [[.bool false]]
 ex:∃r∈rws,S.Tb gr card r=false
theorem Kv[XOc]{k1 k2:Nat}{P1 P2:Nat->Prop}{m:NwM}(hd:0<d)(hm:Agg m P1 k1 g.h v)(hx:Agg x P2 k2 g.h w)(hk:k2=0/\P2=NoP)(hg1:1<=m.1.grain/\m.1.grain<=60)(hc:∀c∈m.2.1,1<=c/\c<=4)
  (hp:∀p∈x.parents,0<=p/\p<m.2.1.length) (hpl:x.parents.length<=8):ae C0 d 130 [v,w] g=.val (.bool (S.Tj m.1.grain m.2.1 x)):=by
 obtain⟨rfl,rfl⟩:=hk;obtain⟨v',e1,cs,rfl,V⟩:=sj (dw m) (by decide) d hm;obtain⟨nb,cb,sb,ob,rfl,-,U,-,-⟩:=yC.1 V;have e2:=lf d hx;obtain⟨cs2,rfl,A⟩:=hx;obtain⟨pa,ra,rfl,N,F⟩:=fd.1 A;have B:∀h,Agg x NoP 0 h (.agg [X8 x.card,pa,ra]):=λh=>⟨_,rfl,Rp.tree A (Ui _)⟩;have F:=F.tree (h':=.nil) (Ui 0);have rp:=λh=>(N.tree (h':=h) (Ui 0)).ints;have rc:=λh=>(U.tree (h':=h) (Ui _)).ints;have pl:=λg=>(N.tree (h':=.nil) (Ui 0)).len g;have rl:=λg=>F.len g;rw[pK];refine lF rV (xs:=[.agg [X8 m.1.grain,nb,cb,sb,ob],.agg [X8 x.card,pa,ra]]) (by simp only[aD,e1,e2]) (by simp[fX]) hd ?_;simp only[sz,simprocAttr,fX];obtain⟨g0,hg0⟩:∃g0,g0=((G.empty.new (Xs 5 [[X8 m.1.grain,nb,cb,sb,ob]])).new (Xs 3 [[X8 x.card,pa,ra]])).new (Xs 1 [[.bool false]]):=⟨_,rfl⟩;rw[<-hg0];have f0:g0.h.get 0=Xs 5 [[X8 m.1.grain,nb,cb,sb,ob]]:=by rw[hg0];simp[sx,SD]
 have f1:g0.h.get 1=Xs 3 [[X8 x.card,pa,ra]]:=by rw[hg0];simp[sx,SD]
 have f2:g0.h.get 2=Xs 1 [[.bool false]]:=by rw[hg0];simp[sx]
 have f3:g0.nx=3:=by rw[hg0];simp[sx]
 clear hg0;simp only[sz,simprocAttr,jk,f1,pl,iK];refine aV (m:=x.parents.length) (by omega) (λj t df g=>df=[]/\g=g0/\St t [(2,X9 0),(3,X9 1),(4,X9 2),(14,pa),(5,X8 (S.Sz (S.Sy m.2.1 (x.parents.take j))))])
  ⟨rfl,rfl,by simp[St,sx,S.Sz,S.Sy]⟩ (by simp[sx]) (by simp[sx]) (by decide) (by rintro j t df g v s (rfl|rfl|rfl)<;>simp[St,sx]) ?_ ?_
 ·rintro j t df g hj ⟨rfl,rfl,⟨h2,k,h4,n,h5,-⟩⟩ T R;obtain⟨p,X,I,W⟩:=ay hj;obtain⟨p0,p1⟩:=hp p W;obtain⟨p,rfl⟩:=Ur p0;have f:p<m.2.1.length:=by omega
  have u1:j<(x.parents.map ci).length:=by simpa using hj
  have u2:(x.parents.map ci)[j]?=some (ci (p:Int)):=by rw[Uo,X];rfl
  have u3:p<(m.2.1.map ci).length:=by simpa using f
  have u4:(m.2.1.map ci)[p]?=some (ci m.2.1[p]):=by rw[Uo,Uj f];rfl
  have e3:S.Sz (S.Sy m.2.1 (x.parents.take (j+1)))=S.Sz (S.Sy m.2.1 (x.parents.take j))*m.2.1[p]:=by rw[I,fc,ql];congr 1;simp[S.Sy,S.Sz,Uj f]
  have hb:=du (l:=S.Sy m.2.1 (x.parents.take (j+1))) (cA hc λq hq=>hp q (Vh hq));have ha:=gx (a:=(S.Sy m.2.1 (x.parents.take (j+1))).length) (b:=8) (by simp[S.Sy];omega);have h7:(4:Int) ^ 8=65536:=by decide
  have w1:IntKind.wrap .i64 (S.Sz (S.Sy m.2.1 (x.parents.take j))*m.2.1[p])=S.Sz (S.Sy m.2.1 (x.parents.take (j+1))):=by rw[<-e3,aE (by omega) (by omega)]
  simp only[sz,simprocAttr,h2,n,h5,T,R,f0,rp,rc,u1,u2,u3,u4,ci,w1];simp[St,sx,h2,k,h4,n]
 rintro t df g ⟨rfl,rfl,⟨h2,k,h4,n,h5,-⟩⟩;rw[U3]at h5;simp only[iO]
 by_cases c1:(x.rows.length:Int)=S.Sz (S.Sy m.2.1 x.parents)
 ·obtain⟨pa',ra',er,h6,O⟩:=A5 (d:=d+1) (g:=g) (UC d) (B g.h);refine i8 (P:=λt' df g'=>df=[]/\g'=g/\St t' [(2,X9 0),(3,X9 1),(4,X9 2)]) ?_ ?_
  ·simp only[sz,simprocAttr,k,h5,f1,rl,c1];simp[St,sx,h2,k,h4]
  clear h2 k h4 h5 n;rintro t df g ⟨rfl,rfl,h2,k,h4,-⟩;rw[dU,dU];simp only[sz,simprocAttr,k,f1,er];refine Gx (c:=x.card) (pa:=pa') O (by simp[sx]) (by decide) (by decide)
   (FlJ [X8 m.1.grain,nb,cb,sb,ob] [X8 x.card,pa,ra] m.1.grain x.card x.rows)
   (FlE m.1.grain x.card x.rows) ?_ ?_ ⟨f0,f1,f2,by simp⟩ ?_ ?_ ?_
  ·rintro j h h' L ⟨a0,a1,a2,u⟩;exact⟨by rw[L 0 (by omega),a0],by rw[L 1 (by omega),a1],by rw[L 2 (by omega),a2],u⟩
  ·rintro h h' L ⟨a2,u⟩;exact⟨by rw[L 2 (by omega),a2],u⟩
  ·rintro j r z g1 hr hz ⟨a0,a1,a2,u⟩ hn;obtain⟨r',o,I,H⟩:=ay (l:=x.rows) (j:=j) (Uh.1 hr).1;rw[hr]at o;injection o with o;subst o;simp only[sz,simprocAttr,iJ];intro g2 Z D;have Y:g2.h.get 0=Xs 5 [[X8 m.1.grain,nb,cb,sb,ob]]:=by rw[D 0 (by omega),a0]
   have b1:g2.h.get 1=Xs 3 [[X8 x.card,pa,ra]]:=by rw[D 1 (by omega),a1]
   have b2:g2.h.get 2=Xs 1 [[.bool false]]:=by rw[D 2 (by omega),a2]
   simp only[sz,simprocAttr,iL,h2,Y,hz.len];refine Ku (gr:=m.1.grain) (r:=r) (z:=z) hz hg1 (by simp[St,sx,h2,k,h4]) (by simp[sx]) (by simp[sx]) b2 ?_ ?_
   ·rintro t Q;simp only[sx,sy];exact⟨by simp,λi h1 h2=>by simp[SD,show ¬i=2 by omega],.inr ⟨rfl,by simp[SD],r,H,Q _⟩⟩
   ·rintro t M h8 ⟨h2,k,h4,h9,K,-⟩;have J:=λg=>hz.len g
    by_cases c2:(r.length:Int)=x.card
    ·by_cases c3:m.1.grain - r.sum=0
     ·simp only[sz,simprocAttr,cL,k,h9,K,J,b1,c2,c3];refine⟨Ui _,λi _ _=>rfl,.inl ⟨rfl,Y,b1,b2,λy hy=>?_⟩⟩;rw[I]at hy;rcases UL.1 hy with h|h
      ·exact u y h
      ·rw[Vc.1 h,S.Tb];simp only[Uk,UD,Uz];exact⟨⟨c2,λq hq=>⟨M q hq,by have:=A0 M q hq;omega⟩⟩,by omega⟩
     ·have e:S.Tb m.1.grain x.card r=false:=by rw[S.Tb];simp;intros;omega
      simp only[sz,simprocAttr,cL,k,h4,h9,K,J,b1,b2,c2,c3];exact⟨by simp,λi h1 h2=>by simp[SD,show ¬i=2 by omega],.inr ⟨rfl,by simp[SD],r,H,e⟩⟩
    ·have e:S.Tb m.1.grain x.card r=false:=by rw[S.Tb];simp[c2]
     simp only[sz,simprocAttr,cL,k,h4,h9,J,b1,b2,c2];exact⟨by simp,λi h1 h2=>by simp[SD,show ¬i=2 by omega],.inr ⟨rfl,by simp[SD],r,H,e⟩⟩
  ·rintro g' ⟨a0,a1,a2,u⟩ hn C;rw[U3]at u;have E:S.Tj m.1.grain m.2.1 x=true:=by rw[S.Tj,Uz.2 u];simp[c1]
   simp only[sz,simprocAttr,iM,h4,a2];refine iB (by simp[SD,show ¬g.nx=2 by omega,C]) ?_;simp only[sx,sy,↓reduceIte,Nat.reduceEqDiff,h4,E];simp[show ¬(2=g.nx) by omega]
   rfl
  ·rintro g' ⟨a2,r,hr,e⟩ hn C;have E:S.Tj m.1.grain m.2.1 x=false:=by
    rw[S.Tj];have:x.rows.all (S.Tb m.1.grain x.card)=false:=by rw[<-U5,Uz];intro h;rw[h r hr]at e;cases e
    rw[this,Bool.and_false]
   simp only[sx];refine iB C ?_;simp only[sx,sy,↓reduceIte,Nat.reduceEqDiff,h4,E];rw[Um (by omega),a2]
   rfl
 ·simp only[sz,simprocAttr,k,h4,h5,f1,f2,rl,c1];rw[S.Tj];simp[c1]
theorem zk:∀{l:List Int} {v:Nat},(∀x∈l,0<=x/\x<64)->((S.SQ l).testBit v=true↔(v:Int)∈l):=by
 have key:∀(l:List Int) (s v:Nat),(∀x∈l,0<=x/\x<64)->((l.foldl (λs x=>s ||| S.S3 x.toNat) s).testBit v=true↔s.testBit v=true\/(v:Int)∈l):=by
  intro l
  induction l with
  |nil=>intro s v _;simp
  | cons x l ih =>
   intro s v h;have hx:=h x (by simp);rw[WD,ih _ _ λy hy=>h y (by simp[hy]),tP,zJ (show x.toNat<64 by omega),UZ,UD,UW];constructor
   ·rintro ((h|h)|h)
    ·exact .inl h
    ·exact .inr (.inl (by omega))
    ·exact .inr (.inr h)
   ·rintro (h|h|h)
    ·exact .inl (.inl h)
    ·exact .inl (.inr (by omega))
    ·exact .inr h
 intro l v h;have:=key l 0 v h;simpa [S.SQ] using this
theorem Nl(hk:k<=64)(h:∀x∈l,0<=x/\x<k):S.SQ l<2 ^ k:=by
 have hb:∀i,k<=i->(S.SQ l).testBit i=false:=λi hi=>by rw[<-U5,zk λx hx=>by have:=h x hx;omega];intro hm;have:=h _ hm;omega
 exact Nat.lt_pow_two_of_testBit _ λi hi=>hb i hi
structure RdH (n:Net) (b cv sv:AV) (q:Nat) (X:List Int) (Y:List Nat) (g:G):Prop where
 h0:g.h.get 0=Xs 2 [[X8 n.grain,b]]
 h1:g.h.get 1=Xs 5 [[X8 0,.nils,.nils,.nils,.nils]]
 hq:g.h.get q=Xs 5 [[X8 n.grain,b,cv,sv,.nils]]
 hc:Own g 2 cv 1 (X.map ci)
 hs:Own g 2 sv 1 (Y.map cu)
 q2:2<=q
 qn:q<g.nx
 d1:vid cv≠some q
 d2:vid sv≠some q
 d3:∀i,vid cv=some i->vid sv≠some i
theorem RdH.fr{n:Net}{b cv sv:AV}{q:Nat}{X:List Int}{Y:List Nat}{g':G}(h:RdH n b cv sv q X Y g)(f:Fr g g'):RdH n b cv sv q X Y g' :=
 ⟨by rw[f.2 0 (by have:=h.qn;have:=h.q2;omega),h.h0],by rw[f.2 1 (by have:=h.qn;have:=h.q2;omega),h.h1],by rw[f.2 q h.qn,h.hq],h.hc.step f,h.hs.step f,h.q2,UI h.qn f.1,h.d1,h.d2,h.d3⟩
def S.TS(n:Net)(o:List Int):NwM:=if S.SW n then (n,S.Sx n,S.SK n,o) else (⟨0,[]⟩,[],[],[])
def ES(n:Net):VS:=λP k h v=>∃o:List Int,True/\oE (Agg (S.TS n o)) (One (if S.SW n then (0:Int) else 50)) P k h v
section
variable {d:Nat}{n:Net}{b cv sv:AV}{q:Nat}{rows:List (List AV)}
def LRd(q:Nat):List (Nat×AV):=[(1,X9 0),(2,X9 1),(4,X9 q)]
theorem Rx[XOc](hn:¬NR n)(h1:g.h.get 1=Xs 5 [[X8 0,.nils,.nils,.nils,.nils]])(t2:tat t 2=X9 1)(t3:tat t 3=X8 50) :
  fnQ C0 d nj.res (λv g'=>∃P,ES n P 0 g'.h v) .ret t [] g:=by
 have hf:S.SW n=false:=by
  cases h:S.SW n with
  |false=>rfl
  |true=>exact absurd (bw.1 h) hn
 simp only[nj,sx,sy,↓reduceIte,Nat.reduceAdd,Nat.reduceLeDiff,t2,t3,h1];refine⟨λ_=>True,[],trivial,_,_,rfl,⟨_,rfl,?_⟩,?_⟩
 ·rw[S.TS,hf];exact yC.2 ⟨.nils,.nils,.nils,.nils,rfl,⟨by show 0<9223372036854775808;decide,rfl⟩,⟨by show 0<9223372036854775808;decide,rfl⟩,⟨by show 0<9223372036854775808;decide,rfl⟩,⟨by show 0<9223372036854775808;decide,rfl⟩⟩
 ·rw[hf];exact ax.2 rfl
structure Rd0 (n:Net) (b cv sv:AV) (q j:Nat) (t:T) (g:G):Prop where
 st:St t ((48,b)::(5,X8 (S.Sz ((S.Sx n).take j)))::LRd q)
 hp:RdH n b cv sv q ((S.Sx n).take j++List.replicate (n.nodes.length - j) 0) (List.replicate n.nodes.length 0) g
 ok:∀x∈n.nodes.take j,1<=x.card/\x.card<=4
theorem PC[XOc](hl:n.nodes.length<=8)(hN:SlR NoP 0 .nil n.nodes b)(r1:∀h,ah h 3 b=some rows)(r2:rows.length=n.nodes.length)
  (r3:∀(i:Nat) (x:Node),n.nodes[i]?=some x->∃pa ra,rows[i]?=some [X8 x.card,pa,ra]/\i<rows.length/\SlR NoP 0 .nil x.parents pa/\SlR NoP 0 .nil x.rows ra) (r4:0<n.nodes.length->xX b=true)
  (h0:Rd0 n b cv sv q 0 t g) (h50:tat t 50=X8 0) (h49:tat t 49=X8 (n.nodes.length:Int))
  (bad:∀t g,¬NR n->g.h.get 1=Xs 5 [[X8 0,.nils,.nils,.nils,.nils]]->tat t 2=X9 1->tat t 3=X8 50->Q .ret t [] g)
  (fin:∀t g,Rd0 n b cv sv q n.nodes.length t g->Q (.exit 0) t [] g):wpL (wp C0 d none oZ) Q t [] g:=by
 simp only[oZ];refine aV (m:=n.nodes.length) (by omega) (λj t df g=>df=[]/\Rd0 n b cv sv q j t g) ⟨rfl,h0⟩ h50 h49 (by decide)
  (by rintro j t df g v s (rfl|rfl|rfl) ⟨a1,⟨b1,b2,N,O,R,-⟩,c1,u⟩<;>exact⟨a1,by simp[St,LRd,sx,b1,b2,N,O,R],c1,u⟩) ?_ ?_
 ·rintro j t df g V ⟨rfl,⟨⟨f,h5,h1,h2,h4,-⟩,hp,H⟩⟩ h50 h49;obtain⟨x,hx,I,J⟩:=ay V;obtain⟨pa,ra,q1,hlt,Y,h3⟩:=r3 j x hx;have h8:=r4 (by omega);have q2:=hp.q2;have qn:=hp.qn;have o:¬(1=g.nx):=by omega
  have M:¬(q=g.nx):=by omega
  have f1:Fr g (g.new (Xs 3 [[X8 0,.nils,.nils]])):=Fr.new _ _;have badn:¬(1<=x.card/\x.card<=4)->¬NR n:=λh hr=>h (hr.card x J)
  by_cases c1:x.card<1
  ·simp only[sz,simprocAttr,h2,f,h50,r1,hlt,q1,hp.h1,o,c1];exact bad _ _ (badn (by omega)) (by simp[SD]) (by simp[sx,h2]) (by simp[sx])
  ·by_cases u:4<x.card
   ·simp only[sz,simprocAttr,h2,f,h50,r1,hlt,q1,hp.h1,o,c1,u];exact bad _ _ (badn (by omega)) (by simp[SD]) (by simp[sx,h2]) (by simp[sx])
   ·have l:∀y∈n.nodes.take (j+1),1<=y.card/\y.card<=4:=λy w=>by
     rw[I]at w;rcases UL.1 w with h|h
     ·exact H y h
     ·rw[Vc.1 h];omega
    have D:∀c∈(S.Sx n).take (j+1),1<=c/\c<=4:=λc hc=>by rw[S.Sx,<-List.map_take]at hc;obtain⟨y,w,rfl⟩:=U4.1 hc;exact l y w
    have Z:=du D;have X:=gx (a:=((S.Sx n).take (j+1)).length) (b:=8) (by rw[U0];omega);have L:(4:Int) ^ 8=65536:=by decide
    have E:(S.Sx n)[j]?=some x.card:=by simp[S.Sx,hx]
    have ets:(S.Sx n).take (j+1)=(S.Sx n).take j++[x.card]:=by rw[Ws,E];rfl
    have e1:S.Sz ((S.Sx n).take (j+1))=S.Sz ((S.Sx n).take j)*x.card:=by rw[ets];exact um _ _
    have w1:IntKind.wrap .i64 (S.Sz ((S.Sx n).take j)*x.card)=S.Sz ((S.Sx n).take (j+1)):=by rw[<-e1,aE (by omega) (by omega)]
    have r:((S.Sx n).take j).length=j:=by rw[U0,bE];omega
    have B:(((S.Sx n).take j++List.replicate (n.nodes.length - j) 0).map ci)[j]?=some (ci 0):=by rw[Uo,UA (by omega),r,Ve,List.getElem?_replicate,Un (by omega)];rfl
    have A:j<(((S.Sx n).take j++List.replicate (n.nodes.length - j) 0).map ci).length:=by simp[bE];omega
    have C:((S.Sx n).take j++List.replicate (n.nodes.length - j) 0).set j x.card=(S.Sx n).take (j+1)++List.replicate (n.nodes.length - (j+1)) 0:=by rw[VR _ _ (by omega),r,Ve,ets,show n.nodes.length - j=(n.nodes.length - (j+1))+1 by omega,VO,Wa,VB];rfl
    have W:=hp.fr f1;obtain⟨g2,p⟩:∃g2,g2=(g.new (Xs 3 [[X8 0,.nils,.nils]])).put g.nx (Xs 3 [[X8 x.card,pa,ra]]):=⟨_,rfl⟩;have f2:Fr g g2:=by rw[p];exact Qj (by simp) λi hi=>by simp[SD,show ¬i=g.nx by omega]
    have k:=hp.fr f2;have K:g2.h.get g.nx=Xs 3 [[X8 x.card,pa,ra]]:=by rw[p];simp[SD]
    refine jy (P:=λt' df g'=>df=[]/\g'=g2/\St t' ((48,b)::(5,X8 (S.Sz ((S.Sx n).take j)))::LRd q)/\tat t' 6=X8 (j:Int)/\tat t' 7=X9 g.nx/\tat t' 50=X8 (j:Int)/\tat t' 49=X8 (n.nodes.length:Int)) ?_ ?_
    ·simp only[sz,simprocAttr,f,h49,h50,r1,hlt,q1];rw[p];simp[St,LRd,sx,h1,h2,h4,h5,f]
    clear h1 h2 h4 h5 f h49 h50;rintro t df g3 ⟨rfl,rfl,⟨f,h5,h1,h2,h4,-⟩,U,h7,h50,h49⟩;have F:=k.hc.rows;simp only[sz,simprocAttr,h4,U,h7,K,k.hq,F,A,c1,u];refine cP (v:=cv) (sz:=1) (n:=1) (i:=j) (off:=0) (x:=X8 x.card) (row':=ci x.card) k.hc B rfl rfl rfl λg4 hu4 n4 f4=>?_;rw[HD,C]at hu4;have z:g4.h.get g.nx=Xs 3 [[X8 x.card,pa,ra]]:=by rw[f4 _ λe=>by have:=(hp.hc.lt e).2;omega,K]
    simp only[sz,simprocAttr,h5,h7,h49,h50,z,w1];refine⟨by simp[St,LRd,sx,h1,h2,h4,f],⟨?_,?_,?_,hu4,?_,q2,by rw[n4];exact k.qn,hp.d1,hp.d2,hp.d3⟩,l⟩
    ·rw[f4 0 λe=>by have:=(hp.hc.lt e).1;omega,k.h0]
    ·rw[f4 1 λe=>by have:=(hp.hc.lt e).1;omega,k.h1]
    ·rw[f4 q hp.d1,k.hq]
    ·exact k.hs.fr (by omega) λi hi=>f4 i λe=>hp.d3 i e hi
 ·rintro t df g ⟨rfl,h⟩;exact fin t g h
end
def ku(ps:List Int)(i:Nat):Int:=if i=0 then -1 else ps[i - 1]?.getD 0
theorem yw{p:Int}(h:ps[i]?=some p):ku ps (i+1)=p:=by unfold ku;rw[Um (by omega),Nat.add_sub_cancel,h];rfl
structure PlI (ps:List Int) (k:Int) (v i:Nat):Prop where
 rng:∀(j:Nat) (p:Int),j<i->ps[j]?=some p->0<=p/\p<k/\p≠(v:Int)
 inc:∀(j:Nat) (p q:Int),j+1<i->ps[j]?=some p->ps[j+1]?=some q->p<q
theorem NK{k:Int}{v:Nat}{p:Int}(h:PlI ps k v i)(hp:ps[i]?=some p)(h1:ku ps i<p)(h2:p<k)(h3:p≠(v:Int)):PlI ps k v (i+1):=by
 refine⟨λj q hj hq=>?_,λj a c hj ha hc=>?_⟩
 ·by_cases e:j=i
  ·subst e;rw[hp]at hq;injection hq with hq;subst hq;refine⟨?_,h2,h3⟩
   by_cases e0:j=0
   ·subst e0;unfold ku at h1;simp at h1;omega
   ·have b:j - 1<ps.length:=by have:=(Uh.1 hp).1;omega
    have:=h.rng (j - 1) ps[j - 1] (by omega) (Uj b);unfold ku at h1;rw[Um e0,Uj b,Us]at h1;omega
  ·exact h.rng j q (by omega) hq
 ·by_cases e:j+1=i
  ·subst e;rw[hp]at hc;injection hc with hc;subst hc;rw[yw ha]at h1;exact h1
  ·exact h.inc j a c (by omega) ha hc
theorem HQ{k:Int}{v:Nat}(h:PlI ps k v ps.length):S.Tn ps k=true:=by
 unfold S.Tn;rw[Uz];intro i hi;have hi:=Uw.1 hi;have hp:ps[i]?=some ps[i]:=Uj hi;obtain⟨a,b,-⟩:=h.rng i _ hi hp
 by_cases e:i=0
 ·subst e;simp only[S.TO,hp,Us];simp;omega
 ·have hq:ps[i - 1]?=some ps[i - 1]:=Uj (by omega);have:=h.inc (i - 1) _ ps[i] (by omega) hq (by rw[show i - 1+1=i by omega];exact hp);simp only[S.TO,hp,hq,Us];simp;omega
theorem NR.pl{n:Net}(h:NR n){v:Nat}(hx:n.nodes[v]?=some x){p:Int}(hp:x.parents[i]?=some p):ku x.parents i<p/\p<n.nodes.length/\p≠(v:Int):=by
 have hm:=Ul hx;have k:=h.places x hm;have h1:=gw k p (Ul hp);have hl2:=h.l2;refine⟨?_,h1.2,λe=>?_⟩
 ·unfold ku
  split
  ·omega
  ·rename_i e;have b:=(Uh.1 hp).1;have hq:x.parents[i - 1]?=some x.parents[i - 1]:=Uj (by omega);rw[hq,Us];exact v6 k hq (by rw[show i - 1+1=i by omega];exact hp)
 ·have c:=(Uh.1 hx).1;have ha:=wh.1 h.acyc v (by simp[S.SK];exact c);have a:Par (S.SK n) v=S.SQ x.parents:=by simp[Par,S.SK,hx]
  have hb:(Par (S.SK n) v).testBit v=true:=by rw[a,zk λy hy=>by have:=gw k y hy;omega,<-e];exact Ul hp
  have:=zA (p:=S.SK n) (s:=Par (S.SK n) v) (S.SK n).length v hb;rw[this]at ha;cases ha
section
variable {d:Nat}{n:Net}{b cv sv:AV}{q:Nat}{rows:List (List AV)}
def S.S8(n:Net)(j:Nat)(m:Nat):List Nat:=(S.SK n).take j++m::List.replicate (n.nodes.length - (j+1)) 0
structure Rd1 (n:Net) (x:Node) (b cv sv pa:AV) (q j p9 i:Nat) (t:T) (g:G):Prop where
 st:St t ((80,b)::(81,X8 (n.nodes.length:Int))::(82,X8 (j:Int))::(88,pa)::(8,X8 (j:Int))::(9,X9 p9)::(10,X8 (ku x.parents i))::LRd q)
 hp:RdH n b cv sv q (S.Sx n) (S.S8 n j (S.SQ (x.parents.take i))) g
 ok:PlI x.parents n.nodes.length j i
theorem PD[XOc]{p9:Nat}{c9:List AV}(hl:n.nodes.length<=8)(hN:SlR NoP 0 .nil n.nodes b)(hx:n.nodes[j]?=some x)(hpa:SlR NoP 0 .nil x.parents pa)
  (h0:Rd1 n x b cv sv pa q j p9 0 t g) (h90:tat t 90=X8 0) (h89:tat t 89=X8 (x.parents.length:Int)) (e9:g.h.get p9=Xs 3 [c9]) (p9s:vid sv≠some p9)
  (bad:∀t g,¬NR n->g.h.get 1=Xs 5 [[X8 0,.nils,.nils,.nils,.nils]]->tat t 2=X9 1->tat t 3=X8 50->Q .ret t [] g)
  (fin:∀t g',Rd1 n x b cv sv pa q j p9 x.parents.length t g'->g'.h.get p9=Xs 3 [c9]->g.nx<=g'.nx->Q (.exit 4) t [] g'):wpL (wp C0 d none o5) Q t [] g:=by
 have h3:=(Uh.1 hx).1;have nl:=λg=>hN.len g;have rp:=λh=>(hpa.tree (h':=h) (Ui 0)).ints;have y:(S.SK n).length=n.nodes.length:=by simp[S.SK]
 have z:((S.SK n).take j).length=j:=by rw[U0,y];omega
 simp only[o5];refine aV (m:=x.parents.length) hpa.1 (λi t df g'=>df=[]/\Rd1 n x b cv sv pa q j p9 i t g'/\g'.h.get p9=Xs 3 [c9]/\g.nx<=g'.nx) ⟨rfl,h0,e9,Ui _⟩ h90 h89 (by decide)
  (by rintro i t df g v s (rfl|rfl|rfl) ⟨a1,⟨⟨b1,b2,R,U,V,W,X,Y,Z,I,-⟩,c1,A⟩,B⟩<;>exact⟨a1,⟨by simp[St,LRd,sx,b1,b2,R,U,V,W,X,Y,Z,I],c1,A⟩,B⟩) ?_ ?_
 ·rintro i t df g hi ⟨rfl,⟨⟨c,f,l,k,h8,h9,a,h1,h2,h4,-⟩,hp,M⟩,e9,en⟩ h90 h89;obtain⟨p,r,O,-⟩:=ay hi;have F:i<(x.parents.map ci).length:=by simpa using hi
  have H:(x.parents.map ci)[i]?=some (ci p):=by rw[Uo,r];rfl
  have badn:¬(ku x.parents i<p/\p<n.nodes.length/\p≠(j:Int))->¬NR n:=λh hr=>h (hr.pl hx r);have q2:=hp.q2
  by_cases c1:p<=ku x.parents i
  ·simp only[sz,simprocAttr,h2,a,k,h90,rp,F,H,ci,hp.h1,c1];exact bad _ _ (badn (by omega)) (by simp[SD]) (by simp[sx,h2]) (by simp[sx])
  by_cases A:(n.nodes.length:Int)<=p
  ·simp only[sz,simprocAttr,h2,h4,a,k,h90,rp,F,H,ci,hp.hq,nl,hp.h1,c1,A];exact bad _ _ (badn (by omega)) (by simp[SD]) (by simp[sx,h2]) (by simp[sx])
  by_cases B:p=(j:Int)
  ·subst B;simp only[sz,simprocAttr,h2,h4,h8,a,k,h90,rp,F,H,ci,hp.hq,nl,hp.h1,c1,A,eq_self];exact bad _ _ (badn (by omega)) (by simp[SD]) (by simp[sx,h2]) (by simp[sx])
  have w:=NK M r (by omega) (by omega) B;obtain⟨p0,-,-⟩:=w.rng i p (by omega) r;obtain⟨p,rfl⟩:=Ur p0;have C:((S.S8 n j (S.SQ (x.parents.take i))).map cu)[j]?=some (cu (S.SQ (x.parents.take i))):=by rw[Uo,S.S8,UA (by omega),z,Ve];rfl
  have J:j<((S.S8 n j (S.SQ (x.parents.take i))).map cu).length:=by simp[S.S8,y];omega
  have K:(S.S8 n j (S.SQ (x.parents.take i))).set j (S.SQ (x.parents.take (i+1)))=S.S8 n j (S.SQ (x.parents.take (i+1))):=by simp only[S.S8];rw[VR _ _ (by omega),z,Ve,Wa]
  have em:S.SQ (x.parents.take (i+1))=S.SQ (x.parents.take i) ||| S.S3 p:=by rw[O,KM];rfl
  have E:bB .shl (X_ 1) (X8 (p:Int))=.val (X_ (S.S3 p:Int)):=oa .i64 p;have D:=Dx (S.SQ (x.parents.take i)) (S.S3 p) (zi _) (vp p);rw[<-em]at D;have N:=hp.hs.rows;have L:=yw r;refine i8 (P:=λt' df g'=>df=[]/\g'=g/\St t' ((80,b)::(81,X8 (n.nodes.length:Int))::(82,X8 (j:Int))::(88,pa)::(8,X8 (j:Int))::(9,X9 p9)::(10,X8 (ku x.parents i))::LRd q)/\tat t' 12=X8 (p:Int)/\tat t' 90=X8 (i:Int)/\tat t' 89=X8 (x.parents.length:Int)) ?_ ?_
  ·simp only[sz,simprocAttr,k,h90,rp,F,H,ci];simp[St,LRd,sx,h1,h2,h4,h8,h9,a,c,f,l,k,h89]
  clear h1 h2 h4 h8 h9 a c f l k h89 h90;rintro t df g' ⟨rfl,rfl,⟨c,f,l,k,h8,h9,a,h1,h2,h4,-⟩,u,h90,h89⟩;refine i8 (P:=λt' df g''=>df=[]/\g''=g'/\St t' ((80,b)::(81,X8 (n.nodes.length:Int))::(82,X8 (j:Int))::(88,pa)::(8,X8 (j:Int))::(9,X9 p9)::(10,X8 (ku x.parents i))::LRd q)/\tat t' 12=X8 (p:Int)/\tat t' 90=X8 (i:Int)/\tat t' 89=X8 (x.parents.length:Int)) ?_ ?_
  ·simp only[sz,simprocAttr,h4,h8,a,u,h89,h90,hp.hq,nl,c1,A,B];simp[St,LRd,sx,h1,h2,h4,h8,h9,a,c,f,l,k]
  clear h1 h2 h4 h8 h9 a u c f l k h89 h90;rintro t df g'' ⟨rfl,rfl,⟨c,f,l,k,h8,h9,a,h1,h2,h4,-⟩,u,h90,h89⟩;simp only[sz,simprocAttr,sf,h4,h8,u,hp.hq,N,J,C,cu,E,D];refine cP (v:=sv) (sz:=1) (n:=1) (i:=j) (off:=0) (x:=X_ (S.SQ (x.parents.take (i+1)):Int)) (row':=cu (S.SQ (x.parents.take (i+1)))) (hp.hs.fr (by simp;omega) λi _=>by simp) C rfl rfl rfl λg4 hu4 n4 f4=>?_;rw[show (((S.S8 n j (S.SQ (x.parents.take i))).map cu).set j (cu (S.SQ (x.parents.take (i+1)))))=(S.S8 n j (S.SQ (x.parents.take (i+1)))).map cu from by rw[<-Vy,K]]at hu4;have o:∀i,vid sv≠some i->g4.h.get i=g''.h.get i:=λi hi=>by rw[f4 i hi];simp
  have h5:g''.nx<=g4.nx:=by rw[n4];simp;omega
  simp only[sx,sy,↓reduceIte,Nat.reduceEqDiff];refine⟨?_,⟨⟨?_,⟨?_,?_,?_,?_,?_,q2,?_,hp.d1,hp.d2,hp.d3⟩,w⟩,?_,?_⟩,h90,h89⟩
  ·simp only[UQ,UP,UM,UE];exact bf (false::(XI (true::[]))) [] (by simp[All2,am,aA]) (by decide) (by simp)
  ·rw[L];simp[St,LRd,sx,h1,h2,h4,h8,h9,c,f,l,k]
  ·simp only[bumpG_h];rw[o 0 λe=>by have:=(hp.hs.lt e).1;omega,hp.h0]
  ·simp only[bumpG_h];rw[o 1 λe=>by have:=(hp.hs.lt e).1;omega,hp.h1]
  ·simp only[bumpG_h];rw[o q hp.d2,hp.hq]
  ·exact hp.hc.fr (by simp;omega) λi hi=>by simp only[bumpG_h];exact o i (hp.d3 i hi)
  ·exact hu4.fr (by simp) λi _=>by simp
  ·have:=hp.qn;simp;omega
  ·rw[o p9 p9s,e9]
  ·omega
 ·rintro t df g' ⟨rfl,h,e9,en⟩;exact fin t g' h e9 en
end
section
variable {d:Nat}{n:Net}{b cv sv:AV}{q:Nat}{rows:List (List AV)}
structure Rd4 (n:Net) (b cv sv:AV) (q j:Nat) (t:T) (g:G):Prop where
 st:St t ((80,b)::LRd q)
 hp:RdH n b cv sv q (S.Sx n) ((S.SK n).take j++List.replicate (n.nodes.length - j) 0) g
 ok:∀x∈n.nodes.take j,S.Tn x.parents n.nodes.length=true/\S.Tj n.grain (S.Sx n) x=true
theorem P8(n:Net)(j m:Nat)(hm:m<18446744073709551616):∀y∈S.S8 n j m,y<18446744073709551616:=λy hy=>by
 simp only[S.S8,UL,UW]at hy;rcases hy with hy|rfl|hy
 ·obtain⟨x,-,rfl⟩:=U4.1 (Vh hy);exact zi _
 ·exact hm
 ·rw[(WB.1 hy).2];decide
theorem Own.natsV{b:Nat}{l:List Nat}(h:Own g b v 1 (l.map cu))(hl:l.length<9223372036854775808)(hb:∀y∈l,y<18446744073709551616):SlR (λi=>vid v=some i) 0 g.h l v :=
 Own.sl (α:=Nat) h hl (by
  have:∀l:List Nat,(∀y∈l,y<18446744073709551616)->All2 (Rp.rp (α:=Nat) (λi=>vid v=some i) 0 g.h) l (l.map cu):=λl=>by
   induction l with
   |nil=>intro _;trivial
   |cons y l ih=>intro h;exact⟨l9.2 ⟨rfl,h y (by simp)⟩,ih λz hz=>h z (by simp[hz])⟩
  exact this l hb) λ_ h=>h
theorem Own.nats'{b:Nat}{l:List Nat}(h:Own g b v 1 (l.map cu))(hl:l.length<9223372036854775808)(hb:∀y∈l,y<18446744073709551616):SlR (λ_=>True) 0 g.h l v :=
 (h.natsV hl hb).wd λ_ _=>⟨trivial,rfl⟩
theorem Own.intsV{b:Nat}(h:Own g b v 1 (l.map ci))(hl:l.length<9223372036854775808):SlR (λi=>vid v=some i) 0 g.h l v :=
 Own.sl (α:=Int) h hl (Sx (λa=>ax.2 rfl) _) λ_ h=>h
theorem O3{n:Net}(h:NR n)(hx:x∈n.nodes):S.Tj n.grain (S.Sx n) x=true:=by simp only[S.Tj,S.Tb,Uk,UD,Uz];exact⟨h.rows x hx,λr hr=>⟨⟨(h.row x hx r hr).1,(h.row x hx r hr).2.1⟩,(h.row x hx r hr).2.2⟩⟩
theorem PG[XOc](hd:0<d)(hl:n.nodes.length<=8)(hg1:1<=n.grain/\n.grain<=60)(hcard:∀c∈S.Sx n,1<=c/\c<=4)(hN:SlR NoP 0 .nil n.nodes b)(r1:∀h,ah h 3 b=some rows)(r2:rows.length=n.nodes.length)
  (r3:∀(i:Nat) (x:Node),n.nodes[i]?=some x->∃pa ra,rows[i]?=some [X8 x.card,pa,ra]/\i<rows.length/\SlR NoP 0 .nil x.parents pa/\SlR NoP 0 .nil x.rows ra) (r4:0<n.nodes.length->xX b=true)
  (h0:Rd4 n b cv sv q 0 t g) (h82:tat t 82=X8 0) (h81:tat t 81=X8 (n.nodes.length:Int))
  (bad:∀t g,¬NR n->g.h.get 1=Xs 5 [[X8 0,.nils,.nils,.nils,.nils]]->tat t 2=X9 1->tat t 3=X8 50->Q .ret t [] g)
  (fin:∀t g,Rd4 n b cv sv q n.nodes.length t g->Q (.exit 2) t [] g):wpL (wp C0 d none o6) Q t [] g:=by
 simp only[o6,uU];refine aV (m:=n.nodes.length) (by omega) (λj t df g=>df=[]/\Rd4 n b cv sv q j t g) ⟨rfl,h0⟩ h82 h81 (by decide)
  (by rintro j t df g v s (rfl|rfl|rfl) ⟨a1,⟨b1,b2,R,U,-⟩,c1,V⟩<;>exact⟨a1,by simp[St,LRd,sx,b1,b2,R,U],c1,V⟩) ?_ ?_
 ·rintro j t df g Y ⟨rfl,⟨⟨f,h1,h2,h4,-⟩,hp,E⟩⟩ h82 h81;obtain⟨x,hx,J,L⟩:=ay Y;obtain⟨pa,ra,q1,hlt,w,I⟩:=r3 j x hx;have h3:=r4 (by omega);have q2:=hp.q2;have qn:=hp.qn;have C:(S.SK n).length=n.nodes.length:=by simp[S.SK]
  have F:(S.SK n)[j]?=some (S.SQ x.parents):=by simp[S.SK,hx]
  obtain⟨g2,u⟩:∃g2,g2=(g.new (Xs 3 [[X8 0,.nils,.nils]])).put g.nx (Xs 3 [[X8 x.card,pa,ra]]):=⟨_,rfl⟩;have f2:Fr g g2:=by rw[u];exact Qj (by simp) λi hi=>by simp[SD,show ¬i=g.nx by omega]
  have n2:g.nx<g2.nx:=by rw[u];simp
  have A:=hp.fr f2;have M:g2.h.get g.nx=Xs 3 [[X8 x.card,pa,ra]]:=by rw[u];simp[SD]
  have eY:(S.SK n).take j++List.replicate (n.nodes.length - j) 0=S.S8 n j (S.SQ (x.parents.take 0)):=by rw[S.S8,show n.nodes.length - j=(n.nodes.length - (j+1))+1 by omega,VO];rfl
  have eY2:S.S8 n j (S.SQ x.parents)=(S.SK n).take (j+1)++List.replicate (n.nodes.length - (j+1)) 0:=by rw[S.S8,Ws,F,VB];rfl
  rw[eY]at A;refine jy (P:=λt' df g'=>df=[]/\g'=g2/\St t' ((80,b)::(81,X8 (n.nodes.length:Int))::(82,X8 (j:Int))::(8,X8 (j:Int))::(9,X9 g.nx)::LRd q)) ?_ ?_
  ·simp only[sz,simprocAttr,f,h82,r1,hlt,q1];rw[u];simp[St,LRd,sx,h1,h2,h4,f,h81,h82]
  clear h1 h2 h4 f h81 h82;rintro t df g3 ⟨rfl,rfl,⟨f,h81,h82,h8,h9,h1,h2,h4,-⟩⟩;have pl:=λg=>w.len g;simp only[sz,simprocAttr,h9,M,pl];refine PD (j:=j) (p9:=g.nx) (x:=x) (pa:=pa) (b:=b) (cv:=cv) (sv:=sv) (q:=q) hl hN hx w ⟨by simp[St,LRd,sx,ku,h1,h2,h4,h8,h9,f,h81,h82],A,⟨λi p hi=>by omega,λi p r hi=>by omega⟩⟩ (by simp[sx]) (by simp[sx]) M (λe=>by have:=(hp.hs.lt e).2;omega) ?_ ?_
  ·intro t g Z a1 a2 O;simp only[sx,sy];exact bad t g Z a1 a2 O
  ·rintro t D ⟨⟨f,h81,h82,X,h8,h9,W,h1,h2,h4,-⟩,k,H⟩ z n4;rw[U3]at k;have o:=HQ H;have B:∀p∈x.parents,0<=p/\p<((S.Sx n).length:Int):=λp hp=>by rw[bE];exact gw o p hp
   have N:=qX o (by omega);have h5:(S.S8 n j (S.SQ x.parents)).length<=8:=by simp[S.S8,C];omega
   have hm:Agg ((n,S.Sx n,S.S8 n j (S.SQ x.parents),[]):NwM) (λ_=>True) 0 D.h (.agg [X8 n.grain,b,cv,sv,.nils]) :=
    ⟨_,rfl,yC.2 ⟨b,cv,sv,.nils,rfl,hN.wide (Ui 0),Own.sl (α:=Int) k.hc (by rw[bE];omega) (Sx (λa=>ax.2 rfl) _) λ_ _=>trivial,k.hs.nats' (by omega) (P8 n j _ (zi _)),⟨by show 0<9223372036854775808;decide,rfl⟩⟩⟩
   have K:Agg x NoP 0 D.h (.agg [X8 x.card,pa,ra]):=⟨_,rfl,fd.2 ⟨pa,ra,rfl,w.tree (Ui 0),I.tree (Ui 0)⟩⟩;have l:=Kv (d:=d) (g:=D) hd hm K ⟨rfl,rfl⟩ hg1 hcard B (by omega);have l:ae C0 d 130 [.agg [X8 n.grain,b,cv,sv,.nils],.agg [X8 x.card,pa,ra]] D=.val (.bool (S.Tj n.grain (S.Sx n) x)):=l;cases hf:S.Tj n.grain (S.Sx n) x with
   | false =>
    rw[hf]at l;simp only[sz,simprocAttr,o7,h2,h4,h9,k.hq,k.h1,z,l];refine bad _ _ (λhr=>?_) (by simp[SD]) (by simp[sx,h2]) (by simp[sx]);have:=O3 hr L;rw[hf]at this;cases this
   | true =>
    rw[hf]at l;simp only[sz,simprocAttr,o7,h4,h9,k.hq,z,l];rw[eY2]at k;refine⟨⟨by simp[St,LRd,sx,h1,h2,h4,f],k,λy hy=>?_⟩,by simp[h82],by simp[h81]⟩;rw[J]at hy;rcases UL.1 hy with h|h
    ·exact E y h
    ·rw[Vc.1 h];exact⟨o,hf⟩
 ·rintro t df g ⟨rfl,h⟩;exact fin t g h
end
theorem N9(n:Net):Snb (ES n) 2:=mK λo=>bY (m:=2) (dw _) (aG _) (by decide) (by decide)
theorem zp[XOc]{d:Nat}{n:Net}(hd:0<d)(hm:Agg n NoP 0 g.h v):∃r,ae C0 d 105 [v] g=.val r/\ES n NoP 0 .nil r:=by
 obtain⟨b,rows,rfl,e,U,hN,M,N,O,Q⟩:=dt d hm;rw[BI];refine a_ Fm (xs:=[.agg [X8 n.grain,b]]) (by simp only[aD,e]) (by simp[nj]) (N9 n) (by decide) hd ?_;have nl:=λg=>hN.len g;simp only[sz,simprocAttr,nj];obtain⟨g0,hg0⟩:∃g0,g0=(G.empty.new (Xs 2 [[X8 n.grain,b]])).new (Xs 5 [[X8 0,.nils,.nils,.nils,.nils]]):=⟨_,rfl⟩;rw[<-hg0];have f0:g0.h.get 0=Xs 2 [[X8 n.grain,b]]:=by rw[hg0];simp[sx,SD]
 have f1:g0.h.get 1=Xs 5 [[X8 0,.nils,.nils,.nils,.nils]]:=by rw[hg0];simp[sx]
 have f2:g0.nx=2:=by rw[hg0];simp[sx]
 clear hg0;obtain⟨Qf,m⟩:∃Qf,Qf=fnQ C0 (d+1) [SR.cell true 5 2,SR.tm 3] (λv g'=>∃P,ES n P 0 g'.h v):=⟨_,rfl⟩;have bad:∀(t:T) (g:G),¬NR n->g.h.get 1=Xs 5 [[X8 0,.nils,.nils,.nils,.nils]]->tat t 2=X9 1->tat t 3=X8 50->Qf .ret t [] g:=λt g C a1 a2 w=>by rw[m];exact Rx C a1 a2 w
 rw[<-m];simp only[wM]
 by_cases c1:n.grain<1
 ·rw[dU];simp only[sz,simprocAttr,f0,f1,c1];exact bad _ _ (λh=>by have:=h.g1;omega) (by simp[SD]) (by simp[sx]) (by simp[sx])
 by_cases c2:60<n.grain
 ·rw[dU];simp only[sz,simprocAttr,f0,f1,c1,c2];exact bad _ _ (λh=>by have:=h.g2;omega) (by simp[SD]) (by simp[sx]) (by simp[sx])
 by_cases c3:(n.nodes.length:Int)<1
 ·rw[dU];simp only[sz,simprocAttr,f0,f1,c1,c2,c3,nl];exact bad _ _ (λh=>by have:=h.l1;omega) (by simp[SD]) (by simp[sx]) (by simp[sx])
 by_cases c4:8<(n.nodes.length:Int)
 ·rw[dU];simp only[sz,simprocAttr,f0,f1,c1,c2,c3,c4,nl];exact bad _ _ (λh=>by have:=h.l2;omega) (by simp[SD]) (by simp[sx]) (by simp[sx])
 refine i8 (P:=λt' df g'=>df=[]/\g'=g0/\St t' [(1,X9 0),(2,X9 1)]) ?_ ?_
 ·simp only[sz,simprocAttr,f0,c1,c2,c3,c4,nl];simp[St,sx]
 rintro t df g1 ⟨rfl,rfl,h1,h2,-⟩;have B:n.nodes.length<=8:=by omega
 refine i8 (P:=λt' df g'=>df=[]/\∃cv sv q,St t' (LRd q)/\RdH n b cv sv q (List.replicate n.nodes.length 0) (List.replicate n.nodes.length 0) g') ?_ ?_
 ·simp only[sz,simprocAttr,sf,h1,f0,nl];refine qi (b:=2) (n:=n.nodes.length) (by unfold bz;omega) (by unfold bz;omega) (by first| (simp;done)| (simp;omega)) λcv g2 hcv n2 fr2 v2 lg2=>?_;simp only[sy]at n2 fr2 v2 lg2;have L:g2.h.get 0=Xs 2 [[X8 n.grain,b]]:=by rw[fr2 0 (by omega),f0]
  simp only[sz,simprocAttr,sf,h1,L,nl,lg2];refine qi (b:=2) (n:=n.nodes.length) (by unfold bz;omega) (by unfold bz;omega) (by first| (simp;done)| (simp;omega)) λsv g3 hsv n3 fr3 v3 lg3=>?_;simp only[sy]at n3 fr3 v3 lg3;simp only[sz,simprocAttr,sf,lg3,hcv.cell.1,hcv.cell.2,hsv.cell.1,hsv.cell.2];refine⟨?_,cv,sv,g3.nx+1+1,?_,?_⟩
  ·simp only[UQ,UP,UM,UE,G.new_lg,G.put_lg,setLog_lg];refine bf (XJ (true::(false::(XK (true::(false::(true::(true::[])))))))) [(0,4),(4,5),(4,6),(4,7),(0,8),(1,8),(2,8),(3,8),(4,8),(0,10),(1,10),(2,10),(3,10),(4,10),(5,10),(6,10),(7,10),(8,10),(9,10)] (by simp[All2,am,aA]) (by decide) ?_;rintro p hp x y hx l;simp only[UW,Uu,WK]at hp;rcases hp with rfl|rfl|rfl|rfl|rfl|rfl|rfl|rfl|rfl|rfl|rfl|rfl|rfl|rfl|rfl|rfl|rfl|rfl|rfl<;>(simp at hx l;subst hx;subst l;refine fP rfl rfl rfl rfl ?_ ?_ ?_<;>simp[am,aA,af]<;>omega)
  ·simp[St,LRd,sx,h1,h2]
  ·have fa:∀i,i<g2.nx->g3.h.get i=g2.h.get i:=λi hi=>by have:=fr3 i (by omega);simpa using this
   have fb:∀i,i<g1.nx->g2.h.get i=g1.h.get i:=λi hi=>by have:=fr2 i (by omega);simpa using this
   have A:Own g2 2 cv 1 ((List.replicate n.nodes.length (0:Int)).map ci):=by simpa [ci] using hcv
   have H:Own g3 2 sv 1 ((List.replicate n.nodes.length (0:Nat)).map cu):=by simpa [cu] using hsv
   have D:∀i,i<g3.nx->¬i=g3.nx+1+1:=λi hi=>by omega
   refine⟨?_,?_,?_,A.fr (by simp;omega) λi hi=>?_,H.fr (by simp;omega) λi hi=>?_,by omega,by first| (simp;done)| (simp;omega),λe=>?_,λe=>?_,λi hi hi2=>?_⟩
   ·simp[SD];rw[fa 0 (by omega),L]
   ·simp[SD];rw[fa 1 (by omega),fb 1 (by omega),f1]
   ·simp[SD]
   ·have:=gA v2 hi;simp[SD,D i (by omega)];rw[fa i (by omega)]
   ·have:=gA v3 hi;simp[SD,D i (by omega)]
   ·have:=gA v2 e;omega
   ·have:=gA v3 e;omega
   ·have:=gA v2 hi;have:=gA v3 hi2;omega
 rintro t df g ⟨rfl,cv,sv,q,⟨h1,h2,h4,-⟩,hp⟩;clear f0 f1 f2;have nlen:=nl g;simp only[sz,simprocAttr,h4,hp.hq,nl];refine PC (b:=b) (cv:=cv) (sv:=sv) (q:=q) B hN M N O Q ⟨by simp[St,LRd,sx,S.Sz,h1,h2,h4],by simpa using hp,by simp⟩ (by simp[sx]) (by simp[sx]) ?_ ?_
 ·intro t g C a1 a2 w;simp only[sx];exact bad t g C a1 a2 w
 clear h1 h2 h4 hp nlen;rintro t g ⟨⟨I,h5,h1,h2,h4,-⟩,hp,s⟩;rw[Vm (by rw[bE];exact Ui _)]at h5 hp;rw[Ve,WN,Ux]at hp;rw[U3]at s;have J:∀c∈S.Sx n,1<=c/\c<=4:=λc hc=>by obtain⟨y,l,rfl⟩:=U4.1 hc;exact s y l
 simp only[sz,simprocAttr,uV]
 by_cases d1:1024<S.Sz (S.Sx n)
 ·simp only[sz,simprocAttr,h2,h5,hp.h1,d1];exact bad _ _ (λh=>by have:=h.worlds;omega) (by simp[SD]) (by simp[sx,h2]) (by simp[sx])
 simp only[sz,simprocAttr,h4,h5,hp.hq,nl,d1];refine PG (b:=b) (cv:=cv) (sv:=sv) (q:=q) (UC d) B (by omega) J hN M N O Q ⟨by simp[St,LRd,sx,h1,h2,h4],by simpa using hp,by simp⟩ (by simp[sx]) (by simp[sx]) ?_ ?_
 ·intro t g C a1 a2 w;simp only[sx];exact bad t g C a1 a2 w
 clear h1 h2 h4 I h5 hp;rintro t g ⟨⟨R,h1,h2,h4,-⟩,hp,k⟩;rw[Vm (by simp[S.SK])]at hp;rw[Ve,WN,Ux]at hp;rw[U3]at k;have F:(S.SK n).length=n.nodes.length:=by simp[S.SK]
 have j:∀y∈S.SK n,y<18446744073709551616:=λy l=>by obtain⟨x,-,rfl⟩:=U4.1 l;exact zi _
 have u:∀y∈S.SK n,y<2 ^ (S.SK n).length:=λy l=>by obtain⟨x,hx,rfl⟩:=U4.1 l;rw[F];exact Nl (by omega) λz hz=>gw (k x hx).1 z hz
 obtain⟨z,ez,o,-,oz,az,rfl,f,a⟩:=Lo (d:=d+1) (g:=g) (UC d) (hp.hs.nats' (by omega) j) (by omega) u;have a:=gy.1 a;injection a with a;subst a;obtain⟨_,e1,f⟩:=f;injection e1 with e1;subst e1;cases hac:S.Tv (S.SK n) with
 | false =>
  rw[hac]at ez;simp only[sz,simprocAttr,o8,h2,h4,hp.hq,hp.h1,ez];exact bad _ _ (λh=>by have:=h.acyc;rw[hac]at this;cases this) (by simp[SD]) (by simp[sx,h2]) (by simp[sx])
 | true =>
  rw[hac]at ez;have E:S.SW n=true:=bw.2 ⟨by omega,by omega,by omega,by omega,s,λx hx=>(k x hx).1,by omega,hac,λx hx=>by
   have:=(k x hx).2;simp only[S.Tj,Uk,UD]at this;exact this.1,λx hx r hr=>by
   have:=(k x hx).2;simp only[S.Tj,S.Tb,Uk,UD,Uz]at this;have:=this.2 r hr;exact⟨this.1.1,this.1.2,this.2⟩⟩
  have q2:=hp.q2;have K:¬(1=q):=by omega
  have V:¬(q=1):=by omega
  have oc:=f.cell;rw[m];simp only[sz,simprocAttr,o8,h2,h4,hp.hq,hp.h1,ez,K,oc.1,oc.2];have fh:∀i,¬i=1->¬i=q->((g.h.put q (Xs 5 [[X8 n.grain,b,cv,sv,oz]])).put 1 (Xs 5 [[X8 n.grain,b,cv,sv,oz]])).get i=g.h.get i:=λi hi hi2=>by simp[SD,hi,hi2]
  refine⟨λ_=>True,o,trivial,_,_,rfl,⟨_,rfl,?_⟩,?_⟩
  ·rw[S.TS,Un E];refine yC.2 ⟨b,cv,sv,oz,rfl,hN.wide (Ui 0),(hp.hc.intsV (by rw[bE];omega)).wd λi hi=>⟨trivial,fh i (by have:=(hp.hc.lt hi).1;omega) λe=>hp.d1 (by rw[hi,e])⟩,(hp.hs.natsV (by omega) j).wd λi hi=>⟨trivial,fh i (by have:=(hp.hs.lt hi).1;omega) λe=>hp.d2 (by rw[hi,e])⟩,f.wide (Ui 0)⟩
  ·rw[Un E];exact ax.2 rfl
theorem HH{o:List Int}(h:S.SW n=true):S.TS n o=(n,S.Sx n,S.SK n,o):=by rw[S.TS,Un h]
theorem oB(hv:ES n P k h v) :
  (S.SW n=false/\∃cs,v=.tup [.agg cs,X8 50]/\cs.length=5) \/
  (S.SW n=true/\∃b cv sv oz o,v=.tup [.agg [X8 n.grain,b,cv,sv,oz],X8 0]/\SlR P k h n.nodes b/\SlR P k h (S.Sx n) cv/\SlR P k h (S.SK n) sv/\SlR P k h (o:List Int) oz):=by
 obtain⟨o,-,a,c,rfl,⟨cs,rfl,hc⟩,hi⟩:=hv;have hi:=ax.1 hi;injection hi with hi;subst hi;cases hn:S.SW n with
 | false =>
  refine .inl ⟨rfl,cs,rfl,?_⟩;obtain⟨a,b,c,e,rfl,-⟩:=yC.1 hc
  rfl
 | true =>
  rw[HH hn]at hc;obtain⟨a,b,c,e,rfl,h1,h2,d,h4⟩:=yC.1 hc;exact .inr ⟨rfl,a,b,c,e,o,rfl,h1,h2,d,h4⟩
theorem E_[XOc]{k2:Nat}{P2:Nat->Prop}{e:List Int}(hd:0<d)(hm:Agg n NoP 0 g.h v)(he:SlR P2 k2 g.h e w):ae C0 d 76 [v,w] g=.val (X8 (S.SN n e)):=by
 obtain⟨w',I,p⟩:=dy he d;obtain⟨b,rows,rfl,e1,B,hN,N,O,P,Q⟩:=dt d hm;have n2:=λg=>(p .nil).len g;have rb:=λh=>(p h).ints;rw[qu];refine eX sK (xs:=[.agg [X8 n.grain,b],w']) (by simp only[aD,e1,I]) (by simp[gJ]) hd ?_;have L:=he.1;simp only[sz,simprocAttr,gJ,jG,jh];obtain⟨z,ez,hz⟩:=zp (d:=d+1) (g:=G.empty.new (Xs 2 [[X8 n.grain,b]])) (UC d) (n:=n) (v:=.agg [X8 n.grain,b]) (B _);rcases oB hz with⟨i,cs,rfl,x⟩|⟨i,b',cv,sv,oz,o,rfl,hb,A,-,-⟩
 ·have hs:S.SN n e=50:=by rw[S.SN,i];rfl
  obtain⟨a1,a2,q,a4,r,rfl⟩:∃a1 a2 q a4 r,cs=[a1,a2,q,a4,r]:=by
   match cs,x with
   |[a1,a2,q,a4,r],_=>exact⟨a1,a2,q,a4,r,rfl⟩
  simp only[sz,simprocAttr,ez,hs,show ¬((50:Int)=0) from by decide]
 ·have nb:=λg=>(hb.tree (h':=g) (Ui 0)).len;have K:=hb.1;have rc:=λh=>(A.tree (h':=h) (Ui 0)).ints;have hcl:=bE n
  by_cases hl:e.length=n.nodes.length
  ·have f:(e.length:Int)=(n.nodes.length:Int):=by rw[hl]
   simp only[sz,simprocAttr,ez,n2,hb.len,hl];refine aV (m:=n.nodes.length) (by omega) (λj t df g=>df=[]/\St t [(24,w'),(5,X9 1),(4,X8 0)]/\g.h.get 1=Xs 5 [[X8 n.grain,b',cv,sv,oz]]/\((List.range j).all λv=>decide (-1<=e[v]?.getD 0)&&decide (e[v]?.getD 0<(S.Sx n)[v]?.getD 0))=true)
    ⟨rfl,by simp[St,sx],by simp[sx],by simp⟩ (by simp[sx]) (by simp[sx]) (by decide) (by rintro j t df g v s (rfl|rfl|rfl)<;>simp[St,sx]) ?_ ?_
   ·rintro j t df g M ⟨rfl,⟨k,h5,h4,-⟩,hg,ha⟩ a u;obtain⟨y,D,-,-⟩:=ay (l:=e) (j:=j) (by omega);obtain⟨c,hc,-,-⟩:=ay (l:=S.Sx n) (j:=j) (by omega);have E:j<(e.map ci).length:=by simp;omega
    have F:(e.map ci)[j]?=some (ci y):=by rw[Uo,D];rfl
    have u3:j<((S.Sx n).map ci).length:=by simp;omega
    have H:((S.Sx n).map ci)[j]?=some (ci c):=by rw[Uo,hc];rfl
    have C:((List.range (j+1)).all λv=>decide (-1<=e[v]?.getD 0)&&decide (e[v]?.getD 0<(S.Sx n)[v]?.getD 0))=(decide (-1<=y)&&decide (y<c)):=by rw[WG,List.all_append,ha];simp[D,hc]
    have bad:(decide (-1<=y)&&decide (y<c))=false->S.SN n e=2:=λh=>by
     have h1:S.SL n e=false:=by
      rw[S.SL];have:((List.range e.length).all λv=>decide (-1<=e[v]?.getD 0)&&decide (e[v]?.getD 0<(S.Sx n)[v]?.getD 0))=false:=by rw[<-U5,Uz];intro h2;have:=h2 j (Uw.2 (by omega));rw[D,hc,Us,Us,h]at this;cases this
      rw[this,Bool.and_false]
     rw[S.SN,i,h1];rfl
    by_cases c1:y < -1
    ·have:=bad (by simp;omega);simp only[sz,simprocAttr,k,a,rb,E,F,ci,c1,this]
    ·by_cases c2:c<=y
     ·have:=bad (by simp;omega);simp only[sz,simprocAttr,k,h5,a,hg,rb,rc,E,F,u3,H,ci,c1,c2,this]
     ·have J:((List.range (j+1)).all λv=>decide (-1<=e[v]?.getD 0)&&decide (e[v]?.getD 0<(S.Sx n)[v]?.getD 0))=true:=by rw[C];simp;omega
      simp only[sz,simprocAttr,k,h5,h4,a,u,hg,rb,rc,E,F,u3,H,ci,c1,c2,St,J]
   ·rintro t df g ⟨rfl,⟨k,h5,h4,-⟩,hg,ha⟩;have h1:S.SL n e=true:=by rw[S.SL,hl,VA rfl,ha];rfl
    have hs:S.SN n e=0:=by rw[S.SN,i,h1];rfl
    simp only[sz,simprocAttr,ji,hs]
  ·have f:¬((e.length:Int)=(n.nodes.length:Int)):=by omega
   have h1:S.SL n e=false:=by rw[S.SL,Va hl];rfl
   have hs:S.SN n e=2:=by rw[S.SN,i,h1];rfl
   simp only[sz,simprocAttr,ez,n2,hb.len,f,hs]
theorem wX(hr:NR n):∀j,j<=8->0<=S.Sz (List.replicate j n.grain)/\S.Sz (List.replicate j n.grain)<=167961600000000:=λj hj=>by
 have h:=hr.g1;have a:=hr.g2;have h1:=qZ (l:=List.replicate j n.grain) λx hx=>by have:=(WB.1 hx).2;omega
 have h2:=QK (k:=(List.replicate j n.grain).length) (by simpa using hj);omega
section
variable {x:Int}
theorem OU[XOc](hd:0<d):ae C0 d 172 [X8 x] g=.val (.bool false):=by rw[wx];refine lF yS (xs:=[X8 x]) (by simp only[aD,cg 0]) (by simp[na]) hd ?_;simp only[sz,simprocAttr,na]
theorem PU[XOc](hd:0<d):ae C0 d 166 [X8 x] g=.val (.bool false):=by rw[sC];refine lF vL (xs:=[X8 x]) (by simp only[aD,cg 0]) (by simp[jr]) hd ?_;simp only[sz,simprocAttr,jr]
theorem Ph[XOc](hd:0<d):ae C0 d 165 [X8 x,X8 y] g=.val (.bool (decide (x<y))):=by rw[xB];refine lF Ak (xs:=[X8 x,X8 y]) (by simp only[aD,cg 0]) (by simp[oQ]) hd ?_;simp only[sz,simprocAttr,oQ,OU (UC d)]
theorem MM(h:i+j<9223372036854775808):bB .shr (X_ ((i+j:Nat):Int)) (X_ 1)=.val (X_ (((i+j) / 2:Nat):Int)):=iY .u64 (i+j) 1 (by omega)
theorem Le[XOc](hd:0<d)(hv:SlR P k g.h l v)(hl:l.length<=1000):∃(p:Nat) (b:Bool),p<=l.length/\ae C0 d 153 [v,X8 x] g=.val (.tup [X8 (p:Int),.bool b]):=by
 obtain⟨v',e,q⟩:=dy hv d;have nl:=λg=>(q .nil).len g;have rl:=λh=>(q h).ints;have key:∃r,ae C0 d 153 [v,X8 x] g=.val r/\(λP k h v=>∃o:Nat×Bool,o.1<=l.length/\oE (One (o.1:Int)) (One o.2) P k h v) NoP 0 .nil r:=by
  rw[jW];refine a_ lR (xs:=[v',X8 x]) (by simp only[aD,e,cg 0]) (by simp[cY]) (mK λo=>bY (m:=1) (aG _) (aG _) (by decide) (by decide)) (by decide) hd ?_;simp only[sz,simprocAttr,cY,nl];refine pC (λm t df g=>df=[]/\∃i j:Nat,m=j - i/\i<=j/\j<=l.length/\St t [(0,v'),(1,X8 x),(6,X8 (l.length:Int)),(7,X8 (i:Int)),(8,X8 (j:Int))]) l.length
   ⟨rfl,0,l.length,rfl,US _,Ui _,by simp[St,sx]⟩ ?_
  rintro m t df g ⟨rfl,i,j,rfl,D,E,h0,h1,z,h7,h8,-⟩;simp only[sz,simprocAttr,eD,h7,h8];refine ij (λhb=>?_) (λhb=>?_)
  ·have hb:i<j:=by simpa using hb
   have w1:IntKind.wrap .i64 ((i:Int)+(j:Int))=((i+j:Nat):Int):=by rw[aE (by omega) (by omega)];simp
   have F:IntKind.wrap .u64 ((i+j:Nat):Int)=((i+j:Nat):Int):=dR (by omega) (by omega);have hm:(i+j) / 2<l.length:=by omega
   have A:i<=(i+j) / 2:=by omega
   have B:(i+j) / 2<j:=by omega
   have n:=MM (i:=i) (j:=j) (by omega);generalize (i+j) / 2=c at hm A B n;have H:IntKind.wrap .i64 (c:Int)=(c:Int):=aE (by omega) (by omega);have I:IntKind.wrap .i64 ((c:Int)+1)=((c+1:Nat):Int):=by rw[aE (by omega) (by omega)];simp
   obtain⟨y,C,-,-⟩:=ay (l:=l) (j:=c) hm;have u:c<(l.map ci).length:=by simpa using hm
   have w:(l.map ci)[c]?=some (ci y):=by rw[Uo,C];rfl
   simp only[sz,simprocAttr,h0,h1,h7,h8,w1,F,n,H,rl,u,w,ci,Ph (UC d)];refine ij (λhb=>?_) (λhb=>?_)
   ·simp only[sz,simprocAttr,I];exact⟨j - (c+1),by omega,c+1,j,rfl,by omega,E,by simp[St,sx,h0,h1,z,h8]⟩
   ·simp only[sz,simprocAttr];exact⟨c - i,by omega,i,c,rfl,by omega,by omega,by simp[St,sx,h0,h1,z,h7]⟩
  ·simp only[sz,simprocAttr,eE,z,h7];have f:i<=l.length:=by omega
   by_cases c1:i<l.length
   ·obtain⟨y,C,-,-⟩:=ay (l:=l) (j:=i) c1;have u:i<(l.map ci).length:=by simpa using c1
    have w:(l.map ci)[i]?=some (ci y):=by rw[Uo,C];rfl
    have s:(i:Int)<(l.length:Int):=by omega
    cases hq:decide (y=x) with
    | true =>
     simp only[sz,simprocAttr,h0,h1,h7,s,rl,u,w,ci,hq];exact⟨λ_=>True,(i,true),f,_,_,rfl,ax.2 rfl,gy.2 rfl⟩
    | false =>
     simp only[sz,simprocAttr,h0,h1,h7,s,rl,u,w,ci,hq,PU (UC d)];exact⟨λ_=>True,(i,false),f,_,_,rfl,ax.2 rfl,gy.2 rfl⟩
   ·have s:¬((i:Int)<(l.length:Int)):=by omega
    simp only[sz,simprocAttr,s];exact⟨λ_=>True,(i,false),f,_,_,rfl,ax.2 rfl,gy.2 rfl⟩
 obtain⟨r,hr,⟨p,b⟩,hp,a,c,rfl,ha,hc⟩:=key;have ha:=ax.1 ha;have hc:=gy.1 hc;injection ha with ha;injection hc with hc;exact⟨p,b,hp,by rw[hr,ha,hc]⟩
theorem oJ[XOc](d:Nat)(xs:List AV)(g:G):ae C0 d 154 xs g=kW d xs g:=by kernel_rfl
end
def CloneR(b:Nat)(l:List Int)(u:AV)(g:G):Prop:=(l=[]/\u=.nils)\/∃id lo,b<=id/\id<g.nx/\u=.hsl id 0 0 l.length none/\g.h.get id=.cells 1 (l.map ci) 0 lo false/\(0<l.length->lo=true)/\(l.length=0->lo=false)
theorem CloneR.fr{g':G}(h:CloneR b l u g)(f:Fr g g'):CloneR b l u g':=by
 rcases h with h|⟨id,lo,h1,h2,k,h4,h5⟩
 ·exact .inl h
 ·exact .inr ⟨id,lo,h1,UI h2 f.1,k,by rw[f.2 id h2,h4],h5⟩
theorem Dr{id:Nat}{x:AV}(hx:ah g.h 1 x=some (l.map ci))(h3:g.h.get id=Xs 1 [])(hid:id<g.nx)(hr:l.length<=1000)
  (k:∀u g',CloneR id l u g'->Fr g g'->K u g'):(eS 1 8 (.hsl id 0 0 0 none) x g).sat K g D:=by
 unfold eS;rw[hx];cases l with
 | nil =>
  simp only[bA,G.get_eq,h3,aq,aa,UT,Vd,UR,Uk,Vz,V8];rw[Un ⟨by simp,by simp⟩,Un (by simp)];exact k _ _ (.inr ⟨id,false,Ui _,hid,rfl,by simpa using h3,by simp,by simp⟩) (Fr.refl g)
 | cons y l =>
  simp only[bA,G.get_eq,h3,aq,aa,UT,Vd,UR,Uk,VM,UX,V8,UK,UU,WS,WJ];rw[Un ⟨by omega,by unfold bz;simp at hr;omega⟩,Um (by omega),Un (by rfl)];refine k _ _ (.inr ⟨g.nx,true,by omega,by simp,by simp,?_,by simp,by simp⟩) (Fr.new g _);simp[bg,bk,bh]
theorem Ka[XOc](hv:SlR NoP 0 .nil l v)(hl2:l.length<=1000)(kk:∀u g',CloneR g.nx l u g'->Fr g g'->K u g') :
  (ae C0 d 155 [v] g).sat K g D:=by
 rw[pL];refine kJ rW (by simp[dM]) ?_
 by_cases hn:v=.nils
 ·subst hn;have hl:l=[]:=by have h:=hv.2;unfold SlV at h;exact h
  have k:jZ false .slice .nils .nils=.val (.bool true):=rfl;simp only[sz,simprocAttr,dM,k];exact kk _ _ (.inl ⟨hl,rfl⟩) (Fr.refl g)
 ·have k:jZ false .slice v .nils=.val (.bool false):=by
   have h:=hv.2;unfold SlV at h
   split at h
   ·exact absurd rfl hn
   ·rfl
   ·rfl
   ·exact h.1.elim
   ·exact h.elim
  simp only[sz,simprocAttr,dM,k];refine Dr (l:=l) ((hv.tree (Ui _)).ints) (by simp[SD]) (by simp) hl2 λu g1 hu f1=>?_;simp only[sz,simprocAttr];exact kk u g1 hu ((Fr.new g _).trans f1)
theorem uf(ps:List Int)(k:Nat)(v:Int)(hk:k<=ps.length):(S.SS ps k v).length=ps.length+1:=by simp[S.SS];omega
theorem Hs[XOc]{id2 ep2:Nat}{x:Int}{lim:Option Nat}{lo fz:Bool}(hu:CloneR b l u g)(hl:l.length<=1000)(hp:p<=l.length)(h2:g.h.get id2=.cells 1 [ci x] ep2 lo fz)(hne:∀i,vid u=some i->i≠id2)(hb:b<=g.nx) :
  ∃w g',ae C0 d 154 [u,X8 (p:Int),.hsl id2 ep2 0 1 lim] g=.upd w g'/\Own g' b w 1 ((S.SS l p x).map ci)/\g.nx<=g'.nx/\(∀i,i<g.nx->vid u≠some i->g'.h.get i=g.h.get i):=by
 rw[oJ];have e0:kW d [u,X8 (p:Int),.hsl id2 ep2 0 1 lim] g=y4 id2 p u [ci x] g:=by
  show (match g.get id2 with
   |.cells sz2 vrows ep2' _ _=>ak ((((Nat.beq sz2 1&&Nat.beq ep2 ep2')&&Nat.beq 0 0)&&Nat.beq 1 (bi vrows))&&Nat.ble 1 1) (y4 id2 p u vrows g) .fail
   |_=>.fail)=_
  rw[G.get_eq,h2];dsimp only;rw[aa,Un];simp[aq]
 rw[e0];have k:p=0->l=[]->∃w g',qN p [ci x] g=.upd w g'/\Own g' b w 1 ((S.SS l p x).map ci)/\g.nx<=g'.nx/\(∀i,i<g.nx->vid u≠some i->g'.h.get i=g.h.get i):=λh1 h2=>by
  subst h1;subst h2;refine⟨.hsl g.nx 0 0 1 none,g.new (.cells 1 [ci x] 0 true false),?_,.inr ⟨g.nx,0,true,hb,by simp,rfl,by simp[bg,S.SS]⟩,by simp,λi hi _=>?_⟩
  ·unfold qN;rw[aa,Un]
   ·rfl
   ·simp[aq]
  ·rw[G.new_h,aL _ _ _ (by omega)]
 rcases hu with⟨rfl,rfl⟩|⟨id,lo2,f,h4,rfl,h5,j,h7⟩
 ·exact k (by simpa using hp) rfl
 ·cases l with
  | nil =>
   have e1:y4 id2 p (.hsl id 0 0 ([]:List Int).length none) [ci x] g=qN p [ci x] g:=by rw[h7 rfl]at h5;simp only[y4,G.get_eq,h5,Vz];rw[aa,Un];simp
   rw[e1];exact k (by simpa using hp) rfl
  | cons y l =>
   rw[j (by simp)]at h5;have c:=hne id rfl;have e1:y4 id2 p (.hsl id 0 0 (y::l).length none) [ci x] g=.upd (.hsl id 1 0 ((y::l).length+1) none) (g.put id (.cells 1 ((S.SS (y::l) p x).map ci) 1 true false)):=by
    simp only[y4,G.get_eq,h5,VM];rw[aa,Un]
    ·simp[aq,bk,bh,S.SS]
    ·rw[show Nat.beq 1 1=true from rfl];have a:Nat.beq id id2=false:=by rw[<-U5,Xo];exact c
     simp only[a,ju,aq,UT,Uk,UR,UX,UK,V8,true_and,and_true];simp at hp hl
     (repeat' apply Uf)<;>first|omega| (simp;done)
   rw[e1];refine⟨_,_,rfl,.inr ⟨id,1,true,f,by simpa using h4,?_,by simp[bg]⟩,by simp,λi hi hv=>?_⟩
   ·rw[UK,uf _ _ _ hp]
   ·rw[G.put_h,aL _ _ _ (λe=>hv (by rw[e];rfl))]
structure FacH (bx nd:List AV) (w u:AV) (vars cards:List Int) (beh:Int) (q:Nat) (g:G):Prop where
 h0:g.h.get 0=Xs 5 [bx]
 h1:g.h.get 1=Xs 3 [[.nils,.nils,.nils]]
 h2:g.h.get 2=Xs 3 [nd]
 h8:g.h.get q=Xs 3 [[w,u,.nils]]
 h9:g.h.get (q+1)=Xs 1 [[X8 beh]]
 hw:Own g 3 w 1 (vars.map ci)
 hu:Own g (q+2) u 1 (cards.map ci)
 wq:∀i,vid w=some i->i<q
 q3:3<=q
 qn:q+2<=g.nx
def oD(q:Nat):List (Nat×AV):=[(2,X9 0),(4,X9 1),(5,X9 2),(8,X9 q),(9,X9 (q+1))]
structure FacJ (gr:Int) (b cv sv oz:AV) (nd:List AV) (w:AV) (cs vars:List Int) (pl q j:Nat) (t:T) (g:G):Prop where
 st:St t ((38,w)::(6,X8 (pl:Int))::oD q)
 hp:∃u,FacH [X8 gr,b,cv,sv,oz] nd w u vars (S.Sy cs (vars.take j)) (S.Sz (S.Sy cs ((vars.take j).drop (pl+1)))) q g
theorem Af{p:Int}(hp:l.take (j+1)=l.take j++[p])(hj:j<l.length)(h:k<j):(l.take (j+1)).drop (k+1)=(l.take j).drop (k+1)++[p]:=by rw[hp,List.drop_append_of_le_length (by simp;omega)]
theorem Ae(h:j<=k):(l.take (j+1)).drop (k+1)=(l.take j).drop (k+1):=by rw[WT (by simp;omega),WT (by simp;omega)]
theorem Q_[XOc]{pl:Nat}{b cv sv oz:AV}{nd:List AV}{cs vars:List Int}(rc:∀h,ah h 1 cv=some (cs.map ci))(hvl:vars.length<=16)(hvp:∀p∈vars,0<=p/\p<cs.length)(hcb:∀c∈cs,1<=c/\c<=4)(hpl:pl<=1000)
  (h0:FacJ gr b cv sv oz nd w cs vars pl q 0 t g) (h40:tat t 40=X8 0) (h39:tat t 39=X8 (vars.length:Int))
  (fin:∀t g,FacJ gr b cv sv oz nd w cs vars pl q vars.length t g->Q (.exit 0) t [] g):wpL (wp C0 d none ej) Q t [] g:=by
 simp only[ej,iG];refine aV (m:=vars.length) (by omega) (λj t df g=>df=[]/\FacJ gr b cv sv oz nd w cs vars pl q j t g) ⟨rfl,h0⟩ h40 h39 (by decide)
  (by rintro j t df g v s (rfl|rfl|rfl) ⟨a1,⟨b1,b2,L,M,N,O,R,-⟩,c1⟩<;>exact⟨a1,by simp[St,oD,sx,b1,b2,L,M,N,O,R],c1⟩) ?_ ?_
 ·rintro j t df g E ⟨rfl,⟨k,o,h2,h4,h5,h8,h9,-⟩,u,hp⟩ h40 h39;obtain⟨p,F,D,H⟩:=ay E;obtain⟨hp0,Y⟩:=hvp p H;obtain⟨pn,rfl⟩:=Ur hp0;have A:pn<cs.length:=by omega
  have r:cs[pn]?=some cs[pn]:=Uj A;have B:=hcb _ (VL A);generalize cs[pn]=c at r B;have Z:j<(vars.map ci).length:=by simpa using E
  have u2:(vars.map ci)[j]?=some (ci (pn:Int)):=by rw[Uo,F];rfl
  have u3:pn<(cs.map ci).length:=by simpa using A
  have K:(cs.map ci)[pn]?=some (ci c):=by rw[Uo,r];rfl
  have rw_:=hp.hw.rows;have q3:=hp.q3;have qn:=hp.qn;have epc:S.Sy cs (vars.take (j+1))=S.Sy cs (vars.take j)++[c]:=by rw[D,fc];simp[S.Sy,r]
  have V:(S.Sy cs (vars.take j)).length<=16:=by simp[S.Sy];omega
  have nq1:¬q=q+1:=by omega
  have nq2:¬q+1=q:=by omega
  refine jy (P:=λt' df g'=>df=[]/\g'=g/\St t' ((40,X8 (j:Int))::(39,X8 (vars.length:Int))::(10,X8 (j:Int))::(11,X8 (pn:Int))::(38,w)::(6,X8 (pl:Int))::oD q)) ?_ ?_
  ·simp only[sz,simprocAttr,k,h40,rw_,Z,u2,ci];simp[St,oD,sx,k,o,h2,h4,h5,h8,h9,h40,h39]
  clear k o h2 h4 h5 h8 h9 h40 h39;rintro t df g1 ⟨rfl,rfl,⟨h40,h39,f,n,k,o,h2,h4,h5,h8,h9,-⟩⟩;refine i8 (P:=λt' df g'=>df=[]/\St t' ((40,X8 (j:Int))::(39,X8 (vars.length:Int))::(10,X8 (j:Int))::(11,X8 (pn:Int))::(38,w)::(6,X8 (pl:Int))::oD q) /\
   ∃u,FacH [X8 gr,b,cv,sv,oz] nd w u vars (S.Sy cs (vars.take (j+1))) (S.Sz (S.Sy cs ((vars.take j).drop (pl+1)))) q g') ?_ ?_
  ·simp only[sz,simprocAttr,sf,h8,h2,n,hp.h8,hp.h0,rc,u3,K,ci];refine dS (b:=q+2) (rows:=(S.Sy cs (vars.take j)).map ci) (new:=[[X8 c]]) (hp.hu.fr (by simp;omega) λi hi=>?_) (by simp[sx,sy]) (by simp;omega) (by unfold bz;simp;omega) λu' ga hu' n1 f1 vid1 lg1=>?_
   ·have:=(hp.hu.lt hi).2;simp[SD];omega
   simp only[sx,sy]at n1 f1 vid1 lg1;have I:ga.h.get q=Xs 3 [[w,u,.nils]]:=by rw[f1 q (by omega) (λe=>by have:=(hp.hu.lt e).1;omega),Um (by omega),hp.h8]
   simp only[sz,simprocAttr,sf,h8,I,hu'.cell.1,hu'.cell.2];refine⟨?_,?_,u',?_⟩
   ·simp only[UQ,UP,UM,UE];refine bf (false::(XK (XJ (true::(true::(false::(true::[]))))))) [(0,7),(1,7)] (by simp[All2,am,aA]) (by decide) ?_;rintro p C x y hx J;simp only[UW,Uu,WK]at C;rcases C with rfl|rfl<;>(simp at hx J;subst hx;subst J;refine fP rfl rfl rfl rfl ?_ ?_ ?_<;>simp[am,aA,af]<;>omega)
   ·simp[St,oD,sx,k,o,h2,h4,h5,h8,h9,h40,h39,f,n]
   ·have keep:∀i,i<q+2->i≠q->(ga.h.put q (Xs 3 [[w,u',.nils]])).get i=g1.h.get i:=λi hi hne=>by simp only[SD,Um hne];rw[f1 i (by omega) (λe=>by have:=(hp.hu.lt e).1;omega),Um (by omega)]
    refine⟨(keep 0 (by omega) (by omega)).trans hp.h0,(keep 1 (by omega) (by omega)).trans hp.h1,(keep 2 (by omega) (by omega)).trans hp.h2,by simp[SD],(keep (q+1) (by omega) (by omega)).trans hp.h9,hp.hw.fr (by simp;omega) λi hi=>keep i (by have:=hp.wq i hi;omega) (by have:=hp.wq i hi;omega),?_,hp.wq,q3,by simp;omega⟩;rw[epc,Wh];exact hu'.fr (by simp;omega) λi hi=>by have:=(hu'.lt hi).1;simp[SD,show ¬i=q by omega]
  clear hp qn rw_ h40 h39 f n k o h2 h4 h5 h8 h9;rintro t df g ⟨rfl,⟨h40,h39,f,n,k,o,h2,h4,h5,h8,h9,-⟩,u,hp⟩
  by_cases hk:pl<j
  ·have z:(pl:Int)<(j:Int):=by omega
   have ed:S.Sz (S.Sy cs ((vars.take (j+1)).drop (pl+1)))=S.Sz (S.Sy cs ((vars.take j).drop (pl+1)))*c:=by rw[Af D E hk,fc,ql];simp[S.Sy,r,S.Sz]
   have X:=du (l:=S.Sy cs ((vars.take (j+1)).drop (pl+1))) (cA hcb λp hp=>hvp p (Vh (Vg hp)));have W:=gx (a:=(S.Sy cs ((vars.take (j+1)).drop (pl+1))).length) (b:=16) (by simp[S.Sy];omega);have U:(4:Int) ^ 16=4294967296:=by decide
   have w1:IntKind.wrap .i64 (S.Sz (S.Sy cs ((vars.take j).drop (pl+1)))*c)=S.Sz (S.Sy cs ((vars.take (j+1)).drop (pl+1))):=by rw[<-ed,aE (by omega) (by omega)]
   simp only[sz,simprocAttr,sf,f,o,z,h9,hp.h9,h2,hp.h0,n,rc,u3,K,ci,w1];refine⟨?_,⟨?_,u,?_⟩,h40,h39⟩
   ·simp only[UQ,UP,UM,UE];exact bf (false::(XK (XJ (true::[])))) [] (by simp[All2,am,aA]) (by decide) (by simp)
   ·simp[St,oD,sx,k,o,h2,h4,h5,h8,h9]
   ·have qn:=hp.qn;have keep:∀i,i≠q+1->(g.h.put (q+1) (Xs 1 [[X8 (S.Sz (S.Sy cs ((vars.take (j+1)).drop (pl+1))))]])).get i=g.h.get i:=λi hne=>by simp only[SD,Um hne]
    exact⟨(keep 0 (by omega)).trans hp.h0,(keep 1 (by omega)).trans hp.h1,(keep 2 (by omega)).trans hp.h2,(keep q (by omega)).trans hp.h8,by simp[SD],hp.hw.fr (by simp;omega) λi hi=>keep i (by have:=hp.wq i hi;omega),hp.hu.fr (by simp;omega) λi hi=>keep i (by have:=(hp.hu.lt hi).1;omega),hp.wq,q3,by simp;omega⟩
  ·have z:¬((pl:Int)<(j:Int)):=by omega
   have ed:(vars.take (j+1)).drop (pl+1)=(vars.take j).drop (pl+1):=Ae (by omega);simp only[sz,simprocAttr,f,o,z];refine⟨⟨by simp[St,oD,sx,k,o,h2,h4,h5,h8,h9],u,?_⟩,h40,h39⟩;rw[ed];exact hp
 ·rintro t df g ⟨rfl,h⟩;exact fin t g h
section
variable {iw B C:Nat}{W:AV}
def GH(h:H)(n:Nat):G:=⟨h,n,[]⟩
@[simp] theorem GH_h (h:H) (n:Nat):(GH h n).h=h:=rfl
@[simp] theorem GH_nx (h:H) (n:Nat):(GH h n).nx=n:=rfl
theorem Own.gh{sz:Nat}{rows:List (List AV)}(h:Own g b v sz rows)(hv:vid v=some i):Own (GH g.h (i+1)) b v sz rows:=by
 rcases h with h|⟨id,ep,lo,h1,h2,rfl,k⟩
 ·exact .inl h
 ·injection hv with hv;subst hv;exact .inr ⟨id,ep,lo,h1,by simp,rfl,k⟩
structure FacG (g0:G) (iw:Nat) (W:AV) (rws:List (List Int)) (B C t:Nat) (h:H):Prop where
 fr:∀i,i<g0.nx->i≠iw->h.get i=g0.h.get i
 ow:Own (GH h (iw+1)) 3 W 1 ((S.S5 rws B C t).map ci)
theorem FacG.up{t:Nat}{h':H}(hf:FacG g0 iw W rws B C t h)(hv:vid W=some iw)(hi:iw<g0.nx)(hh:∀i,i<g0.nx->h'.get i=h.get i):FacG g0 iw W rws B C t h' :=
 ⟨λi h1 h2=>by rw[hh i h1,hf.fr i h1 h2],hf.ow.fr (by simp) λi h=>by rw[hv]at h;injection h with h;subst h;exact hh _ hi⟩
structure FacI (g0 g2:G) (iw:Nat) (W z:AV) (r:List Int) (rws:List (List Int)) (B C q j i:Nat) (t:T) (g:G):Prop where
 st:St t ((78,z)::(12,X8 (j:Int))::oD q)
 hp:FacG g0 iw W rws B C (j*C+i) g.h
 nx:g2.nx<=g.nx
 fr:∀i,g0.nx<=i->i<g2.nx->g.h.get i=g2.h.get i
theorem Ra[XOc]{z:AV}{r:List Int}{rd:Option Nat}{g2:G}(hz:SlR NoP 0 .nil r z)(hr:rws[j]?=some r)(hrl:r.length=C)(hB:0<B)(hA:rws.length=A*B)(hsz:rws.length*C<=1000000)
  (e8:g0.h.get q=Xs 3 [[w,u,W]]) (e2:g0.h.get 2=Xs 3 [[X8 (C:Int),pa,ra]]) (e9:g0.h.get (q+1)=Xs 1 [[X8 (B:Int)]]) (hq:q+1<g0.nx) (hq3:3<=q) (hiw:iw<g0.nx) (hvw:vid W=some iw) (hiq:q+1<iw) (hg2:g0.nx<=g2.nx)
  (h0:FacI g0 g2 iw W z r rws B C q j 0 t g) (h80:tat t 80=X8 0) (h79:tat t 79=X8 (r.length:Int))
  (fin:∀t g,FacI g0 g2 iw W z r rws B C q j r.length t g->Q (.exit 4) t [] g):wpL (wp C0 d rd eo) Q t [] g:=by
 simp only[eo];refine aV (m:=r.length) hz.1 (λi t df g=>df=[]/\FacI g0 g2 iw W z r rws B C q j i t g) ⟨rfl,h0⟩ h80 h79 (by decide)
  (by rintro j t df g v s (rfl|rfl|rfl) ⟨a1,⟨b1,b2,K,L,M,N,O,-⟩,c1,R,U⟩<;>exact⟨a1,by simp[St,oD,sx,b1,b2,K,L,M,N,O],c1,R,U⟩) ?_ ?_
 ·rintro i t df g hi ⟨rfl,⟨a,k,h2,h4,h5,h8,h9,-⟩,hp,Y,H⟩ h80 h79;obtain⟨x,hx,-,-⟩:=ay hi;have rz:=λh=>(hz.tree (h':=h) (Ui 0)).ints;have u1:i<(r.map ci).length:=by simpa using hi
  have u2:(r.map ci)[i]?=some (ci x):=by rw[Uo,hx];rfl
  have hj:=(Uh.1 hr).1;have f:i<C:=by omega
  have o:=DZ (A:=A) (b:=B) (card:=C) (i:=j) (x:=i) hB (by omega) f;rw[<-hA]at o;have I:=Ko (b:=B) (card:=C) (A:=A) (i:=j) (x:=i) hB hA hr f hx;have k8:g.h.get q=Xs 3 [[w,u,W]]:=by rw[hp.fr q (by omega) (by omega),e8]
  have k2:g.h.get 2=Xs 3 [[X8 (C:Int),pa,ra]]:=by rw[hp.fr 2 (by omega) (by omega),e2]
  have k9:g.h.get (q+1)=Xs 1 [[X8 (B:Int)]]:=by rw[hp.fr (q+1) (by omega) (by omega),e9]
  have p:=hp.ow.rows;rw[GH_h]at p;have X:j<1000001:=by have:rws.length*1<=rws.length*C:=Nat.mul_le_mul_left _ (by omega);omega
  have q1:=Jw (x:=j) (y:=B) (by omega) hB;have q2:=Jy (x:=j) (y:=B) hB;have l1:j / B*C<=S.SV B C j i:=by unfold S.SV;have:(j / B*C+i)*1<=(j / B*C+i)*B:=Nat.mul_le_mul_left _ hB;omega
  have l2:(j / B*C+i)<=S.SV B C j i:=by unfold S.SV;have:(j / B*C+i)*1<=(j / B*C+i)*B:=Nat.mul_le_mul_left _ hB;omega
  have l3:(j / B*C+i)*B<=S.SV B C j i:=by unfold S.SV;omega
  have w1:IntKind.wrap .i64 (((j / B:Nat):Int)*(C:Int))=((j / B*C:Nat):Int):=by rw[<-Vn,aE (by omega) (by omega)]
  have w2:IntKind.wrap .i64 (((j / B*C:Nat):Int)+(i:Int))=((j / B*C+i:Nat):Int):=by rw[aE (by omega) (by omega)];simp
  have w3:IntKind.wrap .i64 (((j / B*C+i:Nat):Int)*(B:Int))=(((j / B*C+i)*B:Nat):Int):=by rw[<-Vn,aE (by omega) (by omega)]
  have w4:IntKind.wrap .i64 ((((j / B*C+i)*B:Nat):Int)+((j % B:Nat):Int))=((S.SV B C j i:Nat):Int):=by rw[<-Int.natCast_add];show IntKind.wrap .i64 ((S.SV B C j i:Nat):Int)=_;rw[aE (by omega) (by omega)]
  have F:=Fu rws B C (j*C+i);have u3:S.SV B C j i<((S.S5 rws B C (j*C+i)).map ci).length:=by rw[UK,F];exact o
  have J:((S.S5 rws B C (j*C+i)).map ci)[S.SV B C j i]?=some (((S.S5 rws B C (j*C+i)).map ci)[S.SV B C j i]):=Uj u3;have l:∃y:Int,((S.S5 rws B C (j*C+i)).map ci)[S.SV B C j i]=ci y:=⟨_,List.getElem_map ..⟩;obtain⟨y,Z⟩:=l;rw[Z]at J;have V:g0.nx<=g.nx:=by omega
  refine jy (P:=λt' df g'=>df=[]/\g'=g/\St t' ((80,X8 (i:Int))::(79,X8 (r.length:Int))::(14,X8 (i:Int))::(15,X8 x)::(78,z)::(12,X8 (j:Int))::oD q)) ?_ ?_
  ·simp only[sz,simprocAttr,a,h80,rz,u1,u2,ci];simp[St,oD,sx,a,k,h2,h4,h5,h8,h9,h80,h79]
  clear a k h2 h4 h5 h8 h9 h80 h79;rintro t df g1 ⟨rfl,rfl,⟨h80,h79,D,E,a,k,h2,h4,h5,h8,h9,-⟩⟩;simp only[sz,simprocAttr,sf,h8,k,h9,h5,D,E,k8,k2,k9,q1,q2,w1,w2,w3,w4,p,u3];refine cP (v:=W) (sz:=1) (n:=1) (i:=S.SV B C j i) (off:=0) (x:=X8 x) (row':=ci x) ((hp.ow.fr (g':=g1) (by simp;omega) λi _=>rfl).fr (by simp;omega) λi _=>by simp) J rfl rfl rfl λg4 hu4 n4 f4=>?_;rw[<-Vy,I]at hu4;have c:∀i,i≠iw->g4.h.get i=g1.h.get i:=λi hi=>by rw[f4 i (by rw[hvw];intro e;injection e with e;exact hi e.symm)];simp
  have h3:g1.nx<=g4.nx:=by rw[n4];simp;omega
  simp only[sx,sy,↓reduceIte,Nat.reduceEqDiff];refine⟨?_,⟨?_,⟨λi h1 h2=>?_,?_⟩,?_,λi h1 h2=>?_⟩,h80,h79⟩
  ·simp only[UQ,UP,UM,UE];exact bf (XK (XI (XI (true::[])))) [] (by simp[All2,am,aA]) (by decide) (by simp)
  ·simp[St,oD,sx,a,k,h2,h4,h5,h8,h9]
  ·simp only[bumpG_h];rw[c i h2,hp.fr i h1 h2]
  ·exact hu4.gh hvw
  ·simp;omega
  ·simp only[bumpG_h];rw[c i (by omega),H i h1 h2]
 ·rintro t df g ⟨rfl,h⟩;exact fin t g h
theorem Mj[XOc]{pa' ra':AV}(hra:SlR NoP 0 .nil rws ra')(hrl:∀r∈rws,r.length=C)(hB:0<B)(hA:rws.length=A*B)(hsz:rws.length*C<=1000000)
  (h75:tat t 75=.clo 169 [] [.tptr 0 3 [[X8 (C:Int),pa',ra']] 0 0])
  (e8:g0.h.get q=Xs 3 [[w,u,W]]) (e2:g0.h.get 2=Xs 3 [[X8 (C:Int),pa,ra]]) (e9:g0.h.get (q+1)=Xs 1 [[X8 (B:Int)]]) (hq:q+1<g0.nx) (hq3:3<=q) (hiw:iw<g0.nx) (hvw:vid W=some iw) (hiq:q+1<iw)
  (ht:St t (oD q)) (hW:Own g0 3 W 1 ((List.replicate (rws.length*C) (0:Int)).map ci))
  (fin:∀g',FacG g0 iw W rws B C (rws.length*C) g'.h->g0.nx+2<=g'.nx->g'.h.get g0.nx=.dfr true->Q .norm t [.mark g0.nx] g') :
  wp C0 d none (.rng 105 (.t 75) [76,77] eh eA) Q t [] g0:=by
 obtain⟨h2,h4,h5,h8,h9,-⟩:=ht;refine Gx (c:=(C:Int)) (pa:=pa') hra h75 (by decide) (by decide) (λj h=>FacG g0 iw W rws B C (j*C) h) (λ_=>False) ?_ ?_ ?_ ?_ fin ?_
 ·intro j h h' m hf;exact hf.up hvw hiw m
 ·intro h h' _ hf;exact hf
 ·refine⟨λi _ _=>rfl,?_⟩;rw[W9,Kp];exact hW.gh hvw
 ·intro j r z g1 hr hz hf n;have k:=hrl r (Ul hr);simp only[sz,simprocAttr,eh];intro g2 l e;have a:FacG g0 iw W rws B C (j*C) g2.h:=hf.up hvw hiw λi hi=>e i (by omega);simp only[sz,simprocAttr,eA,hz.len];refine Ra (g2:=g2) (A:=A) (q:=q) (iw:=iw) (w:=w) (u:=u) (W:=W) (z:=z) (r:=r) (rws:=rws) hz hr k hB hA hsz e8 e2 e9 hq hq3 hiw hvw hiq (by omega) ⟨by simp[St,oD,sx,h2,h4,h5,h8,h9],by simpa using a,Ui _,λ_ _ _=>rfl⟩ (by simp[sx]) (by simp[sx]) ?_;rintro t g ⟨-,hp,f,b⟩;simp only[sx,sy,↓reduceIte];refine⟨f,b,.inl ⟨rfl,?_⟩⟩;rw[k,show j*C+C=(j+1)*C by rw[UH,Vk]]at hp;exact hp
 ·intro g' hf;exact hf.elim
end
def S.S9(n:Net)(i:Nat)(x:Node)(p:Nat):Factor:=⟨S.SS x.parents p (i:Int),S.Sy (S.Sx n) (S.SS x.parents p (i:Int)),S.TH x.rows (S.Sz (S.Sy (S.Sx n) (x.parents.drop p))).toNat x.card.toNat⟩
def Se(n:Net)(i:Nat)(x:Node):VS:=λP k h v=>∃p:Nat,p<=x.parents.length/\Agg (S.S9 n i x p) P k h v
theorem Ho{v:Int}(hk:k<=ps.length):(S.SS ps k v).drop (k+1)=ps.drop k:=by
 have h1:S.SS ps k v=(ps.take k++[v])++ps.drop k:=by simp[S.SS]
 rw[h1,List.drop_left' (by simp;omega)]
theorem Own.low{b':Nat}{sz:Nat}{rows:List (List AV)}(h:Own g b v sz rows)(hb:b'<=b):Own g b' v sz rows:=by
 rcases h with h|⟨id,ep,lo,h1,h2⟩
 ·exact .inl h
 ·exact .inr ⟨id,ep,lo,by omega,h2⟩
theorem Mn(h:w.cells=[w])(h2:w.isTup=false):eF [.nils,.nils,.nils] [((0,1),w)]=some [w,.nils,.nils]:=by
 simp[eF,h,h2,dP]
 rfl
theorem Kr[XOc]{o:List Int}(hd:0<d)(hr:NR n)(hm:Agg ((n,S.Sx n,S.SK n,o):NwM) NoP 0 g.h v)(hx:n.nodes[i]?=some x) :
  ∃r,ae C0 d 129 [v,X8 (i:Int)] g=.val r/\Se n i x NoP 0 .nil r:=by
 have e0:=lf d hm;obtain⟨cs,rfl,hc⟩:=hm;obtain⟨b,cv,sv,oz,rfl,hN,K,-,-⟩:=yC.1 hc;have hN:SlR NoP 0 .nil n.nodes b:=hN.tree (h':=.nil) (Ui 0);have K:SlR NoP 0 .nil (S.Sx n) cv:=K.tree (h':=.nil) (Ui 0);obtain⟨rows,r1,r2,r3,r4⟩:=hN.all;obtain⟨row,q1,q2⟩:=r3 i x hx;obtain⟨pa,ra,rfl,F,H⟩:=fd.1 q2;have z:=Ul hx;have ht:=(Uh.1 hx).1;have hv:=hr.l2;have hlt:i<rows.length:=by omega
 have k5:=r4 (by omega);have k4:=qX (hr.places x z) (by omega);have s:=hr.pin z;have r1:∀h',ah h' 3 b=some rows:=r1;have rc:=λh=>(K.tree (h':=h) (Ui 0)).ints;rw[pJ];refine a_ rU (xs:=[.agg [X8 n.grain,b,cv,sv,oz],X8 (i:Int)]) (by simp only[aD,e0,cg 0]) (by simp[fW]) (mK λo=>dw _) (by decide) hd ?_;simp only[sz,simprocAttr,fW];obtain⟨g0,hg0⟩:∃g0,g0=(G.empty.new (Xs 5 [[X8 n.grain,b,cv,sv,oz]])).new (Xs 3 [[.nils,.nils,.nils]]):=⟨_,rfl⟩;rw[<-hg0];have f0:g0.h.get 0=Xs 5 [[X8 n.grain,b,cv,sv,oz]]:=by rw[hg0];simp[sx,SD]
 have f1:g0.h.get 1=Xs 3 [[.nils,.nils,.nils]]:=by rw[hg0];simp[sx]
 have f2:g0.nx=2:=by rw[hg0];simp[sx]
 clear hg0;simp only[jj];refine i8 (P:=λt' df g'=>df=[]/\g'.nx=3/\g'.h.get 0=Xs 5 [[X8 n.grain,b,cv,sv,oz]]/\g'.h.get 1=Xs 3 [[.nils,.nils,.nils]]/\g'.h.get 2=Xs 3 [[X8 x.card,pa,ra]]/\St t' [(1,X8 (i:Int)),(2,X9 0),(4,X9 1),(5,X9 2)]) ?_ ?_
 ·simp only[sz,simprocAttr,f0,r1,hlt,q1];simp[St,sx,f1,f2]
 rintro t df g1 ⟨rfl,n1,k0,k1,k2,h1,h2,h4,h5,-⟩;obtain⟨p,sb,hp,es⟩:=Le (d:=d+1) (g:=g1) (x:=(i:Int)) (UC d) (F.tree (Ui 0)) (by omega);refine i8 (P:=λt' df g'=>df=[]/\g'=g1/\St t' [(1,X8 (i:Int)),(2,X9 0),(4,X9 1),(5,X9 2),(6,X8 (p:Int))]) ?_ ?_
 ·simp only[sz,simprocAttr,h5,h1,k2,es];simp[St,sx,h1,h2,h4,h5]
 clear h1 h2 h4 h5;rintro t df g2 ⟨rfl,rfl,h1,h2,h4,h5,D,-⟩;refine i8 (P:=λt' df g'=>df=[]/\∃w q,w.cells=[w]/\FacH [X8 n.grain,b,cv,sv,oz] [X8 x.card,pa,ra] w .nils (S.SS x.parents p (i:Int)) [] 1 q (g'.new (Xs 1 [[X8 1]]))/\g'.nx=q+1/\St t' [(2,X9 0),(4,X9 1),(5,X9 2),(6,X8 (p:Int)),(8,X9 q)]) ?_ ?_
 ·simp only[sz,simprocAttr,h5,k2];refine Ka (l:=x.parents) F (by omega) λu ga hu fa=>?_;simp only[sz,simprocAttr,D,h1];have T:∀i,vid u=some i->g2.nx<=i/\i<ga.nx:=λi hi=>by
   rcases hu with⟨-,rfl⟩|⟨id,lo,a1,a2,rfl,-⟩
   ·cases hi
   ·injection hi with hi;subst hi;exact⟨a1,a2⟩
  have fa1:=fa.1;obtain⟨w,g3,e3,hw,n3,f3⟩:=Hs (d:=d+1) (b:=g2.nx) (p:=p) (id2:=ga.nx) (ep2:=0) (x:=(i:Int)) (lim:=none) (hu.fr (Fr.new ga (Xs 1 [[X8 (i:Int)]]))) (by omega) hp (by simp[SD];exact⟨rfl,rfl,rfl⟩) (λj hj=>by have:=T j hj;omega) (by simp;omega);rw[e3];simp only[sz,simprocAttr,Mn hw.cell.1 hw.cell.2];have k7:ga.nx+1<=g3.nx:=by simpa using n3
  have keep:∀j,j<3->g3.h.get j=g2.h.get j:=λj hj=>by rw[f3 j (by simp;omega) (λe=>by have:=T j e;omega),<-fa.2 j (by omega)];simp[SD,show ¬j=ga.nx by omega]
  have I:∀j,vid w=some j->3<=j/\j<g3.nx:=λj hj=>by have:=hw.lt hj;omega
  have ne1:∀j,j<g3.nx->¬j=g3.nx/\¬j=g3.nx+1:=λj hj=>by omega
  refine⟨w,g3.nx,hw.cell.1,⟨?_,?_,?_,?_,?_,?_,?_,?_,?_,?_⟩,?_,?_⟩
  ·simp[SD,ne1 0 (by omega),keep 0 (by omega),k0,show ¬g3.nx=0 by omega]
  ·simp[SD,ne1 1 (by omega),keep 1 (by omega),k1,show ¬g3.nx=0 by omega]
  ·simp[SD,ne1 2 (by omega),keep 2 (by omega),k2]
  ·simp[SD]
  ·simp[SD]
  ·refine (Own.low hw (b':=3) (by omega)).fr (by simp;omega) λj hj=>?_;have:=ne1 j (I j hj).2;simp[SD,this]
  ·exact .inl ⟨rfl,rfl⟩
  ·exact λj hj=>(I j hj).2
  ·omega
  ·simp
  ·simp
  ·simp[St,sx,h2,h4,h5,D]
 clear h1 h2 h4 h5 D es;rintro t df g3 ⟨rfl,w,q,k6,m,Q,h2,h4,h5,D,h8,-⟩;have hs:=uf x.parents p (i:Int) hp;have fa:=m.hw.rows;refine i8 (P:=λt' df g'=>df=[]/\g'=(g3.new (Xs 1 [[X8 0]])).put (q+1) (Xs 1 [[X8 1]])/\St t' ((6,X8 (p:Int))::oD q)) ?_ ?_
 ·simp only[sz,simprocAttr,Q];simp[St,oD,sx,h2,h4,h5,D,h8]
 clear h2 h4 h5 D h8;rintro t df V ⟨rfl,L,D,h2,h4,h5,h8,h9,-⟩;have E:FacH [X8 n.grain,b,cv,sv,oz] [X8 x.card,pa,ra] w .nils (S.SS x.parents p (i:Int)) [] 1 q V:=by
  have e:∀j,V.h.get j=(g3.new (Xs 1 [[X8 1]])).h.get j:=λj=>by
   rw[L]
   by_cases hj:j=q+1<;>simp[SD,Q,hj]
  have en:V.nx=(g3.new (Xs 1 [[X8 1]])).nx:=by rw[L];simp
  exact⟨by rw[e,m.h0],by rw[e,m.h1],by rw[e,m.h2],by rw[e,m.h8],by rw[e,m.h9],m.hw.fr (by omega) λj _=>e j,m.hu.fr (by omega) λj _=>e j,m.wq,m.q3,by rw[en];exact m.qn⟩
 clear L m;have I:∀g,jC .slice w g=.val (X8 (((S.SS x.parents p (i:Int)).length:Nat):Int)):=λg=>by
  rcases E.hw with⟨-,e⟩|⟨id,ep,lo,-,-,rfl,-⟩
  ·have:((S.SS x.parents p (i:Int)).map ci).length=0:=by rw[e];rfl
   rw[UK]at this;omega
  ·rw[UK];rfl
 simp only[sz,simprocAttr,h8,E.h8,I];refine Q_ (gr:=n.grain) (b:=b) (cv:=cv) (sv:=sv) (oz:=oz) (nd:=[X8 x.card,pa,ra]) (w:=w) (cs:=S.Sx n) (vars:=S.SS x.parents p (i:Int)) (pl:=p) (q:=q) rc (by omega) ?_ hr.cs (by omega) ⟨by simp[St,oD,sx,h2,h4,h5,D,h8,h9],.nils,by simpa [S.Sy,S.Sz] using E⟩ (by simp[sx]) (by simp[sx]) ?_
 ·intro y hy;simp only[S.SS,UL,UW]at hy;rcases hy with hy|rfl|hy
  ·exact s y (Vh hy)
  ·rw[bE];omega
  ·exact s y (Vg hy)
 clear h2 h4 h5 D h8 h9 E;rintro t g ⟨⟨X,D,h2,h4,h5,h8,h9,-⟩,u,f⟩;rw[U3,Ho hp]at f;have hq:=hr.card x z;have h3:∀c∈S.Sy (S.Sx n) (x.parents.drop p),1<=c/\c<=4:=cA hr.cs λp hp=>s p (Vg hp);have he:∀c∈S.Sy (S.Sx n) (x.parents.take p),1<=c/\c<=4:=cA hr.cs λp hp=>s p (Vh hp);have er:(x.rows.length:Int)=S.Sz (S.Sy (S.Sx n) (x.parents.take p))*S.Sz (S.Sy (S.Sx n) (x.parents.drop p)):=by
  rw[hr.rows x z]
  conv=>lhs;rw[<-Vi p x.parents,fc,ql]
 have ho:=kw λc hc=>(h3 c hc).1;have hl:=kw λc hc=>(he c hc).1;have k3:=du (l:=S.Sy (S.Sx n) x.parents) (cA hr.cs s);have E:=gx (a:=(S.Sy (S.Sx n) x.parents).length) (b:=8) (by simp[S.Sy];omega);have hk:(4:Int) ^ 8=65536:=by decide
 have ha:=hr.rows x z;obtain⟨B,Y⟩:=Ur (show 0<=S.Sz (S.Sy (S.Sx n) (x.parents.drop p)) by omega);obtain⟨A,hA⟩:=Ur (show 0<=S.Sz (S.Sy (S.Sx n) (x.parents.take p)) by omega);obtain⟨C,hC⟩:=Ur (show 0<=x.card by omega);have N:x.rows.length=A*B:=by
  have:((x.rows.length:Nat):Int)=((A*B:Nat):Int):=by rw[er,Vn,hA,Y]
  omega
 have hb:x.rows.length*C<=1000000:=by
  have h1:x.rows.length<=65536:=by omega
  have h2:C<=4:=by omega
  have:=Wq h1 h2;omega
 have rl:=λg=>(H.tree (h':=g) (Ui 0)).len;have rl:=λg=>(H).len g;have w1:IntKind.wrap .i64 ((x.rows.length:Int)*(C:Int))=((x.rows.length*C:Nat):Int):=by rw[<-Vn,aE (by omega) (by omega)]
 rw[Y]at f;simp only[iI,hC]at f ⊢;obtain⟨pa',ra',er',R,J⟩:=A5 (d:=d+1) (g:=.empty) (x:=x) (v:=.agg [X8 (C:Int),pa,ra]) (UC d) ⟨_,rfl,fd.2 ⟨pa,ra,by rw[hC],F.tree (Ui 0),H.tree (Ui 0)⟩⟩;have q3:=f.q3;have qn:=f.qn;refine i8 (P:=λt' df g'=>df=[]/\∃W,vid W=some g.nx/\g'.nx=g.nx+1/\(∀i,i<g.nx->i≠q->g'.h.get i=g.h.get i)/\g'.h.get q=Xs 3 [[w,u,W]]/\Own g' 3 W 1 ((List.replicate (x.rows.length*C) (0:Int)).map ci)/\St t' (oD q)) ?_ ?_
 ·simp only[sz,simprocAttr,h5,f.h2,rl,w1];refine wU (b:=3) (n:=x.rows.length*C) (by unfold bz;omega) (by unfold bz;omega) (by omega) λW g1 hW n1 f1 vW=>?_;have U:g1.h.get q=Xs 3 [[w,u,.nils]]:=by rw[f1 q (by omega),f.h8]
  simp only[sz,simprocAttr,h8,U,hW.cell.1,hW.cell.2];refine⟨W,vW,by simpa using n1,λi h1 h2=>?_,by simp[SD],?_,by simp[St,oD,sx,h2,h4,h5,h8,h9]⟩
  ·simp[h2];exact f1 i h1
  ·have Z:Own g1 3 W 1 ((List.replicate (x.rows.length*C) (0:Int)).map ci):=by simpa [ci] using hW
   exact Z.fr (by simp) λi hi=>by have:=gA vW hi;simp[SD,show ¬i=q by omega]
 clear X D h2 h4 h5 h8 h9;rintro t df g1 ⟨rfl,W,vW,n1,f1,U,hW,h2,h4,h5,h8,h9,-⟩;have k2:g1.h.get 2=Xs 3 [[X8 (C:Int),pa,ra]]:=by rw[f1 2 (by omega) (by omega),f.h2]
 have k9:g1.h.get (q+1)=Xs 1 [[X8 (B:Int)]]:=by rw[f1 (q+1) (by omega) (by omega),f.h9]
 have k1:g1.h.get 1=Xs 3 [[.nils,.nils,.nils]]:=by rw[f1 1 (by omega) (by omega),f.h1]
 obtain⟨pa',ra',er',R,J⟩:=A5 (d:=d+1) (g:=g1) (x:=x) (v:=.agg [X8 (C:Int),pa,ra]) (UC d) ⟨_,rfl,fd.2 ⟨pa,ra,by rw[hC],F.tree (Ui 0),H.tree (Ui 0)⟩⟩;rw[hC]at er';rw[dU,dU];simp only[sz,simprocAttr,h5,k2,er'];refine Mj (A:=A) (B:=B) (C:=C) (q:=q) (iw:=g.nx) (w:=w) (u:=u) (W:=W) (pa:=pa) (ra:=ra) (pa':=pa') J (λr hrm=>by have:=(hr.row x z r hrm).1;omega) (by omega) N hb (by simp[sx]) U k2 k9 (by omega) q3 (by omega) vW (by omega) (by simp[St,oD,sx,h2,h4,h5,h8,h9]) hW ?_;intro g' hf hn h7;have hh:g'.h.get q=Xs 3 [[w,u,W]]:=by rw[hf.fr q (by omega) (by omega),U]
 have hg:g'.h.get 1=Xs 3 [[.nils,.nils,.nils]]:=by rw[hf.fr 1 (by omega) (by omega),k1]
 simp only[sz,simprocAttr,iH,h8,hh,h4,hg];refine iB (by simp[SD,show ¬g1.nx=1 by omega,h7]) ?_;simp only[sx,sy,↓reduceIte,Nat.reduceEqDiff,h4];rw[Um (by omega)];simp only[sx,sy,↓reduceIte,Nat.reduceAdd,Nat.reduceLeDiff];have lw:=f.hw;have lu:=f.hu;have lW:=hf.ow;have M:∀i,i<g1.nx->i≠1->((g'.h.put 1 (Xs 3 [[w,u,W]])).put g1.nx (.dfr false)).get i=g'.h.get i:=λi h1 h2=>by simp[SD,h2,show ¬i=g1.nx by omega]
 have oW:Own (GH ((g'.h.put 1 (Xs 3 [[w,u,W]])).put g1.nx (.dfr false)) (g.nx+1)) 3 W 1 ((S.S5 x.rows B C (x.rows.length*C)).map ci):=lW.fr (by simp) λi hi=>by have:=gA vW hi;exact M i (by omega) (by omega)
 have ow:Own (GH ((g'.h.put 1 (Xs 3 [[w,u,W]])).put g1.nx (.dfr false)) (g.nx+1)) 3 w 1 ((S.SS x.parents p (i:Int)).map ci):=lw.fr (by simp) λj hj=>by have:=f.wq j hj;have:=(lw.lt hj).1;show ((g'.h.put 1 (Xs 3 [[w,u,W]])).put g1.nx (.dfr false)).get j=_;rw[M j (by omega) (by omega),hf.fr j (by omega) (by omega),f1 j (by omega) (by omega)]
 have ou:Own (GH ((g'.h.put 1 (Xs 3 [[w,u,W]])).put g1.nx (.dfr false)) (g.nx+1)) (q+2) u 1 ((S.Sy (S.Sx n) (S.SS x.parents p (i:Int))).map ci):=lu.fr (by simp) λj hj=>by have:=lu.lt hj;show ((g'.h.put 1 (Xs 3 [[w,u,W]])).put g1.nx (.dfr false)).get j=_;rw[M j (by omega) (by omega),hf.fr j (by omega) (by omega),f1 j (by omega) (by omega)]
 have O:(S.S5 x.rows B C (x.rows.length*C))=S.TH x.rows (S.Sz (S.Sy (S.Sx n) (x.parents.drop p))).toNat x.card.toNat:=by rw[Y,hC,U2,U2];exact Mi (A:=A) (by omega) N
 refine⟨λ_=>True,p,hp,_,rfl,qm.2 ⟨w,u,W,rfl,?_,?_,?_⟩⟩
 ·obtain⟨_,e1,h⟩:=ow.ints (k:=0) (by omega);injection e1 with e1;subst e1;exact h
 ·obtain⟨_,e1,h⟩:=ou.ints (k:=0) (by simp[S.Sy];omega);injection e1 with e1;subst e1;exact h
 ·rw[O]at oW;obtain⟨_,e1,h⟩:=oW.ints (k:=0) (by rw[<-O,Fu];omega);injection e1 with e1;subst e1;exact h
def S.TZ(n:Net)(l:List Factor):Prop:=∀(i:Nat) (x:Node),i<l.length->n.nodes[i]?=some x->∃p,p<=x.parents.length/\l[i]?=some (S.S9 n i x p)
def RS(n:Net):VS:=λP k h v=>∃l:List Factor,((S.SW n=true->l.length=n.nodes.length)/\S.TZ n l)/\oE (One l) (One (if S.SW n then (0:Int) else 50)) P k h v
structure FasJ (n:Net) (W b cv sv oz:AV) (j:Nat) (t:T) (g:G):Prop where
 st:St t [(4,X9 1),(6,W)]
 hg:g.h.get 1=Xs 5 [[X8 n.grain,b,cv,sv,oz]]
 hW:∃(rows:List (List AV)) (l:List Factor),Own g 2 W 3 rows/\rows.length=n.nodes.length/\l.length=j/\All2 (Rp.rp NoP 0 .nil) l (rows.take j)/\S.TZ n l/\∀i,j<=i->i<n.nodes.length->rows[i]?=some [.nils,.nils,.nils]
theorem O0[XOc](hd:0<d)(hm:Agg n NoP 0 g.h v):∃r,ae C0 d 104 [v] g=.val r/\RS n NoP 0 .nil r:=by
 obtain⟨b,rows,rfl,e1,R,hN,r1,r2,r3,r4⟩:=dt d hm;rw[xG];refine a_ Aq (xs:=[.agg [X8 n.grain,b]]) (by simp only[aD,e1]) (by simp[oY]) (mK λo=>bY (m:=2) (aG _) (aG _) (by decide) (by decide)) (by decide) hd ?_;simp only[sz,simprocAttr,oY,rG];obtain⟨z,ez,hz⟩:=zp (d:=d+1) (g:=G.empty.new (Xs 2 [[X8 n.grain,b]])) (UC d) (n:=n) (v:=.agg [X8 n.grain,b]) (R _);rcases oB hz with⟨D,cs,rfl,w⟩|⟨D,b',cv,sv,oz,o,rfl,hb,P,X,U⟩
 ·obtain⟨a1,a2,c,a4,H,rfl⟩:∃a1 a2 c a4 H,cs=[a1,a2,c,a4,H]:=by
   match cs,w with
   |[a1,a2,c,a4,H],_=>exact⟨a1,a2,c,a4,H,rfl⟩
  simp only[sz,simprocAttr,ez,show ¬((50:Int)=0) from by decide];refine⟨NoP,[],⟨λh=>(by rw[D]at h;cases h),λi x hi=>(by simp at hi)⟩,_,_,rfl,⟨_,rfl,⟨by show 0<9223372036854775808;decide,rfl⟩⟩,?_⟩;rw[D];exact ax.2 rfl
 ·have hr:=bw.1 D;have h5:=hr.l2;simp only[sz,simprocAttr,ez,hb.len];refine wU (b:=2) (n:=n.nodes.length) (by unfold bz;omega) (by unfold bz;omega) (by simp) λW g1 hW n1 f1 vW=>?_;have k1:g1.h.get 1=Xs 5 [[X8 n.grain,b',cv,sv,oz]]:=by rw[f1 1 (by simp)];simp[SD]
  have K:∀(g:G) (rows:List (List AV)),rows.length=n.nodes.length->Own g 2 W 3 rows->jC .slice W g=.val (X8 (n.nodes.length:Int)):=λg rows h1 h=>by
   rcases h with⟨rfl,e⟩|⟨id,ep,lo,-,-,rfl,-⟩
   ·cases vW
   ·rw[h1];rfl
  have Q:=K g1 _ (by simp) hW;have h3:xX W=true:=by
   rcases hW with⟨rfl,e⟩|⟨id,ep,lo,-,-,rfl,-⟩
   ·cases vW
   ·rfl
  simp only[sz,simprocAttr,Q];simp only[pZ];refine aV (m:=n.nodes.length) (by omega) (λj t df g=>df=[]/\FasJ n W b' cv sv oz j t g) ⟨rfl,by simp[St,sx],k1,_,[],hW,by simp,rfl,trivial,λi x hi=>(by simp at hi),λi _ hi=>by simp[hi]⟩ (by simp[sx]) (by simp[sx]) (by decide)
   (by rintro j t df g v s (rfl|rfl|rfl) ⟨a1,⟨b1,b2,-⟩,c1,c2⟩<;>exact⟨a1,by simp[St,sx,b1,b2],c1,c2⟩) ?_ ?_
  ·rintro j t df g Z ⟨rfl,⟨h4,I,-⟩,hg,rows',l,hW,E,u,q,A,k⟩ B J;obtain⟨x,hx,-,-⟩:=ay Z;have T:Agg ((n,S.Sx n,S.SK n,o):NwM) NoP 0 g.h (.agg [X8 n.grain,b',cv,sv,oz]):=⟨_,rfl,yC.2 ⟨b',cv,sv,oz,rfl,hb.tree (Ui 0),P.tree (Ui 0),X.tree (Ui 0),U.tree (Ui 0)⟩⟩;obtain⟨f,ef,p,hp,cs,rfl,w⟩:=Kr (d:=d+1) (g:=g) (i:=j) (UC d) hr T hx;obtain⟨a1,a2,c,rfl,M,N,O⟩:=qm.1 w;have V:=k j (Ui _) Z;have L:=hW.rows;have C:j<rows'.length:=by omega
   simp only[sz,simprocAttr,B,I,h4,hg,ef,L,C];refine cP (v:=W) (sz:=3) (n:=3) (i:=j) (off:=0) (x:=.agg [a1,a2,c]) (row':=[a1,a2,c]) hW V (by rfl) rfl ?_ λg4 hW4 n4 f4=>?_
   ·rfl
   have Y:(rows'.set j [a1,a2,c]).take (j+1)=rows'.take j++[[a1,a2,c]]:=by
    rw[Ws,List.take_set_of_le (Ui _),Vx C]
    rfl
   simp only[sx,sy,↓reduceIte,Nat.reduceEqDiff];refine⟨⟨by simp[St,sx,h4,I],?_,_,l++[S.S9 n j x p],hW4,by simpa using E,by simp[u],?_,?_,λi h1 h2=>by rw[W4 (by omega),k i (by omega) h2]⟩,B,J⟩
   ·rw[f4 1 λe=>by have:=(hW.lt e).1;omega,hg]
   ·rw[Y];exact q.append ⟨qm.2 ⟨a1,a2,c,rfl,M,N,O⟩,trivial⟩
   ·intro i y hi F
    by_cases hij:i<l.length
    ·rw[UF hij];exact A i y hij F
    ·have hi:i=j:=by simp at hi;omega
     subst hi;rw[hx]at F;injection F with F;subst F;exact⟨p,hp,by rw[UA (by omega),u];simp⟩
  ·rintro t df g ⟨rfl,⟨h4,I,-⟩,hg,rows',l,hW,E,u,q,A,k⟩;rw[Vm (by omega)]at q;simp only[sz,simprocAttr,p_,I];refine⟨λ_=>True,l,⟨λ_=>u,A⟩,_,_,rfl,⟨W,rfl,Own.sl (α:=Factor) hW (by omega) (q.mono λa b r=>Rp.tree r (Ui 0)) λ_ _=>trivial⟩,?_⟩;rw[D];exact ax.2 rfl
abbrev QnM:Type:=Net×List Factor×List (List Int)
theorem xf{x:QnM}{cs:List AV}:Rp.rp P k h x cs↔∃a b c,cs=[X8 x.1.grain,a,b,c]/\SlR P k h x.1.nodes a/\SlR P k h x.2.1 b/\SlR P k h x.2.2 c:=by
 constructor
 ·rintro⟨c1,d,rfl,h1,e,f,rfl,⟨b,rfl,hb⟩,⟨c,rfl,hc⟩⟩;obtain⟨a,rfl,ha⟩:=l_.1 h1;exact⟨a,b,c,rfl,ha,hb,hc⟩
 ·rintro⟨a,b,c,rfl,ha,hb,hc⟩;exact⟨[_,a],[b,c],rfl,l_.2 ⟨a,rfl,ha⟩,[b],[c],rfl,⟨b,rfl,hb⟩,⟨c,rfl,hc⟩⟩
theorem N2(h:NR n)(hx:n.nodes[k]?=some x):(k:Int) ∉ x.parents:=λhm=>by
 have hk:=(Uh.1 hx).1;have hl:=h.l2;have h1:=wh.1 h.acyc k (by simp[S.SK];exact hk);have h2:Par (S.SK n) k=S.SQ x.parents:=by simp[Par,S.SK,hx]
 have a:(S.SQ x.parents).testBit k=true:=(zk λy hy=>by have:=gw (h.places x (Ul hx)) y hy;omega).2 hm;have h4:=zA (p:=S.SK n) (s:=Par (S.SK n) k) (S.SK n).length k (by rw[h2];exact a);rw[h1]at h4;cases h4
theorem KY{k:Int}(h:S.Tn l k=true):l.Nodup:=by rw[List.Nodup,VE];intro i j hi b a e;have:=KX h (Uj hi) (Uj b) a;omega
theorem MK(h:NR n)(hx:n.nodes[k]?=some x)(p:Nat):(S.SS x.parents p (k:Int)).Nodup:=by unfold S.SS;rw[List.perm_middle.nodup_iff,Vi,List.nodup_cons];exact⟨N2 h hx,KY (h.places x (Ul hx))⟩
theorem Az(h:NR n)(hx:n.nodes[k]?=some x)(p:Nat):∀y∈S.SS x.parents p (k:Int),0<=y/\y<n.nodes.length:=λy hy=>by
 have hk:=(Uh.1 hx).1;have hp:=gw (h.places x (Ul hx));simp only[S.SS,UL,UW]at hy;rcases hy with hy|rfl|hy
 ·exact hp y (Vh hy)
 ·omega
 ·exact hp y (Vg hy)
theorem vZ(cs ps:List Int):(S.Sy cs ps).length=ps.length:=by simp[S.Sy]
theorem Kq(h:NR n)(hx:n.nodes[k]?=some x)(p:Nat):∀c∈(S.S9 n k x p).cards,1<=c/\c<=4 :=
 cA h.cs λy hy=>by rw[bE];exact Az h hx p y hy
def S.TP(m:Nat)(f:Factor)(i:Nat)(R:List Int):Prop:=R.length=m/\∀(j:Nat) (y:Int),i<=j->f.vars[j]?=some y->R[y.toNat]?=some (S.Sz (f.cards.drop (j+1)))
theorem Ia{m:Nat}{f:Factor}{R:List Int}(h:S.TP m f (i+1) R)(hnd:f.vars.Nodup)(hin:∀y∈f.vars,0<=y/\y<m)(hy:f.vars[i]?=some y):S.TP m f i (R.set y.toNat (S.Sz (f.cards.drop (i+1)))):=by
 refine⟨by simp[h.1],λj z hij hz=>?_⟩;have a:=hin y (Ul hy);have b:=hin z (Ul hz)
 by_cases e:j=i
 ·subst e;rw[hy]at hz;injection hz with hz;subst hz;rw[Vx (by rw[h.1];omega)]
 ·rw[W4]
  ·exact h.2 j z (by omega) hz
  ·intro c;have k:y=z:=by omega
   subst k;exact e ((List.getElem?_inj (Uh.1 hz).1 hnd).1 (by rw[hz,hy]))
structure QnOk (n:Net) (y:QnM):Prop where
 net:y.1=n
 fl:y.2.1.length=n.nodes.length
 fs:S.TZ n y.2.1
 sl:y.2.2.length=n.nodes.length
 st:∀(k:Nat) (f:Factor) (R:List Int),y.2.1[k]?=some f->y.2.2[k]?=some R->S.TP n.nodes.length f 0 R
def S.To(n:Net)(ls:List (List Int)):Int:=if S.SW n then (if ls.all (S.SL n) then 0 else 2) else 50
def OF(n:Net)(ls:List (List Int)):VS:=λP k h v=>∃y:QnM,(S.To n ls=0->QnOk n y)/\oE (Agg y) (One (S.To n ls)) P k h v
def ER(fl:AV)(m q k:Nat):List (Nat×AV):=[(11,X9 q),(2,X9 0),(4,X9 1),(45,fl),(46,X8 (m:Int)),(47,X8 (k:Int))]
structure AskI (fl:AV) (m q k:Nat) (g0:G) (iR:Nat) (R:AV) (f:Factor) (fb j:Nat) (t:T) (g:G):Prop where
 st:St t ((13,X9 fb)::(12,X8 (k:Int))::(14,X8 (S.Sz (f.cards.drop j)))::ER fl m q k)
 nx:g0.nx<=g.nx
 fr:∀i,i<g0.nx->i≠iR->g.h.get i=g0.h.get i
 ow:∃X:List Int,Own g 2 R 1 (X.map ci)/\S.TP m f j X
theorem QX[XOc]{m fb iR:Nat}{va ca wa S_ R b fl fl':AV}{f:Factor}{rowsS:List (List AV)}(hva:SlR NoP 0 .nil f.vars va)(hca:SlR NoP 0 .nil f.cards ca)(hcl:f.cards.length=f.vars.length)(hvl:f.vars.length<=16)(hcb:∀c∈f.cards,1<=c/\c<=4)(hnd:f.vars.Nodup)(hin:∀y∈f.vars,0<=y/\y<m)
  (e11:g0.h.get q=Xs 4 [[X8 gr,b,fl',S_]]) (e13:g0.h.get fb=Xs 3 [[va,ca,wa]]) (hS:Own g0 2 S_ 1 rowsS) (hk:rowsS[k]?=some [R]) (vR:vid R=some iR) (vS:vid S_≠some iR) (n1:q≠iR/\fb≠iR) (n2:q<g0.nx/\fb<g0.nx/\iR<g0.nx)
  (h0:AskI fl m q k g0 iR R f fb f.vars.length t g) (h15:tat t 15=X8 ((f.vars.length:Int) - 1))
  (fin:∀t g,AskI fl m q k g0 iR R f fb 0 t g->Q (.exit 4) t [] g):wpL (wp C0 d none nf) Q t [] g:=by
 have rva:=λh=>(hva.tree (h':=h) (Ui 0)).ints;have rca:=λh=>(hca.tree (h':=h) (Ui 0)).ints;simp only[nf];refine Oq (m:=f.vars.length) (by omega) (λj t df g=>df=[]/\AskI fl m q k g0 iR R f fb j t g) ⟨rfl,h0⟩ h15 (by decide)
  (by rintro j t df g v s (rfl|rfl|rfl|rfl|rfl) ⟨a1,⟨b1,b2,Y,Z,b5,b6,b7,b8,b9,-⟩,c1,c2,c3⟩<;>exact⟨a1,by simp[St,ER,sx,b1,b2,Y,Z,b5,b6,b7,b8,b9],c1,c2,c3⟩) ?_ ?_
 ·rintro j t df g V ⟨rfl,⟨u,A,B,z,h2,h4,K,L,M,-⟩,O,o,X,hX,F⟩ h15;obtain⟨y,W,-,H⟩:=ay V;obtain⟨P,H⟩:=hin y H;obtain⟨yn,rfl⟩:=Ur P;have D:f.cards[j]?=some f.cards[j]:=Uj (by omega);have C:=hcb _ (VL (show j<f.cards.length by omega));have E:f.cards.drop j=f.cards[j]::f.cards.drop (j+1):=VY (by omega);generalize f.cards[j]=c at D C E;have u1:j<(f.vars.map ci).length:=by simpa using V
  have u2:(f.vars.map ci)[j]?=some (ci (yn:Int)):=by rw[Uo,W];rfl
  have u3:j<(f.cards.map ci).length:=by simp;omega
  have u4:(f.cards.map ci)[j]?=some (ci c):=by rw[Uo,D];rfl
  have h5:=F.1;have r:yn<X.length:=by omega
  have u5:yn<(X.map ci).length:=by simpa using r
  have u6:(X.map ci)[yn]?=some (ci X[yn]):=by rw[Uo,Uj r];rfl
  have U:g.h.get q=Xs 4 [[X8 gr,b,fl',S_]]:=by rw[o q n2.1 n1.1,e11]
  have I:g.h.get fb=Xs 3 [[va,ca,wa]]:=by rw[o fb n2.2.1 n1.2,e13]
  have N:Own g 2 S_ 1 rowsS:=hS.fr O λi hi=>o i (hS.lt hi).2 λe=>vS (by rw[hi,e]);have rS:=N.rows;have rX:=hX.rows;have kl:k<rowsS.length:=(Uh.1 hk).1;have w0:S.Sz (f.cards.drop j)=S.Sz (f.cards.drop (j+1))*c:=by rw[E,eM,Int.mul_comm]
  have h7:=du (l:=f.cards.drop j) λc hc=>hcb c (Vg hc);have h6:=gx (a:=(f.cards.drop j).length) (b:=16) (by simp;omega);have h3:(4:Int) ^ 16=4294967296:=by decide
  have w1:IntKind.wrap .i64 (S.Sz (f.cards.drop (j+1))*c)=S.Sz (f.cards.drop j):=by rw[<-w0,aE (by omega) (by omega)]
  have p:=Ia F hnd hin W;rw[U2]at p;simp only[sz,simprocAttr,sf,z,A,u,B,h15,U,I,rva,u1,u2,rS,kl,hk,rX,u5,ci];refine cP (v:=R) (sz:=1) (n:=1) (i:=yn) (off:=0) (x:=X8 (S.Sz (f.cards.drop (j+1)))) (row':=ci (S.Sz (f.cards.drop (j+1)))) (hX.fr (by simp;omega) λi _=>by simp) u6 rfl rfl rfl λg4 hu4 n4 f4=>?_;rw[<-Vy]at hu4;have w:∀i,i≠iR->g4.h.get i=g.h.get i:=λi hi=>by rw[f4 i (by rw[vR];intro e;injection e with e;exact hi e.symm)];simp
  have h8:g.nx<=g4.nx:=by rw[n4];simp;omega
  simp only[sz,simprocAttr];refine⟨?_,?_⟩
  ·simp only[UQ,UP,UM,UE];exact bf (XJ (XI (true::[]))) [] (by simp[All2,am,aA]) (by decide) (by simp)
  have J:g4.h.get fb=Xs 3 [[va,ca,wa]]:=by rw[w fb n1.2,I]
  simp only[sz,simprocAttr,u,B,h15,J,rca,u3,u4,ci,w1];refine⟨by simp[St,ER,sx,u,A,z,h2,h4,K,L,M],?_,λi h1 h2=>?_,_,hu4.fr (by simp) λi _=>by simp,p⟩
  ·simp;omega
  ·simp only[bumpG_h];rw[w i h2,o i h1 h2]
 ·rintro t df g ⟨rfl,h⟩;exact fin t g h
structure FOk (m:Nat) (f:Factor):Prop where
 cl:f.cards.length=f.vars.length
 vl:f.vars.length<=16
 cb:∀c∈f.cards,1<=c/\c<=4
 nd:f.vars.Nodup
 vr:∀y∈f.vars,0<=y/\y<m
theorem Mh(h:NR n)(hx:n.nodes[k]?=some x)(hp:p<=x.parents.length):FOk n.nodes.length (S.S9 n k x p):=by have h1:=qX (h.places x (Ul hx)) (by omega);have h2:=h.l2;have a:=uf x.parents p (k:Int) hp;exact⟨vZ _ _,by show (S.SS x.parents p (k:Int)).length<=16;omega,Kq h hx p,MK h hx p,Az h hx p⟩
structure AskH (gr:Int) (b fl S_:AV) (m q:Nat) (fs:List Factor) (k:Nat) (g:G):Prop where
 h0:g.h.get 0=Xs 2 [[X8 gr,b]]
 h1:g.h.get 1=Xs 4 [[X8 0,.nils,.nils,.nils]]
 hq:g.h.get q=Xs 4 [[X8 gr,b,fl,S_]]
 q2:2<=q/\q<g.nx
 sq:∀i,vid S_=some i->i<q
 hS:∃(Vs:List AV) (l:List (List Int)),Own g 2 S_ 1 (Vs.map λv=>[v])/\Vs.length=m/\l.length=k/\All2 (λX v=>Own g (q+1) v 1 (X.map ci)) l (Vs.take k)/\∀(i:Nat) (f:Factor) (X:List Int),fs[i]?=some f->l[i]?=some X->S.TP m f 0 X
structure AskJ (gr:Int) (b fl S_:AV) (m q:Nat) (fs:List Factor) (k:Nat) (t:T) (g:G):Prop where
 st:St t [(11,X9 q),(2,X9 0),(4,X9 1),(45,fl)]
 hp:AskH gr b fl S_ m q fs k g
theorem QY[XOc]{m:Nat}{b fl S_:AV}{fs:List Factor}(hb:∀g,jC .slice b g=.val (X8 (m:Int)))(hm:m<=8)(hfl:SlR NoP 0 .nil fs fl)(hfm:fs.length=m)(hok:∀(i:Nat) (f:Factor),fs[i]?=some f->FOk m f)
  (h0:AskJ gr b fl S_ m q fs 0 t g) (h47:tat t 47=X8 0) (h46:tat t 46=X8 (m:Int))
  (fin:∀t g,AskJ gr b fl S_ m q fs m t g->Q (.exit 2) t [] g):wpL (wp C0 d none nh) Q t [] g:=by
 obtain⟨rows,r1,r2,r3,r4⟩:=hfl.all;have r1:∀h',ah h' 3 fl=some rows:=r1;simp only[nh,sW];refine aV (m:=m) (by omega) (λk t df g=>df=[]/\AskJ gr b fl S_ m q fs k t g) ⟨rfl,h0⟩ h47 h46 (by decide)
  (by rintro j t df g v s (rfl|rfl|rfl) ⟨a1,⟨b1,b2,b3,b4,-⟩,c1⟩<;>exact⟨a1,by simp[St,sx,b1,b2,b3,b4],c1⟩) ?_ ?_
 ·rintro k t df g hk ⟨rfl,⟨a,h2,h4,c,-⟩,hp⟩ h47 h46;obtain⟨f,hf,-,-⟩:=ay (l:=fs) (j:=k) (by omega);obtain⟨row,q1,q2⟩:=r3 k f hf;obtain⟨va,ca,wa,rfl,L,Z,hh⟩:=qm.1 q2;have E:=hok k f hf;have hlt:k<rows.length:=by omega
  have he:=r4 (by omega);obtain⟨Vs,l,hS,V,J,Y,h6⟩:=hp.hS;obtain⟨h8,h9⟩:=hp.q2;have ne0:∀i,i<g.nx->¬i=g.nx:=λi hi=>by omega
  refine jy (P:=λt' df g'=>df=[]/\g'=(g.new (Xs 3 [[.nils,.nils,.nils]])).put g.nx (Xs 3 [[va,ca,wa]])/\St t' ((13,X9 g.nx)::(12,X8 (k:Int))::ER fl m q k)) ?_ ?_
  ·simp only[sz,simprocAttr,c,h47,r1,hlt,q1];simp[St,ER,sx,a,h2,h4,c,h47,h46]
  clear a h2 h4 c h47 h46;rintro t df g1 ⟨rfl,D,⟨u,o,a,h2,h4,c,h46,h47,-⟩⟩;have f1:∀i,i<g.nx->g1.h.get i=g.h.get i:=λi hi=>by rw[D];simp[SD,ne0 i hi]
  have n1:g1.nx=g.nx+1:=by rw[D];simp
  have k1:g1.h.get g.nx=Xs 3 [[va,ca,wa]]:=by rw[D];simp[SD]
  clear D;have e0:g1.h.get 0=Xs 2 [[X8 gr,b]]:=by rw[f1 0 (by omega),hp.h0]
  have eq:g1.h.get q=Xs 4 [[X8 gr,b,fl,S_]]:=by rw[f1 q (by omega),hp.hq]
  have C:Own g1 2 S_ 1 (Vs.map λv=>[v]):=hS.fr (by omega) λi hi=>f1 i (hS.lt hi).2;have rS:=C.rows;have h5:k<(Vs.map λv=>[v]).length:=by simp;omega
  have h3:(Vs.map λv=>[v])[k]?=some [Vs[k]'(by omega)]:=by rw[Uo,Uj (by omega)];rfl
  refine i8 (P:=λt' df g'=>df=[]/\St t' ((13,X9 g.nx)::(12,X8 (k:Int))::ER fl m q k)/\g1.nx<g'.nx/\∃R iR,vid R=some iR/\g1.nx<=iR/\iR<g'.nx/\Own g' 2 S_ 1 ((Vs.set k R).map λv=>[v])/\Own g' (q+1) R 1 ((List.replicate m (0:Int)).map ci)/\∀i,i<g1.nx->vid S_≠some i->g'.h.get i=g1.h.get i) ?_ ?_
  ·simp only[sz,simprocAttr,sf,a,h2,o,e0,eq,hb];refine qi (b:=q+1) (n:=m) (by unfold bz;omega) (by unfold bz;omega) (by simp;omega) λR g2 hR n2 f2 vR lg2=>?_;simp only[sy]at n2 f2 vR lg2;have z:Own g2 2 S_ 1 (Vs.map λv=>[v]):=C.fr (by omega) λi hi=>by have:=C.lt hi;rw[f2 i (by omega)]
   have rS2:=z.rows;simp only[sz,simprocAttr,sf,rS2,h5];refine cP (v:=S_) (sz:=1) (n:=1) (i:=k) (off:=0) (x:=R) (row':=[R]) (z.fr (by simp;omega) λi _=>by simp) h3 (by rw[hR.cell.1];rfl) hR.cell.2 (by rw[hR.cell.1];rfl) λg4 hu4 n4 f4=>?_;rw[show (Vs.map λv=>[v]).set k [R]=(Vs.set k R).map λv=>[v] from by rw[Vy]]at hu4;have H:∀i,vid S_≠some i->g4.h.get i=g2.h.get i:=λi hi=>by rw[f4 i hi];simp
   have hl:g2.nx<=g4.nx:=by rw[n4];simp;omega
   simp only[sy,lg2];refine⟨?_,?_,?_,R,g1.nx+6,vR,by omega,?_,?_,?_,λi h1 h2=>?_⟩
   ·simp only[UQ,UP,UM,UE];refine bf (XK (XJ (true::(false::(true::[]))))) [(0,6),(1,6),(2,6)] (by simp[All2,am,aA]) (by decide) ?_;rintro p K x y hx M;simp only[UW,Uu,WK]at K;rcases K with rfl|rfl|rfl<;>(simp at hx M;subst hx;subst M;refine fP rfl rfl rfl rfl ?_ ?_ ?_<;>simp[am,aA,af]<;>omega)
   ·simp[St,ER,sx,u,o,a,h2,h4,c,h46,h47]
   ·omega
   ·omega
   ·exact hu4.fr (by simp) λi _=>by simp
   ·have O:Own g2 (q+1) R 1 ((List.replicate m (0:Int)).map ci):=by simpa [ci] using hR
    refine O.fr (by simp;omega) λi hi=>?_;have:=gA vR hi;simp only[bumpG_h];exact H i λe=>by have:=C.lt e;omega
   ·rw[H i h2,f2 i (by omega)]
  clear u o a h2 h4 c h46 h47;rintro t df g2 ⟨rfl,⟨u,o,a,h2,h4,c,h46,h47,-⟩,n2,R,iR,vR,hd,ha,z,hR,f2⟩;have F:g2.h.get g.nx=Xs 3 [[va,ca,wa]]:=by rw[f2 g.nx (by omega) (λe=>by have:=hp.sq _ e;omega),k1]
  have N:g2.h.get q=Xs 4 [[X8 gr,b,fl,S_]]:=by rw[f2 q (by omega) (λe=>by have:=hp.sq _ e;omega),eq]
  have lva:=L.len;have hg:=E.vl;have U:Own g2 2 R 1 ((List.replicate m (0:Int)).map ci):=Own.low hR (by omega);have w1:IntKind.wrap .i64 ((f.vars.length:Int) - 1)=(f.vars.length:Int) - 1:=aE (by omega) (by omega);have I:((Vs.set k R).map λv=>[v])[k]?=some [R]:=by rw[Uo,Vx (by omega)];rfl
  simp only[sz,simprocAttr,u,F,lva,w1];refine QX (g0:=g2) (fl:=fl) (fl':=fl) (m:=m) (q:=q) (k:=k) (fb:=g.nx) (iR:=iR) (R:=R) (S_:=S_) (b:=b) (gr:=gr) (va:=va) (ca:=ca) (wa:=wa) (f:=f) (rowsS:=(Vs.set k R).map λv=>[v]) L Z E.cl E.vl E.cb E.nd E.vr N F z I vR (λe=>by have:=hp.sq _ e;omega) ⟨by omega,by omega⟩ ⟨by omega,by omega,by omega⟩
   ⟨by simp[St,ER,sx,u,o,a,h2,h4,c,h46,h47,S.Sz,WT (show f.cards.length<=f.vars.length by rw[E.cl];exact Ui _)],Ui _,λ_ _ _=>rfl,List.replicate m 0,U,by simp,λj y hj M=>?_⟩ (by simp[sx]) ?_
  ·have:=(Uh.1 M).1;omega
  clear u o a h2 h4 c h46 h47;rintro t g3 ⟨⟨u,o,hc,a,h2,h4,c,h46,h47,-⟩,n3,f3,X,hX,W⟩;simp only[sx,sy,↓reduceIte];have w:∀i,i<g.nx->vid S_≠some i->g3.h.get i=g.h.get i:=λi h1 h2=>by rw[f3 i (by omega) (by omega),f2 i (by omega) h2,f1 i h1]
  refine⟨⟨by simp[St,a,h2,h4,c],?_⟩,h47,h46⟩;have hsl:∀i,i<2\/i=q->vid S_≠some i:=λi hi e=>by have:=hp.sq i e;have:=(hS.lt e).1;omega
  refine⟨by rw[w 0 (by omega) (hsl 0 (by omega)),hp.h0],by rw[w 1 (by omega) (hsl 1 (by omega)),hp.h1],by rw[w q h9 (hsl q (by omega)),hp.hq],⟨h8,by omega⟩,hp.sq,Vs.set k R,l++[X],z.fr n3 λi hi=>f3 i (z.lt hi).2 λe=>by have:=hp.sq i hi;omega,by simpa using V,by simp[J],?_,?_⟩
  ·have h7:(Vs.set k R).take (k+1)=Vs.take k++[R]:=by
    rw[Ws,List.take_set_of_le (Ui _),Vx (by omega)]
    rfl
   rw[h7];refine (Y.mono λX' v r=>?_).append ⟨?_,trivial⟩
   ·exact r.fr (by omega) λi hi=>by have:=r.lt hi;exact w i this.2 λe=>by have:=hp.sq i e;omega
   ·rcases hX with h|⟨id,ep,lo,p1,p2,rfl,p4⟩
    ·exact .inl h
    ·injection vR with vR;exact .inr ⟨id,ep,lo,by omega,p2,rfl,p4⟩
  ·intro i f' X' B A
   by_cases hi:i<l.length
   ·rw[UF hi]at A;exact h6 i f' X' B A
   ·have h1:=(Uh.1 A).1;have:i=k:=by simp at h1;omega
    subst this;rw[hf]at B;injection B with B;subst B;rw[UA (by omega),J,Ve]at A;simp at A;subst A;exact W
 ·rintro t df g ⟨rfl,h⟩;exact fin t g h
theorem PX(n:Net)(ls:List (List Int)):Snb (OF n ls) 2:=mK λy=>bY (m:=2) (dw _) (aG _) (by decide) (by decide)
def qn0:QnM:=(⟨0,[]⟩,[],[])
theorem NV(P:Nat->Prop)(h:H):Agg qn0 P 0 h (.agg [X8 0,.nils,.nils,.nils]):=⟨_,rfl,xf.2 ⟨.nils,.nils,.nils,rfl,⟨by show 0<9223372036854775808;decide,rfl⟩,⟨by show 0<9223372036854775808;decide,rfl⟩,⟨by show 0<9223372036854775808;decide,rfl⟩⟩⟩
theorem Hk{a b c:AV}(h:w.cells=[w])(h2:w.isTup=false)(h3:b.cells=[b])(h4:b.isTup=false):eF [X8 0,.nils,.nils,.nils] [((0,2),.agg [a,c]),((2,1),b),((3,1),w)]=some [a,c,b,w]:=by
 have k:(AV.agg [a,c]).cells=[a,c]:=rfl;have k2:(AV.agg [a,c]).isTup=false:=rfl;simp[eF,h,h2,h3,h4,dP,k,k2]
 rfl
theorem GV[XOc]{kk:Nat}{ls:List (List Int)}(hd:0<d)(hm:Agg n NoP 0 g.h v)(hw:SlR P kk g.h ls w):∃r,ae C0 d 66 [v,w] g=.val r/\OF n ls NoP 0 .nil r:=by
 obtain⟨b,rows,rfl,e1,N,hN,r1,r2,r3,r4⟩:=dt d hm;obtain⟨w',e2,T⟩:=dy hw d;obtain⟨wrows,p1,p2,p3,p4⟩:=(T .nil).all;have p1:∀h',ah h' 1 w'=some wrows:=p1;have hb:=hw.1;have wl:=λg=>(T .nil).len g;rw[zS];refine a_ DT (xs:=[.agg [X8 n.grain,b],w']) (by simp only[aD,e1,e2]) (by simp[sU]) (PX n ls) (by decide) hd ?_;simp only[sz,simprocAttr,sU];obtain⟨g0,hg0⟩:∃g0,g0=(G.empty.new (Xs 2 [[X8 n.grain,b]])).new (Xs 4 [[X8 0,.nils,.nils,.nils]]):=⟨_,rfl⟩;rw[<-hg0];have f0:g0.h.get 0=Xs 2 [[X8 n.grain,b]]:=by rw[hg0];simp[sx,SD]
 have f1:g0.h.get 1=Xs 4 [[X8 0,.nils,.nils,.nils]]:=by rw[hg0];simp[sx]
 have f2:g0.nx=2:=by rw[hg0];simp[sx]
 clear hg0;simp only[uR];obtain⟨z,ez,fs,⟨o,M⟩,fl,er,rfl,a,A⟩:=O0 (d:=d+1) (g:=g0) (UC d) (N g0.h);have A:=ax.1 A;injection A with A;subst A;obtain⟨_,V,a⟩:=a;injection V with V;subst V;cases hn:S.SW n with
 | false =>
  have hs:S.To n ls=50:=by rw[S.To,hn];rfl
  rw[hn]at ez;simp only[VF,↓reduceIte]at ez;simp only[sz,simprocAttr,f0,ez,show ¬((50:Int)=0) from by decide,f1];refine⟨λ_=>True,qn0,?_,_,_,rfl,?_,?_⟩
  ·rw[hs];intro h;cases h
  ·exact NV _ _
  ·rw[hs];exact ax.2 rfl
 | true =>
  have hr:=bw.1 hn;have o:=o hn;rw[hn]at ez;simp only[↓reduceIte]at ez;refine i8 (P:=λt' df g'=>df=[]/\g'=g0/\St t' [(1,w'),(2,X9 0),(4,X9 1),(6,fl),(7,X8 0)]) ?_ ?_
  ·simp only[sz,simprocAttr,f0,ez];simp[St,sx]
  rintro t df g1 ⟨rfl,rfl,h1,h2,h4,B,h7,-⟩;obtain⟨Qf,H⟩:∃Qf,Qf=fnQ C0 (d+1) [SR.cell true 4 4,SR.tm 5] (λv g'=>∃P,OF n ls P 0 g'.h v):=⟨_,rfl⟩;rw[<-H];simp only[sz,simprocAttr,h1,h7,wl,sV];refine aV (m:=ls.length) hb (λj t df g=>df=[]/\St t [(25,w'),(2,X9 0),(4,X9 1),(6,fl)]/\g=g1/\∀e∈ls.take j,S.SL n e=true) ⟨rfl,by simp[St,sx,h2,h4,B],rfl,by simp⟩ (by simp[sx]) (by simp[sx]) (by decide)
   (by rintro j t df g v s (rfl|rfl|rfl) ⟨a1,⟨b1,b2,b3,b4,-⟩,c1,c2⟩<;>exact⟨a1,by simp[St,sx,b1,b2,b3,b4],c1,c2⟩) ?_ ?_
  ·rintro j t df g hj ⟨rfl,⟨u,h2,h4,B,-⟩,rfl,c⟩ J W;obtain⟨e,he,ha,h3⟩:=ay hj;obtain⟨row,q1,q2⟩:=p3 j e he;obtain⟨z,rfl,hz⟩:=jx.1 q2;have hlt:j<wrows.length:=by omega
   have D:=E_ (d:=d+1) (g:=g) (e:=e) (w:=z) (UC d) (N g.h) (hz.tree (h':=g.h) (Ui _));cases hev:S.SL n e with
   | true =>
    have hs:S.SN n e=0:=by rw[S.SN,hn,hev];rfl
    rw[hs]at D;simp only[sz,simprocAttr,u,J,W,h2,p1,hlt,q1,f0,D];refine⟨by simp[St,sx,h2,h4,B,u],λy U=>?_⟩;rw[ha]at U;rcases UL.1 U with h|h
    ·exact c y h
    ·rw[Vc.1 h];exact hev
   | false =>
    have hs:S.SN n e=2:=by rw[S.SN,hn,hev];rfl
    have Q:S.To n ls=2:=by
     have:ls.all (S.SL n)=false:=by rw[<-U5,Uz];intro h;rw[h e h3]at hev;cases hev
     rw[S.To,hn,this];rfl
    rw[hs]at D;rw[H];simp only[sz,simprocAttr,u,J,h2,h4,p1,hlt,q1,f0,f1,D,show ¬((2:Int)=0) from by decide];refine⟨λ_=>True,qn0,?_,_,_,rfl,?_,?_⟩
    ·rw[Q];intro h;cases h
    ·exact NV _ _
    ·rw[Q];exact ax.2 rfl
  ·rintro t df g ⟨rfl,⟨u,h2,h4,B,-⟩,rfl,c⟩;rw[U3]at c;have hs:S.To n ls=0:=by rw[S.To,hn,Uz.2 c];rfl
   have h5:=hr.l2;have fll:=λg=>a.len g;simp only[sx,↓reduceIte];unfold sY;refine i8 (P:=λt' df g'=>df=[]/\∃S_ q,St t' [(2,X9 0),(4,X9 1),(6,fl),(11,X9 q)]/\AskH n.grain b fl S_ n.nodes.length q fs 0 g') ?_ ?_
   ·simp only[sz,simprocAttr,sf,h2,B,f0,fll,o];refine qi (b:=2) (n:=n.nodes.length) (by unfold bz;omega) (by unfold bz;omega) (by first| (simp;done)| (simp;omega)) λS_ g2 hS n2 f2' vS lg2=>?_;simp only[sy]at n2 f2' vS lg2;have F:fl.cells=[fl]/\fl.isTup=false:=by
     have h:=a.2;unfold SlV at h
     split at h<;>first|exact⟨rfl,rfl⟩|exact h.elim
    simp only[sz,simprocAttr,sf,Hk hS.cell.1 hS.cell.2 F.1 F.2,lg2];have hl:g.nx+5=g2.nx:=by omega
    have k0:g2.h.get 0=Xs 2 [[X8 n.grain,b]]:=by rw[f2' 0 (by omega),f0]
    have k1:g2.h.get 1=Xs 4 [[X8 0,.nils,.nils,.nils]]:=by rw[f2' 1 (by omega),f1]
    refine⟨?_,S_,g2.nx+1+1,by simp[St,sx,h2,h4,B],⟨?_,?_,?_,⟨by omega,by simp⟩,λi hi=>by have:=gA vS hi;omega,List.replicate n.nodes.length .nils,[],?_,by simp,rfl,trivial,λi f X _ h=>by simp at h⟩⟩
    ·simp only[UQ,UP,UM,UE,G.new_lg,G.put_lg,setLog_lg];refine bf (XJ (true::(false::(true::(true::[]))))) [(0,4),(1,4),(0,6),(1,6),(2,6),(3,6),(4,6),(5,6)] (by simp[All2,am,aA]) (by decide) ?_;rintro p O x y hx U;simp only[UW,Uu,WK]at O;rcases O with rfl|rfl|rfl|rfl|rfl|rfl|rfl|rfl<;>(simp at hx U;subst hx;subst U;refine fP rfl rfl rfl rfl ?_ ?_ ?_<;>simp[am,aA,af]<;>omega)
    ·simp[SD,k0]
    ·simp[SD,k1]
    ·simp[SD]
    ·have I:Own g2 2 S_ 1 ((List.replicate n.nodes.length AV.nils).map λv=>[v]):=by simpa using hS
     refine I.fr (by simp;omega) λi hi=>?_;have:=gA vS hi;simp[SD,show ¬i=g2.nx+1+1 by omega]
   clear u h2 h4 B;rintro t df g2 ⟨rfl,S_,q,⟨h2,h4,B,C,-⟩,hp⟩;have Z:=hN.len;simp only[sz,simprocAttr,B,fll,o];refine QY (m:=n.nodes.length) (q:=q) (gr:=n.grain) (b:=b) (fl:=fl) (S_:=S_) (fs:=fs) Z h5 a o (λi f hf=>?_) ⟨by simp[St,sx,h2,h4,C],hp⟩ (by simp[sx]) (by simp[sx]) ?_
   ·have hi:=(Uh.1 hf).1;obtain⟨x,hx,-,-⟩:=ay (l:=n.nodes) (j:=i) (by omega);obtain⟨p,h9,E⟩:=M i x hi hx;rw[hf]at E;injection E with E;subst E;exact Mh hr hx h9
   clear h2 h4 B C hp;rintro t g3 ⟨⟨C,h2,h4,hc,-⟩,hp⟩;obtain⟨Vs,l,hS,hg,h8,K,R⟩:=hp.hS;rw[Vm (by omega)]at K;rw[H];have q2:=hp.q2.1;simp only[sz,simprocAttr,sX,C,h4,hp.hq,hp.h1];have hk:∀i,i≠1->(g3.h.put 1 (Xs 4 [[X8 n.grain,b,fl,S_]])).get i=g3.h.get i:=λi hi=>by simp[SD,hi]
   refine⟨λ_=>True,(n,fs,l),λ_=>⟨rfl,o,M,h8,R⟩,_,_,rfl,⟨_,rfl,xf.2 ⟨b,fl,S_,rfl,hN.wide (Ui 0),a.wide (Ui 0),?_⟩⟩,?_⟩
   ·have I:Own (g3.put 1 (Xs 4 [[X8 n.grain,b,fl,S_]])) 2 S_ 1 (Vs.map λv=>[v]):=hS.fr (by simp) λi hi=>by have:=(hS.lt hi).1;simp[SD,show ¬i=1 by omega]
    refine Own.sl (α:=List Int) I (by show l.length<_;omega) ?_ λ_ _=>trivial;have L:∀(l:List (List Int)) (Vs:List AV),All2 (λX v=>Own g3 (q+1) v 1 (X.map ci)) l Vs->(∀X∈l,X.length<9223372036854775808)->All2 (Rp.rp (λ_=>True) 0 (g3.put 1 (Xs 4 [[X8 n.grain,b,fl,S_]])).h) l (Vs.map λv=>[v]):=by
     intro l
     induction l with
     | nil=>intro Vs h _;cases Vs with
      |nil=>trivial
      |cons v Vs=>exact h.elim
     | cons X l ih=>intro Vs h hX;cases Vs with
      |nil=>exact h.elim
      | cons v Vs =>
       refine⟨?_,ih Vs h.2 λY hY=>hX Y (by simp[hY])⟩;have ho:Own (g3.put 1 (Xs 4 [[X8 n.grain,b,fl,S_]])) (q+1) v 1 (X.map ci):=h.1.fr (by simp) λi hi=>by have:=(h.1.lt hi).1;simp[SD,show ¬i=1 by omega]
       obtain⟨_,e1,hh⟩:=ho.ints (k:=0) (hX X (by simp));exact jx.2 ⟨_,e1,hh⟩
    refine L l Vs K λX hX=>?_;obtain⟨i,hi,he⟩:=VD.1 hX;have:=(R i _ X (Uj (show i<fs.length by omega)) (by rw[Uj hi,he])).1;omega
   ·rw[hs];exact ax.2 rfl
end
end Hx
