/- A part of the proof: an interpreter over abstract values, shown right against the model, and what the functions of the chapter compute on it. -/
import Derived.Test.YteaikmdilmfbeaaGreatHx11
set_option linter.unusedVariables false
set_option linter.unusedSimpArgs false
set_option linter.unnecessarySimpa false
section
namespace Hx
open Go
section
variable {p:List Nat}
theorem AI:G2 p 0:=⟨λv _ hb=>by simp at hb,λv _ hb=>by simp at hb⟩
theorem CY {q:Nat}(ih:G2 p q){j:Nat}(hj:j<64)(hd:Sub (Par p j) q):G2 p (q ||| S.O9 j):=by
 refine ⟨λv hv hb=>?_,λv hv hb=>?_⟩
 ·intro u hu;rw[rt,xQ hj,Bool.or_eq_true,decide_eq_true_eq] at hb;rw[rt,Bool.or_eq_true];rcases hb with hb | hb
  ·exact .inl (ih.1 v hv hb u hu)
  ·subst hb;exact .inl (hd u hu)
 ·rw[rt,xQ hj,Bool.or_eq_true,decide_eq_true_eq] at hb;cases hq:q.testBit v
  ·rw[hq] at hb;simp at hb;subst hb;rw[<-Bool.not_eq_true];intro hu;have:=Fj ih.1 hd p.length j hu;rw[hq] at this;cases this
  ·exact ih.2 v hv hq
theorem tW {q:Nat}(h:G2 p q)(hf:∀v,v<p.length->q.testBit v=true):S.Pb p=true :=
 xM.2 λv hv=>h.2 v hv (hf v hv)
theorem Be (hp:∀x∈p,x<2 ^ p.length)(h:S.Pb p=true){T:Nat}(hst:∀v,v<p.length->T.testBit v=false->¬Sub (Par p v) T):∀v,v<p.length->T.testBit v=true:=by
 rw[xM] at h;have none:∀r v,v<p.length->T.testBit v=false->S.up p (Par p v) p.length=r->False:=by
  intro r
  induction r using Nat.strongRecOn with
  | _ r ih =>
   intro v hv hb hr;have hns:=hst v hv hb;have:∃u,(Par p v).testBit u=true/\T.testBit u=false:=by
    apply Classical.byContradiction;intro hno;apply hns;intro u hu;cases hc:T.testBit u
    ·exact absurd ⟨u,hu,hc⟩ hno
    ·rfl
   obtain ⟨u,hu,hub⟩:=this;have hul:u<p.length:=KE (ES hp) hu;have hcl:=H6 hp (s:=Par p v) (ES hp);have hin:(S.up p (Par p v) p.length).testBit u=true:=Cd _ u hu;have hsub:Sub (S.up p (Par p u) p.length) (S.up p (Par p v) p.length):=Fj hcl (hcl u hul hin) _;have hlt:S.up p (Par p u) p.length<S.up p (Par p v) p.length:=by refine Nat.lt_of_le_of_ne (NM hsub) λe=>?_;have:=h u hul;rw[e,hin] at this;cases this
   exact ih _ (by omega) u hul hub rfl
 intro v hv;cases hc:T.testBit v
 ·exact (none _ v hv hc rfl).elim
 ·rfl
end
end Hx
end
section
namespace Hx
open Go
theorem zb:∀a b:List Int,S.OH (a++b)=S.OH a*S.OH b
 | [],b=>by simp[S.OH]
 | x::a,b=>by rw[List.cons_append,cM,cM,zb a b,Int.mul_assoc]
theorem Bw:∀{a va:List Int} (b vb:List Int),a.length=va.length->S.OK (a++b) (va++vb)=S.OK a va*S.OH b+S.OK b vb
 | [],[],b,vb,_=>by simp[S.OK]
 | [],_::_,_,_,h=>by simp at h
 | _::_,[],_,_,h=>by simp at h
 | c::a,v::va,b,vb,h=>by rw[List.cons_append,List.cons_append,S.OK,S.OK,Bw b vb (by simpa using h),zb,Int.add_mul,Int.mul_assoc];omega
theorem Dz:∀{cs vs:List Int} (a:Int),(∀c∈cs,1<=c)->InC cs vs->S.Pg cs (a*S.OH cs+S.OK cs vs)=a
 | [],[],a,_,_=>by simp[S.Pg,S.OH,S.OK]
 | [],_::_,_,_,h=>by cases h
 | _::_,[],_,_,h=>by cases h
 | c::cs,v::vs,a,hc,h=>by
  obtain ⟨⟨h1,h2⟩,h3⟩:=h;have ih:=Dz (cs:=cs) (vs:=vs) (a*c+v) (λx hx=>hc x (by simp[hx])) h3;have e:a*S.OH (c::cs)+S.OK (c::cs) (v::vs)=(a*c+v)*S.OH cs+S.OK cs vs:=by rw[cM,S.OK,Int.add_mul,Int.mul_assoc];omega
  rw[e];show S.Pg cs _ / c=a;rw[ih,Int.add_comm,Int.add_mul_ediv_right _ _ (by omega),Int.ediv_eq_zero_of_lt h1 h2];omega
theorem Ay:∀{cs vs:List Int} (a:Int) (i:Nat),(∀c∈cs,1<=c)->InC cs vs->i<cs.length->S.Pc cs (a*S.OH cs+S.OK cs vs) i=vs[i]?.getD 0
 | [],_,_,_,_,_,hi=>by simp at hi
 | _::_,[],_,_,_,h,_=>by cases h
 | c::cs,v::vs,a,i,hc,h,hi=>by
  obtain ⟨⟨h1,h2⟩,h3⟩:=h;have hc':∀x∈cs,1<=x:=λx hx=>hc x (by simp[hx]);have e:a*S.OH (c::cs)+S.OK (c::cs) (v::vs)=(a*c+v)*S.OH cs+S.OK cs vs:=by rw[cM,S.OK,Int.add_mul,Int.mul_assoc];omega
  rw[e];cases i with
  | zero =>
   show S.Pg cs _ % c=v;rw[Dz _ hc' h3,Int.add_comm,Int.add_mul_emod_self_right,Int.emod_eq_of_lt h1 h2]
  | succ i =>
   have:=Ay (a*c+v) i hc' h3 (by simpa using hi);simpa [S.Pc] using this
theorem Fk {cs vs:List Int}(hc:∀c∈cs,1<=c)(h:InC cs vs):S.ON cs (S.OK cs vs)=vs:=by
 have hl:=h.len;refine List.ext_getElem (by simp[S.ON,hl]) λi h1 h2=>?_;have hi:i<cs.length:=by simpa [S.ON] using h1
 have:=Ay 0 i hc h hi;rw[Int.zero_mul,Int.zero_add,List.getElem?_eq_getElem h2,Option.getD_some] at this;simp[S.ON,this]
theorem lK {cs:List Int}(hc:∀c∈cs,1<=c)(h:Int):InC cs (S.ON cs h):=by refine Bz (by simp[S.ON]) λi c v h1 h2=>?_;have hi:=(List.getElem?_eq_some_iff.1 h1).1;rw[S.ON,List.getElem?_map,List.getElem?_range hi,Option.map_some,Option.some.injEq] at h2;have hcc:=hc c (List.mem_of_getElem? h1);rw[<-h2,S.Pc,h1,Option.getD_some];exact ⟨Int.emod_nonneg _ (by omega),Int.emod_lt_of_pos _ (by omega)⟩
theorem pq (cs:List Int)(h:Int):(S.ON cs h).length=cs.length:=by simp[S.ON]
theorem AU:∀{cs:List Int},(∀c∈cs,1<=c)->1<=S.OH cs
 | [],_=>by decide
 | c::cs,h=>by rw[cM];have h1:=h c (by simp);have h2:=AU (cs:=cs) λx hx=>h x (by simp[hx]);exact Int.le_trans h1 (by have:=Int.mul_le_mul_of_nonneg_left h2 (show 0<=c by omega);omega)
theorem yH:∀(cs:List Int) (n:Nat),S.OK cs (List.replicate n 0)=0
 | [],n=>by cases n<;>rfl
 | _::_,0=>rfl
 | c::cs,n+1=>by rw[List.replicate_succ,S.OK,yH cs n];simp
theorem By:∀{cs vs:List Int},cs.length=vs.length->(∀(i:Nat) (c:Int),cs[i]?=some c->vs[i]?.getD 0=c - 1)->S.OK cs vs=S.OH cs - 1
 | [],[],_,_=>by decide
 | [],_::_,h,_=>by simp at h
 | _::_,[],h,_=>by simp at h
 | c::cs,v::vs,hl,h=>by
  have h0:=h 0 c rfl;have ih:=By (cs:=cs) (vs:=vs) (by simpa using hl) λi x hx=>by have:=h (i+1) x (by simpa using hx);simpa using this
  simp at h0;rw[S.OK,ih,cM,h0,Int.sub_mul];omega
theorem Jb {cs vs:List Int}(hl:cs.length=vs.length){i:Nat}{x:Int}(hi:vs[i]?=some x)(hm:∀(j:Nat) (c:Int),i<j->cs[j]?=some c->vs[j]?.getD 0=c - 1) :
  S.OK cs (vs.take i++(x+1)::List.replicate (vs.length - (i+1)) 0)=S.OK cs vs+1:=by
 have hil:=(List.getElem?_eq_some_iff.1 hi).1;obtain ⟨c,hc⟩:∃c,cs[i]?=some c:=⟨_,List.getElem?_eq_getElem (by omega)⟩;have e1:cs=cs.take i++c::cs.drop (i+1):=by have:=List.drop_eq_getElem_cons (l:=cs) (i:=i) (by omega);rw[List.getElem?_eq_getElem (by omega),Option.some.injEq] at hc;rw[<-hc,<-this,List.take_append_drop]
 have e2:vs=vs.take i++x::vs.drop (i+1):=by have:=List.drop_eq_getElem_cons (l:=vs) (i:=i) hil;rw[List.getElem?_eq_getElem hil,Option.some.injEq] at hi;rw[<-hi,<-this,List.take_append_drop]
 have hlt:(cs.take i).length=(vs.take i).length:=by simp[hl]
 have hmx:S.OK (cs.drop (i+1)) (vs.drop (i+1))=S.OH (cs.drop (i+1)) - 1:=by refine By (by simp[hl]) λj d hj=>?_;rw[List.getElem?_drop] at hj ⊢;exact hm _ d (by omega) hj
 have h1:S.OK cs vs=S.OK (cs.take i) (vs.take i)*S.OH (c::cs.drop (i+1))+(x*S.OH (cs.drop (i+1))+S.OK (cs.drop (i+1)) (vs.drop (i+1))):=by
  conv=>lhs;rw[e1,e2,Bw _ _ hlt,S.OK]
 have h2:S.OK cs (vs.take i++(x+1)::List.replicate (vs.length - (i+1)) 0)=S.OK (cs.take i) (vs.take i)*S.OH (c::cs.drop (i+1))+((x+1)*S.OH (cs.drop (i+1))+0):=by
  conv=>lhs;rw[e1,Bw _ _ hlt,S.OK,yH]
 rw[h2,h1,hmx,Int.add_mul];omega
end Hx
end
section
namespace Hx
open Go
def S.OG (n:Net):List Int:=n.nodes.map (·.card)
def S.OJ (cs ps:List Int):List Int:=ps.map λp=>cs[p.toNat]?.getD 0
def S.OO (n:Net):List Nat:=n.nodes.map λx=>S.OP x.parents
def S.OW (gr card:Int)(r:List Int):Bool:=decide ((r.length:Int)=card)&&r.all (λx=>decide (0<=x)&&decide (x<=gr))&&decide (r.sum=gr)
def S.Pf (k:Int)(x:Node):Bool:=decide (1<=x.card)&&decide (x.card<=4)&&S.OS x.parents k
def S.Ps (n:Net)(x:Node):Bool:=decide ((x.rows.length:Int)=S.OH (S.OJ (S.OG n) x.parents))&&x.rows.all (S.OW n.grain x.card)
def S.O2 (n:Net):Bool:=decide (1<=n.grain)&&decide (n.grain<=60)&&decide (1<=n.nodes.length)&&decide (n.nodes.length<=8)&&n.nodes.all (S.Pf n.nodes.length)&&decide (S.OH (S.OG n)<=1024)&&S.Pb (S.OO n)&&n.nodes.all (S.Ps n)
structure NR (n:Net):Prop where
 g1:1<=n.grain
 g2:n.grain<=60
 l1:1<=n.nodes.length
 l2:n.nodes.length<=8
 card:∀x∈n.nodes,1<=x.card/\x.card<=4
 places:∀x∈n.nodes,S.OS x.parents n.nodes.length=true
 worlds:S.OH (S.OG n)<=1024
 acyc:S.Pb (S.OO n)=true
 rows:∀x∈n.nodes,(x.rows.length:Int)=S.OH (S.OJ (S.OG n) x.parents)
 row:∀x∈n.nodes,∀r∈x.rows,(r.length:Int)=x.card/\(∀y∈r,0<=y/\y<=n.grain)/\r.sum=n.grain
theorem fL {n:Net}:S.O2 n=true↔NR n:=by
 simp only[S.O2,S.Pf,S.Ps,S.OW,Bool.and_eq_true,decide_eq_true_eq,List.all_eq_true];constructor
 ·rintro ⟨⟨⟨⟨⟨⟨⟨a,b⟩,c⟩,d⟩,e⟩,f⟩,g⟩,h⟩;exact ⟨a,b,c,d,λx hx=>(e x hx).1,λx hx=>(e x hx).2,f,g,λx hx=>(h x hx).1,λx hx r hr=>⟨((h x hx).2 r hr).1.1,((h x hx).2 r hr).1.2,((h x hx).2 r hr).2⟩⟩
 ·rintro ⟨a,b,c,d,e1,e2,f,g,h1,h2⟩;exact ⟨⟨⟨⟨⟨⟨⟨a,b⟩,c⟩,d⟩,λx hx=>⟨e1 x hx,e2 x hx⟩⟩,f⟩,g⟩,λx hx=>⟨h1 x hx,λr hr=>⟨⟨(h2 x hx r hr).1,(h2 x hx r hr).2.1⟩,(h2 x hx r hr).2.2⟩⟩⟩
theorem dP {l:List Int}{k:Int}(h:S.OS l k=true):∀x∈l,0<=x/\x<k:=by
 intro x hx;obtain ⟨i,hi,he⟩:=List.mem_iff_getElem.1 hx;have:=List.all_eq_true.1 h i (List.mem_range.2 hi);have e:l[i]?.getD 0=x:=by rw[List.getElem?_eq_getElem hi,he];rfl
 simp only[S.O4,Bool.and_eq_true,decide_eq_true_eq,e] at this;omega
theorem y9 {l:List Int}{k:Int}(h:S.OS l k=true){i:Nat}{x y:Int}(hx:l[i]?=some x)(hy:l[i+1]?=some y):x<y:=by have hi:=(List.getElem?_eq_some_iff.1 hy).1;have:=List.all_eq_true.1 h (i+1) (List.mem_range.2 hi);simp only[S.O4,Bool.and_eq_true,decide_eq_true_eq,hy,Option.getD_some,Nat.add_sub_cancel,hx] at this;simp at this;omega
theorem iE {l:List Int}{k:Int}(h:S.OS l k=true)(hk:0<=k):(l.length:Int)<=k:=by
 have key:∀(i:Nat) (x:Int),l[i]?=some x->(i:Int)<=x:=by
  intro i
  induction i with
  | zero=>intro x hx;have:=dP h x (List.mem_of_getElem? hx);omega
  | succ i ih =>
   intro x hx;have hi:=(List.getElem?_eq_some_iff.1 hx).1;have h1:=ih l[i] (List.getElem?_eq_getElem (by omega));have:=y9 h (List.getElem?_eq_getElem (show i<l.length by omega)) hx;omega
 by_cases hl:l.length=0
 ·omega
 ·have h1:=key (l.length - 1) l[l.length - 1] (List.getElem?_eq_getElem (by omega));have h2:=dP h _ (List.getElem_mem (show l.length - 1<l.length by omega));omega
theorem NR.cs {n:Net}(h:NR n):∀c∈S.OG n,1<=c/\c<=4:=λc hc=>by obtain ⟨x,hx,rfl⟩:=List.mem_map.1 hc;exact h.card x hx
theorem aG (n:Net):(S.OG n).length=n.nodes.length:=by simp[S.OG]
theorem gU {cs ps:List Int}(hc:∀c∈cs,1<=c/\c<=4)(hp:∀p∈ps,0<=p/\p<cs.length):∀c∈S.OJ cs ps,1<=c/\c<=4:=λc h=>by obtain ⟨p,h1,rfl⟩:=List.mem_map.1 h;have h2:=hp p h1;rw[List.getElem?_eq_getElem (by omega),Option.getD_some];exact hc _ (List.getElem_mem _)
theorem tK {cs ps vals:List Int}(h:InC cs vals)(hp:∀p∈ps,0<=p/\p<cs.length):InC (S.OJ cs ps) (S.OJ vals ps):=by refine Bz (by simp[S.OJ]) λi c v h1 h2=>?_;simp only[S.OJ,List.getElem?_map,Option.map_eq_some_iff] at h1 h2;obtain ⟨p,h3,rfl⟩:=h1;obtain ⟨p',h4,rfl⟩:=h2;rw[h3] at h4;injection h4 with h4;subst h4;have h5:=hp p (List.mem_of_getElem? h3);have h6:cs[p.toNat]?=some cs[p.toNat]:=List.getElem?_eq_getElem (by omega);obtain ⟨v,h7,h8⟩:=h.get h6;rw[h6,h7,Option.getD_some,Option.getD_some];exact h8
theorem ET (cs a b:List Int):S.OJ cs (a++b)=S.OJ cs a++S.OJ cs b:=by simp[S.OJ]
def S.O3 (n:Net)(vals:List Int)(v:Nat):Int:=match n.nodes[v]? with
 | none=>1
 | some x=>(x.rows[(S.OK (S.OJ (S.OG n) x.parents) (S.OJ vals x.parents)).toNat]?.getD [])[(vals[v]?.getD 0).toNat]?.getD 0
def S.Py (n:Net)(vals:List Int):Int:=S.OH ((List.range n.nodes.length).map (S.O3 n vals))
theorem NR.pin {n:Net}(h:NR n){x:Node}(hx:x∈n.nodes):∀p∈x.parents,0<=p/\p<(S.OG n).length:=λp hp=>by rw[aG];exact dP (h.places x hx) p hp
theorem yC {n:Net}(h:NR n){vals:List Int}(hv:InC (S.OG n) vals){v:Nat}{x:Node}(hx:n.nodes[v]?=some x) :
  ∃(i:Nat) (r:List Int) (c y:Int),S.OK (S.OJ (S.OG n) x.parents) (S.OJ vals x.parents)=(i:Int)/\i<x.rows.length/\x.rows[i]?=some r/\vals[v]?=some c/\0<=c/\c<x.card/\r[c.toNat]?=some y/\S.O3 n vals v=y/\0<=y/\y<=n.grain:=by
 have hm:=List.mem_of_getElem? hx;have hi:=iD (gU h.cs (h.pin hm)) (tK hv (h.pin hm));rw[<-h.rows x hm] at hi;obtain ⟨i,he⟩:=Int.eq_ofNat_of_zero_le hi.1;have hil:i<x.rows.length:=by omega
 have hc:(S.OG n)[v]?=some x.card:=by simp[S.OG,hx]
 obtain ⟨c,h1,h2,h3⟩:=hv.get hc;obtain ⟨r1,r2,-⟩:=h.row x hm x.rows[i] (List.getElem_mem hil);have hcl:c.toNat<(x.rows[i]).length:=by omega
 refine ⟨i,x.rows[i],c,(x.rows[i])[c.toNat],he,hil,List.getElem?_eq_getElem hil,h1,h2,h3,List.getElem?_eq_getElem hcl,?_,r2 _ (List.getElem_mem hcl)⟩;simp only[S.O3,hx,he,h1,Int.toNat_natCast,List.getElem?_eq_getElem hil,Option.getD_some,List.getElem?_eq_getElem hcl]
theorem uJ:∀{l:List Int},(∀x∈l,0<=x/\x<=60)->0<=S.OH l/\S.OH l<=60 ^ l.length
 | [],_=>by decide
 | x::l,h=>by have h1:=uJ (l:=l) λy hy=>h y (by simp[hy]);have h2:=h x (by simp);rw[cM,List.length_cons,Int.pow_succ,Int.mul_comm x];refine ⟨Int.mul_nonneg h1.1 h2.1,Int.le_trans (Int.mul_le_mul_of_nonneg_left h2.2 h1.1) (Int.mul_le_mul_of_nonneg_right h1.2 (by decide))⟩
theorem Oi {k:Nat}(h:k<=8):(60:Int) ^ k<=167961600000000:=by
 have hk:k=0\/k=1\/k=2\/k=3\/k=4\/k=5\/k=6\/k=7\/k=8:=by omega
 rcases hk with rfl | rfl | rfl | rfl | rfl | rfl | rfl | rfl | rfl<;>decide
theorem Hn {n:Net}(h:NR n){vals:List Int}(hv:InC (S.OG n) vals){v:Nat}(hi:v<n.nodes.length):0<=S.O3 n vals v/\S.O3 n vals v<=60:=by obtain ⟨i,r,c,y,-,-,-,-,-,-,-,e,a,b⟩:=yC h hv (List.getElem?_eq_getElem hi);have:=h.g2;omega
theorem nh {n:Net}(h:NR n){vals:List Int}(hv:InC (S.OG n) vals){j:Nat}(hj:j<=n.nodes.length):0<=S.OH ((List.range j).map (S.O3 n vals))/\S.OH ((List.range j).map (S.O3 n vals))<=167961600000000:=by
 have h1:=uJ (l:=(List.range j).map (S.O3 n vals)) λx hx=>by obtain ⟨i,hi,rfl⟩:=List.mem_map.1 hx;exact Hn h hv (by have:=List.mem_range.1 hi;omega)
 have h2:=Oi (k:=((List.range j).map (S.O3 n vals)).length) (by have:=h.l2;simp;omega);omega
theorem tT (n:Net)(vals:List Int)(j:Nat):S.OH ((List.range (j+1)).map (S.O3 n vals))=S.OH ((List.range j).map (S.O3 n vals))*S.O3 n vals j:=by rw[List.range_succ,List.map_append,List.map_singleton,rU]
def S.OQ (n:Net)(p:Nat->Bool):Nat->Int
 | 0=>0
 | j+1=>S.OQ n p j+if p j then S.Py n (S.ON (S.OG n) (j:Int)) else 0
theorem mZ {n:Net}(h:NR n){vals:List Int}(hv:InC (S.OG n) vals):0<=S.Py n vals/\S.Py n vals<=167961600000000:=nh h hv (Nat.le_refl _)
theorem po {n:Net}(h:NR n)(p:Nat->Bool):∀j:Nat,0<=S.OQ n p j/\S.OQ n p j<=167961600000000*j
 | 0=>by simp[S.OQ]
 | j+1=>by
  have ih:=po h p j;have hw:=mZ h (lK (λc hc=>(h.cs c hc).1) (j:Int));rw[S.OQ]
  split<;>omega
def S.OL (n:Net):Nat:=(S.OH (S.OG n)).toNat
def S.Pe (n:Net)(e:List Int):Int:=S.OQ n (λw=>S.O8 (S.ON (S.OG n) (w:Int)) e) (S.OL n)
theorem NR.wl {n:Net}(h:NR n):1<=S.OL n/\S.OL n<=1024/\((S.OL n:Nat):Int)=S.OH (S.OG n):=by have h1:=AU λc hc=>(h.cs c hc).1;have h2:=h.worlds;unfold S.OL;omega
theorem wC {n:Net}(h:NR n)(e:List Int):0<=S.Pe n e/\S.Pe n e<=171992678400000000:=by have h1:=po h (λw=>S.O8 (S.ON (S.OG n) (w:Int)) e) (S.OL n);have h2:=h.wl;unfold S.Pe;omega
def S.O0 (n:Net)(e:List Int):Bool:=decide (e.length=n.nodes.length)&&(List.range e.length).all λv=>decide (-1<=e[v]?.getD 0)&&decide (e[v]?.getD 0<(S.OG n)[v]?.getD 0)
def S.OY (n:Net)(e:List Int):Int:=if S.O2 n then (if S.O0 n e then 0 else 2) else 50
end Hx
end
section
namespace Hx
open Go
section
variable {b card:Nat}
def S.PJ (b card p:Nat):Nat:=p / (b*card)*b+p % b
def S.PK (b card p:Nat):Nat:=p / b % card
def S.PX (rows:List (List Int))(b card t:Nat):List Int:=(List.range (rows.length*card)).map λp=>if S.PJ b card p*card+S.PK b card p<t then (rows[S.PJ b card p]?.getD [])[S.PK b card p]?.getD 0 else 0
def S.PY (rows:List (List Int))(b card:Nat):List Int:=(List.range (rows.length*card)).map λp=>(rows[S.PJ b card p]?.getD [])[S.PK b card p]?.getD 0
end
def S.PO (ps:List Int)(k:Nat)(v:Int):List Int:=ps.take k++v::ps.drop k
end Hx
end
section
namespace Hx
open Go
noncomputable section
abbrev Bb:Type:=UInt8×UInt8×List UInt8
abbrev sT:Type:=UInt8×List Bb×List UInt8
abbrev jA:Type:=UInt8×UInt8×UInt8×Int
theorem AZ {P:Nat->Prop}{k:Nat}{h:H}{x:Bb}{cs:List AV}:Rp.rp P k h x cs↔∃a,cs=[u8v x.1,u8v x.2.1,a]/\SlR P k h x.2.2 a:=by
 constructor
 ·rintro ⟨c1,c2,rfl,h1,c3,c4,rfl,h2,⟨a,rfl,h4⟩⟩;rw[du.1 h1,du.1 h2];exact ⟨a,rfl,h4⟩
 ·rintro ⟨a,rfl,h4⟩;exact ⟨[_],[_,a],rfl,du.2 rfl,[_],[a],rfl,du.2 rfl,⟨a,rfl,h4⟩⟩
theorem vY {P:Nat->Prop}{k:Nat}{h:H}{x:sT}{cs:List AV}:Rp.rp P k h x cs↔∃a b,cs=[u8v x.1,a,b]/\SlR P k h x.2.1 a/\SlR P k h x.2.2 b:=by
 constructor
 ·rintro ⟨c1,c2,rfl,h1,c3,c4,rfl,⟨a,rfl,ha⟩,⟨b,rfl,hb⟩⟩;rw[du.1 h1];exact ⟨a,b,rfl,ha,hb⟩
 ·rintro ⟨a,b,rfl,ha,hb⟩;exact ⟨[_],[a,b],rfl,du.2 rfl,[a],[b],rfl,⟨a,rfl,ha⟩,⟨b,rfl,hb⟩⟩
theorem ze {P:Nat->Prop}{k:Nat}{h:H}{x:jA}{cs:List AV}:Rp.rp P k h x cs↔cs=[u8v x.1,u8v x.2.1,u8v x.2.2.1,.int .i64 x.2.2.2]:=by
 constructor
 ·rintro ⟨c1,c2,rfl,h1,c3,c4,rfl,h2,c5,c6,rfl,h3,h4⟩;rw[du.1 h1,du.1 h2,du.1 h3,aL.1 h4];rfl
 ·rintro rfl;exact ⟨[_],[_,_,_],rfl,du.2 rfl,[_],[_,_],rfl,du.2 rfl,[_],[_],rfl,du.2 rfl,aL.2 rfl⟩
theorem JX {d k k2:Nat}{g:G}{P P2:Nat->Prop}{v w:AV}{l p:List Int}(hd:0<d)(hv:SlR P k g.h l v)(hw:SlR P2 k2 g.h p w)(hp:p.length<1073741824)(hin:∀x∈p,0<=x/\x<l.length) :
  ∃r,am C0 d N.O7 [v,w] g=.val r/\IT 0 (S.OJ l p) r:=by
 obtain ⟨v',e1,r1⟩:=be hv d;obtain ⟨w',e2,r2⟩:=be hw d;rw[zE];refine aX CL (xs:=[v',w']) (by simp only[aE,e1,e2]) (by simp[tv]) (aS _) (by decide) hd ?_;simp only[sz,simprocAttr,tv];have n2:=λg=>(r2 .nil).len g;have ra:∀h',ah h' 1 v'=some (l.map ci):=λh'=>(r1 h').ints;have rb:∀h',ah h' 1 w'=some (p.map ci):=λh'=>(r2 h').ints;refine mz (v:=w') (m:=p.length) (by omega) n2 (λj t df g=>df=[]/\St t [(0,v')]/\∃u,tat t 5=u/\Own g 0 u 1 ((S.OJ l (p.take j)).map ci)) ⟨rfl,by simp[St,sx],_,rfl,.inl ⟨by simp[sx],by simp[S.OJ]⟩⟩ (by simp[sx]) (by simp[sx]) (by decide)
  (by rintro j t df g v s (rfl | rfl | rfl | rfl | rfl | rfl | rfl)<;>simp[sx,St]) ?_ ?_
 ·rintro j t df g1 hj ⟨rfl,⟨h0,-⟩,u,h5,hu⟩ h6 h1;obtain ⟨x,hx,htk,hm⟩:=ae hj;obtain ⟨hx0,hxl⟩:=hin x hm;obtain ⟨n,rfl⟩:=Int.eq_ofNat_of_zero_le hx0;have hn:n<l.length:=by omega
  simp only[sz,simprocAttr,ra,rb,h0,h1,h5,h6,hx,hj,hn,List.length_map,List.getElem?_map,Option.map_some,ci,List.getElem?_eq_getElem hn];refine aU (new:=[ci l[n]]) (hu.step (Fr.new _ _)) (by simp[sx,sy,ci]) (by simp) (by simp[aP,S.OJ];omega) λv2 g2 hv2 n2 f2 _ l2=>?_;simp only[sz,simprocAttr,h0,h1,h6,St];refine ⟨_,rfl,?_⟩;rw[htk];simpa [hn,ci,S.OJ] using hv2
 ·rintro t df g1 ⟨rfl,⟨h0,-⟩,u,h5,hu⟩ -;rw[List.take_length] at hu;simp only[sz,simprocAttr,sK,h5];exact ⟨_,hu.ints (by simp[S.OJ];omega)⟩
theorem vX {d k:Nat}{g:G}{P:Nat->Prop}{v:AV}{n:Net}(hd:0<d)(hm:Agg n P k g.h v)(hn:n.nodes.length<1073741824) :
  ∃r,am C0 d N.OV [v] g=.val r/\IT 0 (S.OG n) r:=by
 obtain ⟨v',e,cs,rfl,hc⟩:=jl (ch n) (by decide) d hm;obtain ⟨b,rfl,hN⟩:=cg.1 hc;obtain ⟨rows,r1,r2,r3,r4⟩:=hN.all;have r1:∀h',ah h' 3 b=some rows:=r1;rw[vq];refine aX yv (xs:=[.agg [.int .i64 n.grain,b]]) (by simp only[aE,e]) (by simp[mO]) (aS _) (by decide) hd ?_;simp only[sz,simprocAttr,mO,pE,nJ];refine bp n.nodes.length (by omega) (λj t df g=>df=[]/\tat t 1=.hptr 0 0 0 0/\g.h.get 0=.cells 2 [[.int .i64 n.grain,b]] 0 false false/\1<=g.nx/\∃u,tat t 3=u/\Own g 1 u 1 (((n.nodes.take j).map (·.card)).map ci))
  ⟨rfl,by simp[sx],by simp[sx],by simp[sx],_,rfl,.inl ⟨by simp[sx],rfl⟩⟩ (by simp[sx]) (by decide)
  (by rintro j t df g v s (rfl | rfl | rfl)<;>simp[sx]) ?_ ?_ ?_
 ·rintro j t df g hj ⟨rfl,h1,hg,hnx,u,h3,hu⟩ h4;simp only[sz,simprocAttr,h1,h4,hg,hN.len];exact ⟨hnx,u,h3,hu⟩
 ·rintro j t df g hj ⟨rfl,h1,hg,hnx,u,h3,hu⟩ h4;obtain ⟨x,hx,htk,hm⟩:=ae hj;obtain ⟨row,q1,q2⟩:=r3 j x hx;obtain ⟨a',b',rfl,ha',-⟩:=bI.1 q2;have hlt:j<rows.length:=by omega
  have hry:=r4 (by omega);simp only[sz,simprocAttr,h1,h3,h4,hg,r1,hlt,q1,hry];refine aU (new:=[ci x.card]) (hu.step (Fr.new _ _)) (by simp[sx,sy,ci]) (by simp) (by simp[aP];omega) λv2 g2 hv2 n2 f2 _ l2=>?_;simp only[sz,simprocAttr,h1,h4];refine ⟨?_,?_,_,rfl,?_⟩
  ·rw[f2 0 (by simp) (λe=>by have:=(hu.lt e).1;omega),G.new_h,aq _ _ _ (by omega),hg]
  ·simp at n2;omega
  ·rw[htk];simpa [ci] using hv2
 ·rintro t df g ⟨rfl,h1,hg,hnx,u,h3,hu⟩;rw[List.take_length] at hu;simp only[sz,simprocAttr,nK,h3];exact ⟨_,hu.ints (by simp;omega)⟩
theorem JV {d k:Nat}{g:G}{P:Nat->Prop}{v:AV}{n:Net}(hd:0<d)(hm:Agg n P k g.h v)(hn:n.nodes.length<1073741824)(hp:∀x∈n.nodes,∀y∈x.parents,0<=y/\y<18446744073709551616) :
  ∃r,am C0 d N.Pv [v] g=.val r/\UT 0 (S.OO n) r:=by
 obtain ⟨v',e,cs,rfl,hc⟩:=jl (ch n) (by decide) d hm;obtain ⟨b,rfl,hN⟩:=cg.1 hc;obtain ⟨rows,r1,r2,r3,r4⟩:=hN.all;have r1:∀h',ah h' 3 b=some rows:=r1;rw[pQ];refine aX sB (xs:=[.agg [.int .i64 n.grain,b]]) (by simp only[aE,e]) (by simp[fH]) (aS _) (by decide) hd ?_;simp only[sz,simprocAttr,fH,iZ];refine bp n.nodes.length (by omega) (λj t df g=>df=[]/\tat t 1=.hptr 0 0 0 0/\g.h.get 0=.cells 2 [[.int .i64 n.grain,b]] 0 false false/\1<=g.nx/\∃u,tat t 3=u/\Own g 1 u 1 (((n.nodes.take j).map λx=>S.OP x.parents).map cu))
  ⟨rfl,by simp[sx],by simp[sx],by simp[sx],_,rfl,.inl ⟨by simp[sx],rfl⟩⟩ (by simp[sx]) (by decide)
  (by rintro j t df g v s (rfl | rfl | rfl)<;>simp[sx]) ?_ ?_ ?_
 ·rintro j t df g hj ⟨rfl,h1,hg,hnx,u,h3,hu⟩ h4;simp only[sz,simprocAttr,h1,h4,hg,hN.len];exact ⟨hnx,u,h3,hu⟩
 ·rintro j t df g hj ⟨rfl,h1,hg,hnx,u,h3,hu⟩ h4;obtain ⟨x,hx,htk,hm⟩:=ae hj;obtain ⟨row,q1,q2⟩:=r3 j x hx;obtain ⟨a',b',rfl,ha',-⟩:=bI.1 q2;have hlt:j<rows.length:=by omega
  have hry:=r4 (by omega);simp only[sz,simprocAttr];refine bp x.parents.length ha'.1 (λi t df g'=>df=[]/\St t [(1,.hptr 0 0 0 0),(4,.int .i64 j),(3,u),(5,.int .u64 (S.OP (x.parents.take i):Int))]/\g'=g)
   ⟨rfl,by simp[sx,St,S.OP,h1,h3,h4],rfl⟩ (by simp[sx]) (by decide)
   (by rintro j t df g v s (rfl | rfl | rfl)<;>simp[sx,St]) ?_ ?_ ?_
  ·rintro i t df g' hi ⟨rfl,⟨h1,h4,h3,h5,-⟩,rfl⟩ h6;simp only[sz,simprocAttr,h1,h3,h4,h5,h6,hg,r1,hlt,q1,hry,ha'.len,St]
  ·rintro i t df g' hi ⟨rfl,⟨h1,h4,h3,h5,-⟩,rfl⟩ h6;obtain ⟨y,hy,htk2,hm2⟩:=ae hi;obtain ⟨hy0,hy1⟩:=hp x hm y hm2;obtain ⟨n,rfl⟩:=Int.eq_ofNat_of_zero_le hy0;simp only[sz,simprocAttr,h1,h3,h4,h5,h6,hg,r1,hlt,q1,hry,(ha'.tree (h':=g'.h) (Nat.le_refl _)).ints,hi,hy,List.length_map,List.getElem?_map,Option.map_some,ci,sn hy0 hy1,qd,Bg _ _ (rQ _) (u7 _),St];rw[htk2,AQ];rfl
  ·rintro t df g' ⟨rfl,⟨h1,h4,h3,h5,-⟩,rfl⟩;rw[List.take_length] at h5;simp only[sz,simprocAttr,ic,h3,h5];refine aU (new:=[cu (S.OP x.parents)]) (hu.step (Fr.new _ _)) (by simp[sx,sy,cu]) (by simp) (by simp[aP];omega) λv2 g2 hv2 n2 f2 _ l2=>?_;simp only[sz,simprocAttr,h1,h4];refine ⟨?_,?_,_,rfl,?_⟩
   ·rw[f2 0 (by simp) (λe=>by have:=(hu.lt e).1;omega),G.new_h,aq _ _ _ (by omega),hg]
   ·simp at n2;omega
   ·rw[htk];simpa [cu] using hv2
 ·rintro t df g ⟨rfl,h1,hg,hnx,u,h3,hu⟩;rw[List.take_length] at hu;simp only[sz,simprocAttr,ie,h3];exact ⟨_,hu.nats (by simp;omega) (by simp only[List.mem_map];rintro x ⟨y,-,rfl⟩;exact rQ _)⟩
theorem vV {d k:Nat}{g:G}{P:Nat->Prop}{v:AV}{n:Net}{i:Nat}{x:Node}(hd:0<d)(hm:Agg n P k g.h v)(hn:n.nodes.length<1073741824)(hx:n.nodes[i]?=some x)(hl:x.parents.length<1073741824)(hin:∀p∈x.parents,0<=p/\p<n.nodes.length) :
  ∃r,am C0 d N.OW [v,.int .i64 (i:Int)] g=.val r/\IT 0 (S.OJ (S.OG n) x.parents) r:=by
 obtain ⟨v',e,cs,rfl,hc⟩:=jl (ch n) (by decide) d hm;have hc':=hc;obtain ⟨b,rfl,hN⟩:=cg.1 hc;have hm':∀h,Agg n NoP (max k d) h (.agg [.int .i64 n.grain,b]):=λh=>⟨_,rfl,Rp.tree hc' (Nat.le_refl _)⟩;obtain ⟨rows,r1,r2,r3,r4⟩:=hN.all;have r1:∀h',ah h' 3 b=some rows:=r1;obtain ⟨row,q1,q2⟩:=r3 i x hx;obtain ⟨a',b',rfl,ha',-⟩:=bI.1 q2;have hil:=(List.getElem?_eq_some_iff.1 hx).1;have hlt:i<rows.length:=by omega
 have hry:=r4 (by omega);rw[oI];refine aX qq (xs:=[.agg [.int .i64 n.grain,b],.int .i64 (i:Int)]) (by simp only[aE,e,bD 0]) (by simp[eS]) (aS _) (by decide) hd ?_;simp only[sz,simprocAttr,eS,ib];refine a_ (vX (Nat.succ_pos d) (hm' _) hn) λrc hrc=>?_;have hat:=λg=>JX (d:=d+1) (g:=g) (P:=NoP) (P2:=NoP) (k:=0) (k2:=max k d) (l:=S.OG n) (p:=x.parents) (Nat.succ_pos d) (hrc.sl g.h) (ha'.tree (h':=g.h) (Nat.le_refl _)) hl (λp hp=>by rw[aG];exact hin p hp);simp only[sz,simprocAttr,r1,hlt,q1,hry];refine a_ (hat _) λr hr=>?_;simp only[sz,simprocAttr];obtain ⟨w,hw,hs⟩:=hr;exact ⟨_,w,hw,hs.tree (Nat.le_refl _)⟩
theorem zf {d k:Nat}{g:G}{P:Nat->Prop}{v:AV}{l:List Int}(hd:0<d)(hv:SlR P k g.h l v):am C0 d N.OK [v] g=.val (.int .i64 (S.Pd l)):=by have b:=Ga hv.ints;have:=L_ hd (Hw hv.ints) (by rw[b];exact hv.1);rwa [b] at this
theorem zh {d k:Nat}{g:G}{P:Nat->Prop}{v:AV}{n:Net}(hd:0<d)(hm:Agg n P k g.h v)(hr:NR n):am C0 d N.Pb [v] g=.val (.int .i64 (S.OL n:Int)):=by have hl2:=hr.l2;obtain ⟨v',e,cs,rfl,hc⟩:=jl (ch n) (by decide) d hm;have hm':∀h,Agg n NoP (max k d) h (.agg cs):=λh=>⟨_,rfl,Rp.tree hc (Nat.le_refl _)⟩;obtain ⟨b,rfl,hN⟩:=cg.1 hc;rw[ug];refine dE xe (xs:=[.agg [.int .i64 n.grain,b]]) (by simp only[aE,e]) (by simp[kZ]) hd ?_;simp only[sz,simprocAttr,kZ,nT];refine a_ (vX (Nat.succ_pos d) (hm' _) (by omega)) λrc hrc=>?_;have hs:=λg=>zf (d:=d+1) (g:=g) (P:=NoP) (k:=0) (Nat.succ_pos d) (hrc.sl g.h);rw[se hr.cs (by rw[aG];omega),<-hr.wl.2.2] at hs;simp only[sz,simprocAttr,hs]
theorem tN {d k:Nat}{g:G}{P:Nat->Prop}{v:AV}{n:Net}{w:Nat}(hd:0<d)(hm:Agg n P k g.h v)(hr:NR n)(hw:w<9223372036854775808):∃r,am C0 d N.OX [v,.int .i64 (w:Int)] g=.val r/\IT 0 (S.ON (S.OG n) (w:Int)) r:=by have hl2:=hr.l2;obtain ⟨v',e,cs,rfl,hc⟩:=jl (ch n) (by decide) d hm;have hm':∀h,Agg n NoP (max k d) h (.agg cs):=λh=>⟨_,rfl,Rp.tree hc (Nat.le_refl _)⟩;obtain ⟨b,rfl,hN⟩:=cg.1 hc;rw[ue];refine aX xa (xs:=[.agg [.int .i64 n.grain,b],.int .i64 (w:Int)]) (by simp only[aE,e,bD 0]) (by simp[kX]) (aS _) (by decide) hd ?_;simp only[sz,simprocAttr,kX,nR];refine a_ (vX (Nat.succ_pos d) (hm' _) (by omega)) λrc hrc=>?_;simp only[sz,simprocAttr];refine a_ (H7 (d:=d+1) (P:=NoP) (k:=0) (l:=S.OG n) (h:=(w:Int)) (Nat.succ_pos d) (hrc.sl _) (by rw[aG];omega) (λc hc=>by have:=hr.cs c hc;omega) ⟨Int.natCast_nonneg w,by omega⟩) λr hr2=>?_;simp only[sz,simprocAttr];obtain ⟨w,hw,hs⟩:=hr2;exact ⟨_,w,hw,hs.tree (Nat.le_refl _)⟩
theorem fj {g:G}{v:AV}{n:Net}(d:Nat)(hm:Agg n NoP 0 g.h v):∃b rows,v=.agg [.int .i64 n.grain,b]/\Hx.snap g.h d aB v=some v/\(∀h,Agg n NoP 0 h v)/\SlR NoP 0 .nil n.nodes b/\(∀h,ah h 3 b=some rows)/\rows.length=n.nodes.length /\
  (∀(i:Nat) (x:Node),n.nodes[i]?=some x->∃pa ra,rows[i]?=some [.int .i64 x.card,pa,ra]/\i<rows.length/\SlR NoP 0 .nil x.parents pa/\SlR NoP 0 .nil x.rows ra)/\(0<n.nodes.length->jS b=true):=by
 have e:=iS d hm;obtain ⟨cs,rfl,hc⟩:=hm;have hc':=hc;obtain ⟨b,rfl,hN⟩:=cg.1 hc;have hN:=hN.tree (h':=.nil) (Nat.le_refl _);obtain ⟨rows,r1,r2,r3,r4⟩:=hN.all;refine ⟨b,rows,rfl,e,λh=>⟨_,rfl,Rp.tree hc' (Nat.le_refl _)⟩,hN,r1,r2,λi x hx=>?_,r4⟩;obtain ⟨row,q1,q2⟩:=r3 i x hx;obtain ⟨a',b',rfl,ha',hb'⟩:=bI.1 q2;exact ⟨a',b',q1,by rw[r2];exact (List.getElem?_eq_some_iff.1 hx).1,ha',hb'⟩
theorem xB {k:Nat}{l:List (List Int)}{b:AV}(hb:SlR NoP k .nil l b):∃rows:List (List AV),(∀h,ah h 1 b=some rows)/\rows.length=l.length/\(∀(i:Nat) (r:List Int),l[i]?=some r->∃z,rows[i]?=some [z]/\i<rows.length/\SlR NoP k .nil r z)/\(0<l.length->jS b=true):=by obtain ⟨rows,r1,r2,r3,r4⟩:=hb.all;refine ⟨rows,r1,r2,λi r hr=>?_,r4⟩;obtain ⟨row,q1,q2⟩:=r3 i r hr;obtain ⟨z,rfl,hz⟩:=da.1 q2;exact ⟨z,q1,by rw[r2];exact (List.getElem?_eq_some_iff.1 hr).1,hz⟩
theorem L5 {d k2:Nat}{g:G}{P2:Nat->Prop}{v w:AV}{n:Net}{i j:Nat}{x:Node}{r:List Int}{vals:List Int}(hd:0<d)(hm:Agg n NoP 0 g.h v)(hr:NR n)(hx:n.nodes[i]?=some x)(hw:SlR P2 k2 g.h vals w)(hv:InC (S.OG n) vals)
  (hj:S.OK (S.OJ (S.OG n) x.parents) (S.OJ vals x.parents)=(j:Int)) (hrr:x.rows[j]?=some r):∃z,am C0 d N.Px [v,.int .i64 (i:Int),w] g=.val z/\IT 0 r z:=by
 obtain ⟨w',e2,hw'⟩:=be hw d;obtain ⟨b,rows,rfl,e,hm',hN,r1,r2,r3,r4⟩:=fj d hm;have hxm:=List.mem_of_getElem? hx;obtain ⟨pa,ra,q1,hlt,hpa,hra⟩:=r3 i x hx;obtain ⟨rr,s1,s2,s3,s4⟩:=xB hra;obtain ⟨z,q2,hlt2,hz⟩:=s3 j r hrr;have hl2:=hr.l2;have hpl:=iE (hr.places x hxm) (by omega);have hpin:=hr.pin hxm;have hil:=(List.getElem?_eq_some_iff.1 hx).1;have hry:=r4 (by omega);have hry2:=s4 (by omega);rw[xY];refine aX Br (xs:=[.agg [.int .i64 n.grain,b],.int .i64 (i:Int),w']) (by simp only[aE,e,e2,bD 0]) (by simp[qJ]) (aS _) (by decide) hd ?_;simp only[sz,simprocAttr,qJ,sL,r1,hlt,q1,hry];refine a_ (vV (Nat.succ_pos d) (hm' _) (by omega) hx (by omega) (λp hp=>by have:=hpin p hp;rw[aG] at this;exact this)) λrc hrc=>?_;simp only[sz,simprocAttr,r1,hlt,q1,hry];refine a_ (JX (d:=d+1) (P:=NoP) (P2:=NoP) (k:=max k2 d) (k2:=0) (l:=vals) (p:=x.parents) (Nat.succ_pos d) (hw' _) (hpa.tree (Nat.le_refl _)) (by omega) (λp hp=>by have:=hpin p hp;rw[<-hv.len] at this;exact this)) λrv hrv=>?_;have hix:=λg=>Jf (d:=d+1) (g:=g) (P:=NoP) (P2:=NoP) (k:=0) (k2:=0) (cards:=S.OJ (S.OG n) x.parents) (vals:=S.OJ vals x.parents) (Nat.succ_pos d) (hrc.sl g.h) (hrv.sl g.h) (by simp[S.OJ];omega) (gU hr.cs hpin) (tK hv hpin);rw[hj] at hix;simp only[sz,simprocAttr,hix,s1,q2,hlt2];exact ⟨_,z,rfl,hz.tree (Nat.le_refl _)⟩
theorem zg {d:Nat}{g:G}{v:AV}{n:Net}{w:Nat}(hd:0<d)(hm:Agg n NoP 0 g.h v)(hr:NR n)(hw:w<9223372036854775808):am C0 d N.OL [v,.int .i64 (w:Int)] g=.val (.int .i64 (S.Py n (S.ON (S.OG n) (w:Int)))):=by
 obtain ⟨b,rows,rfl,e,hm',hN,r1,r2,r3,r4⟩:=fj d hm;have hv:=lK (λc hc=>(hr.cs c hc).1) (w:Int);have hvl:=pq (S.OG n) (w:Int);rw[aG] at hvl;have hl2:=hr.l2;rw[uf];refine dE xd (xs:=[.agg [.int .i64 n.grain,b],.int .i64 (w:Int)]) (by simp only[aE,e,bD 0]) (by simp[kY]) hd ?_;simp only[sz,simprocAttr,kY,nS];refine a_ (tN (d:=d+1) (P:=NoP) (k:=0) (w:=w) (Nat.succ_pos d) (hm' _) hr hw) λrv hrv=>?_;simp only[sz,simprocAttr,mb];generalize S.ON (S.OG n) (w:Int)=vals at *;refine bp n.nodes.length (by omega) (λj t df g=>df=[]/\St t [(2,.hptr 0 0 0 0),(5,rv),(6,.int .i64 (S.OH ((List.range j).map (S.O3 n vals))))]/\g.h.get 0=.cells 2 [[.int .i64 n.grain,b]] 0 false false)
  ⟨rfl,by simp[St,sx,S.OH],by simp[sx]⟩ (by simp[sx]) (by decide) (by rintro j t df g v s (rfl | rfl | rfl)<;>simp[St,sx]) ?_ ?_ ?_
 ·rintro j t df g hj ⟨rfl,⟨h2,h5,h6,-⟩,hg⟩ h7;simp only[sz,simprocAttr,h2,h5,h6,h7,hg,hN.len,St]
 ·rintro j t df g hj ⟨rfl,⟨h2,h5,h6,-⟩,hg⟩ h7;obtain ⟨x,hx,-,-⟩:=ae hj;obtain ⟨i,r,c,y,f1,f2,f3,f4,f5,f6,f7,f8,-,-⟩:=yC hr hv hx;obtain ⟨c,rfl⟩:=Int.eq_ofNat_of_zero_le f5;rw[Int.toNat_natCast] at f7;have ri:=λh=>hrv.rows h;have u1:j<(vals.map ci).length:=by rw[List.length_map];omega
  have u2:(vals.map ci)[j]?=some (ci (c:Int)):=by rw[List.getElem?_map,f4];rfl
  have wb:=nh hr hv (j:=j+1) (by omega);rw[tT,f8] at wb;have w1:IntKind.wrap .i64 (S.OH ((List.range j).map (S.O3 n vals))*y)=S.OH ((List.range (j+1)).map (S.O3 n vals)):=by rw[tT,f8,ay (by omega) (by omega)]
  simp only[sz,simprocAttr,h2,h5,h6,h7,hg];refine a_ (L5 (d:=d+1) (P2:=NoP) (k2:=0) (i:=j) (Nat.succ_pos d) (hm' _) hr hx (hrv.sl _) hv f1 f3) λz hz=>?_;have rz:=λh=>hz.rows h;have u3:c<(r.map ci).length:=by rw[List.length_map];exact (List.getElem?_eq_some_iff.1 f7).1
  have u4:(r.map ci)[c]?=some (ci y):=by rw[List.getElem?_map,f7];rfl
  simp only[sz,simprocAttr,h2,h5,h7,hg,ri,rz,u1,u2,u3,u4,ci,St,w1]
 ·rintro t df g ⟨rfl,⟨h2,h5,h6,-⟩,hg⟩;simp only[sz,simprocAttr,mc,h6]
  rfl
theorem J7 {d k2:Nat}{g:G}{P2:Nat->Prop}{v w:AV}{n:Net}{e:List Int}(hd:0<d)(hm:Agg n NoP 0 g.h v)(hr:NR n)(he:SlR P2 k2 g.h e w)(hel:e.length=n.nodes.length):am C0 d N.Pu [v,w] g=.val (.int .i64 (S.Pe n e)):=by
 obtain ⟨w',e2,hw'⟩:=be he d;obtain ⟨b,rows,rfl,e1,hm',hN,r1,r2,r3,r4⟩:=fj d hm;have hl2:=hr.l2;obtain ⟨wl1,wl2,wl3⟩:=hr.wl;rw[wT];refine dE zQ (xs:=[.agg [.int .i64 n.grain,b],w']) (by simp only[aE,e1,e2]) (by simp[oZ]) hd ?_;simp only[sz,simprocAttr,oZ,qH,pF,pG];refine bp (S.OL n) (by omega) (λj t df g=>df=[]/\St t [(1,w'),(2,.hptr 0 0 0 0),(5,.int .i64 (S.OQ n (λw=>S.O8 (S.ON (S.OG n) (w:Int)) e) j))]/\g.h.get 0=.cells 2 [[.int .i64 n.grain,b]] 0 false false)
  ⟨rfl,by simp[St,sx,S.OQ],by simp[sx]⟩ (by simp[sx]) (by decide) (by rintro j t df g v s (rfl | rfl | rfl)<;>simp[St,sx]) ?_ ?_ ?_
 ·rintro j t df g hj ⟨rfl,⟨h1,h2,h5,-⟩,hg⟩ h6;have hw:=λg=>zh (d:=d+1) (g:=g) (P:=NoP) (k:=0) (Nat.succ_pos d) (hm' g.h) hr;simp only[sz,simprocAttr,h1,h2,h5,h6,hg,hw,St]
 ·rintro j t df g hj ⟨rfl,⟨h1,h2,h5,-⟩,hg⟩ h6;simp only[sz,simprocAttr,h2,h6,hg];refine a_ (tN (d:=d+1) (P:=NoP) (k:=0) (w:=j) (Nat.succ_pos d) (hm' _) hr (by omega)) λrv hrv=>?_;have hma:=λg=>wF (d:=d+1) (g:=g) (P:=NoP) (P2:=NoP) (k:=0) (k2:=max k2 d) (vals:=S.ON (S.OG n) (j:Int)) (e:=e) (Nat.succ_pos d) (hrv.sl g.h) (hw' g.h) (by rw[pq,aG,hel]);have sb:=po hr (λw=>S.O8 (S.ON (S.OG n) (w:Int)) e) (j+1);cases hmt:S.O8 (S.ON (S.OG n) (j:Int)) e with
  | true =>
   have hwt:=λg=>zg (d:=d+1) (g:=g) (w:=j) (Nat.succ_pos d) (hm' g.h) hr (by omega);rw[hmt] at hma;have w1:IntKind.wrap .i64 (S.OQ n (λw=>S.O8 (S.ON (S.OG n) (w:Int)) e) j+S.Py n (S.ON (S.OG n) (j:Int)))=S.OQ n (λw=>S.O8 (S.ON (S.OG n) (w:Int)) e) (j+1):=by
    have e1:S.OQ n (λw=>S.O8 (S.ON (S.OG n) (w:Int)) e) (j+1)=S.OQ n (λw=>S.O8 (S.ON (S.OG n) (w:Int)) e) j+S.Py n (S.ON (S.OG n) (j:Int)):=by rw[S.OQ,hmt];rfl
    rw[<-e1,ay (by omega) (by omega)]
   simp only[sz,simprocAttr,h1,h2,h5,h6,hg,hma,hwt,St,w1]
  | false =>
   rw[hmt] at hma;have e1:S.OQ n (λw=>S.O8 (S.ON (S.OG n) (w:Int)) e) (j+1)=S.OQ n (λw=>S.O8 (S.ON (S.OG n) (w:Int)) e) j:=by rw[S.OQ,hmt];simp
   simp only[sz,simprocAttr,h1,h2,h5,h6,hg,hma,St,e1]
 ·rintro t df g ⟨rfl,⟨h1,h2,h5,-⟩,hg⟩;simp only[sz,simprocAttr,pH,h5]
  rfl
theorem J3 {d k k2:Nat}{g:G}{P P2:Nat->Prop}{v w:AV}{n:Net}{e:List Int}(hd:0<d)(hm:Agg n P k g.h v)(he:SlR P2 k2 g.h e w):am C0 d N.Ps [v,w] g=.val (.bool (S.O0 n e)):=by
 obtain ⟨w',e2,hw'⟩:=be he d;obtain ⟨v',e1,cs,rfl,hc⟩:=jl (ch n) (by decide) d hm;obtain ⟨b,rfl,hN⟩:=cg.1 hc;obtain ⟨rows,r1,r2,r3,r4⟩:=hN.all;have r1:∀h',ah h' 3 b=some rows:=r1;have n2:=λg=>(hw' .nil).len g;have rb:=λh=>(hw' h).ints;rw[sw];refine ej um (xs:=[.agg [.int .i64 n.grain,b],w']) (by simp only[aE,e1,e2]) (by simp[eH]) hd ?_;have hle:=he.1
 by_cases hl:e.length=n.nodes.length
 ·simp only[sz,simprocAttr,eH,fG,jJ,n2,hN.len,hl];refine bp e.length hle (λj t df g=>df=[]/\St t [(1,w'),(2,.hptr 0 0 0 0)]/\g.h.get 0=.cells 2 [[.int .i64 n.grain,b]] 0 false false/\((List.range j).all λv=>decide (-1<=e[v]?.getD 0)&&decide (e[v]?.getD 0<(S.OG n)[v]?.getD 0))=true)
   ⟨rfl,by simp[St,sx],by simp[sx],by simp⟩ (by simp[sx]) (by decide) (by rintro j t df g v s (rfl | rfl | rfl)<;>simp[St,sx]) ?_ ?_ ?_
  ·rintro j t df g hj ⟨rfl,⟨h1,h2,-⟩,hg,ha⟩ h5;simp only[sz,simprocAttr,h1,h2,h5,hg,n2,St,ha]
  ·rintro j t df g hj ⟨rfl,⟨h1,h2,-⟩,hg,ha⟩ h5;obtain ⟨y,hy,-,-⟩:=ae hj;obtain ⟨x,hx,-,-⟩:=ae (l:=n.nodes) (j:=j) (by omega);obtain ⟨row,q1,q2⟩:=r3 j x hx;obtain ⟨a',b',rfl,-,-⟩:=bI.1 q2;have hlt:j<rows.length:=by omega
   have hry:=r4 (by omega);have u1:j<(e.map ci).length:=by simpa using hj
   have u2:(e.map ci)[j]?=some (ci y):=by rw[List.getElem?_map,hy];rfl
   have hc1:(S.OG n)[j]?.getD 0=x.card:=by simp[S.OG,hx]
   have hst:((List.range (j+1)).all λv=>decide (-1<=e[v]?.getD 0)&&decide (e[v]?.getD 0<(S.OG n)[v]?.getD 0))=(decide (-1<=y)&&decide (y<x.card)):=by rw[List.range_succ,List.all_append,ha,hc1.symm];simp[hy]
   have bad:(decide (-1<=y)&&decide (y<x.card))=false->S.O0 n e=false:=λh=>by
    rw[S.O0];have:((List.range e.length).all λv=>decide (-1<=e[v]?.getD 0)&&decide (e[v]?.getD 0<(S.OG n)[v]?.getD 0))=false:=by rw[<-Bool.not_eq_true,List.all_eq_true];intro h2;have:=h2 j (List.mem_range.2 hj);rw[hy,Option.getD_some,hc1,h] at this;cases this
    rw[this,Bool.and_false]
   by_cases c1:y < -1
   ·have:=bad (by simp;omega);simp only[sz,simprocAttr,h1,h5,rb,u1,u2,ci,c1,this]
   ·by_cases c2:x.card<=y
    ·have:=bad (by simp;omega);simp only[sz,simprocAttr,h1,h2,h5,hg,rb,r1,hlt,q1,hry,u1,u2,ci,c1,c2,this]
    ·simp only[sz,simprocAttr,h1,h2,h5,hg,rb,r1,hlt,q1,hry,u1,u2,ci,c1,c2,St,hst];simp;omega
  ·rintro t df g ⟨rfl,⟨h1,h2,-⟩,hg,ha⟩;simp only[sz,simprocAttr,jK];rw[S.O0,ha,hl];simp
 ·have hlI:¬((e.length:Int)=(n.nodes.length:Int)):=by omega
  simp only[sz,simprocAttr,eH,fG,n2,hN.len,hlI];rw[S.O0];simp[hl]
section
variable {d:Nat}{b pa ra z:AV}{gr card:Int}{r:List Int}
def LR5 (v:Nat)(q:Nat):List (Nat×AV):=[(1,.hptr 0 0 0 0),(6,.int .i64 (v:Int)),(7,.hptr q 0 0 0)]
structure RJ1 (gr:Int) (r:List Int) (v q i j:Nat) (t:T):Prop where
 st:St t ((8,.int .i64 (i:Int))::LR5 v q)
 s9:tat t 9=.int .i64 (r.take j).sum
 all:∀y∈r.take j,0<=y/\y<=gr
structure RJ4 (gr card:Int) (rws:List (List Int)) (v q j:Nat) (t:T):Prop where
 st:St t (LR5 v q)
 all:∀r∈rws.take j,S.OW gr card r=true
structure RJ0 (n:Net) (b:AV) (j:Nat) (t:T) (g:G):Prop where
 st:St t [(1,.hptr 0 0 0 0),(3,.int .i64 (S.OH ((S.OG n).take j)))]
 hg:g.h.get 0=.cells 2 [[.int .i64 n.grain,b]] 0 false false
 nx:1<=g.nx
 all:∀x∈n.nodes.take j,S.Pf n.nodes.length x=true
structure RJ6 (n:Net) (b:AV) (j:Nat) (t:T) (g:G):Prop where
 st:St t [(1,.hptr 0 0 0 0)]
 hg:g.h.get 0=.cells 2 [[.int .i64 n.grain,b]] 0 false false
 nx:1<=g.nx
 all:∀x∈n.nodes.take j,S.Ps n x=true
theorem J4 {Q:QT}{rr:List (List AV)}{v q i:Nat}{t:T}{g:G}(s1:∀h,ah h 1 ra=some rr)(s2:rr[i]?=some [z])(s3:i<rr.length)(s4:jS ra=true)(hz:SlR NoP 0 .nil r z)(hl:r.length<=4)(hg1:1<=gr/\gr<=60)
  (ht:St t ((8,.int .i64 (i:Int))::LR5 v q)) (h9:tat t 9=.int .i64 0) (h10:tat t 10=.int .i64 0) (e0:g.h.get 0=.cells 2 [[.int .i64 gr,b]] 0 false false) (eq:g.h.get q=.cells 3 [[.int .i64 card,pa,ra]] 0 false false)
  (bad:∀t,(∃y∈r,¬(0<=y/\y<=gr))->tat t 2=.bool false->Q .ret t [] g) (fin:∀t,(∀y∈r,0<=y/\y<=gr)->St t ((8,.int .i64 (i:Int))::LR5 v q)->tat t 9=.int .i64 r.sum->Q (.exit 6) t [] g) :
  wpL (wp C0 d none iv) Q t [] g:=by
 have n1:=λg=>hz.len g;have rz:=λh=>(hz.tree (h':=h) (Nat.le_refl 0)).ints;simp only[iv];refine bp r.length (by omega) (λj t df g'=>df=[]/\g'=g/\RJ1 gr r v q i j t)
  ⟨rfl,rfl,ht,by simp[h9],by simp⟩ h10 (by decide) (by rintro j t df g v s (rfl | rfl | rfl) ⟨a1,a2,⟨b1,b2,b3,b4,-⟩,b5,b6⟩<;>exact ⟨a1,a2,by simp[St,LR5,sx,b1,b2,b3,b4],by simp[sx,b5],b6⟩) ?_ ?_ ?_
 ·rintro j t df g' hj ⟨rfl,rfl,⟨⟨h8,h1,h6,h7,-⟩,h9,ha⟩⟩ h10;simp only[sz,simprocAttr,h7,h8,h10,eq,s1,s2,s3,n1];exact ⟨by simp[St,LR5,sx,h1,h6,h7,h8],by simp[sx,h9],ha⟩
 ·rintro j t df g' hj ⟨rfl,rfl,⟨⟨h8,h1,h6,h7,-⟩,h9,ha⟩⟩ h10;obtain ⟨y,hy,htk,hm⟩:=ae hj;have u1:j<(r.map ci).length:=by simpa using hj
  have u2:(r.map ci)[j]?=some (ci y):=by rw[List.getElem?_map,hy];rfl
  by_cases c1:y<0
  ·simp only[sz,simprocAttr,h7,h8,h10,eq,s1,s2,s3,rz,u1,u2,ci,c1];exact bad _ ⟨y,hm,by omega⟩ (by simp[sx])
  ·by_cases c2:gr<y
   ·simp only[sz,simprocAttr,h1,h7,h8,h10,e0,eq,s1,s2,s3,rz,u1,u2,ci,c1,c2];exact bad _ ⟨y,hm,by omega⟩ (by simp[sx])
   ·have hall:∀x∈r.take (j+1),0<=x/\x<=gr:=λx hx=>by
     rw[htk] at hx;rcases List.mem_append.1 hx with h | h
     ·exact ha x h
     ·rw[List.mem_singleton.1 h];omega
    have hsb:=A4 (b:=60) (by decide) (l:=r.take (j+1)) λx hx=>by have:=hall x hx;omega
    have hl4:(r.take (j+1)).length<=4:=by rw[List.length_take];omega
    have w1:IntKind.wrap .i64 ((r.take j).sum+y)=(r.take (j+1)).sum:=by
     have e1:(r.take (j+1)).sum=(r.take j).sum+y:=by rw[htk,uP]
     rw[<-e1,ay (by omega) (by omega)]
    simp only[sz,simprocAttr,h1,h7,h8,h9,h10,e0,eq,s1,s2,s3,rz,u1,u2,ci,c1,c2,w1];exact ⟨by simp[St,LR5,sx,h1,h6,h7,h8],by simp[sx],hall⟩
 ·rintro t df g' ⟨rfl,rfl,⟨ht,h9,ha⟩⟩;rw[List.take_length] at h9 ha;exact fin t ha ht h9
theorem J5 {Q:QT}{rws:List (List Int)}{v q:Nat}{t:T}{g:G}(hra:SlR NoP 0 .nil rws ra)(hc:1<=card/\card<=4)(hg1:1<=gr/\gr<=60)
  (ht:St t (LR5 v q)) (h8:tat t 8=.int .i64 0) (e0:g.h.get 0=.cells 2 [[.int .i64 gr,b]] 0 false false) (eq:g.h.get q=.cells 3 [[.int .i64 card,pa,ra]] 0 false false)
  (bad:∀t,(∃r∈rws,S.OW gr card r=false)->tat t 2=.bool false->Q .ret t [] g) (fin:∀t,(∀r∈rws,S.OW gr card r=true)->St t (LR5 v q)->Q (.exit 4) t [] g) :
  wpL (wp C0 d none iy) Q t [] g:=by
 obtain ⟨rr,s1,s2,s3,s4⟩:=xB hra;have n1:=λg=>hra.len g;simp only[iy,nN];refine bp rws.length hra.1 (λj t df g'=>df=[]/\g'=g/\RJ4 gr card rws v q j t)
  ⟨rfl,rfl,ht,by simp⟩ h8 (by decide) (by rintro j t df g v s (rfl | rfl | rfl) ⟨a1,a2,⟨b1,b2,b3,-⟩,b6⟩<;>exact ⟨a1,a2,by simp[St,LR5,sx,b1,b2,b3],b6⟩) ?_ ?_ ?_
 ·rintro j t df g' hj ⟨rfl,rfl,⟨⟨h1,h6,h7,-⟩,ha⟩⟩ h8;simp only[sz,simprocAttr,h7,h8,eq,n1];exact ⟨by simp[St,LR5,sx,h1,h6,h7],ha⟩
 ·rintro j t df g' hj ⟨rfl,rfl,⟨⟨h1,h6,h7,-⟩,ha⟩⟩ h8;obtain ⟨r,hr,htk,hm⟩:=ae hj;obtain ⟨z,q2,q3,hz⟩:=s3 j r hr;have hry:=s4 (by omega);have n2:=λg=>hz.len g
  by_cases c1:(r.length:Int)=card
  ·simp only[sz,simprocAttr,h7,h8,eq,s1,q2,q3,n2,c1];refine J4 (v:=v) (q:=q) (b:=b) (pa:=pa) (card:=card) (gr:=gr) s1 q2 q3 hry hz (by omega) hg1 (by simp[St,LR5,sx,h1,h6,h7,h8]) (by simp[sx]) (by simp[sx]) e0 eq ?_ ?_
   ·rintro t ⟨y,hy,hy2⟩ h2;refine bad t ⟨r,hm,?_⟩ h2;rw[<-Bool.not_eq_true,S.OW];simp only[Bool.and_eq_true,decide_eq_true_eq,List.all_eq_true];rintro ⟨⟨-,h⟩,-⟩;exact hy2 (h y hy)
   ·rintro t hall ⟨h8,h1,h6,h7,-⟩ h9
    by_cases c2:r.sum=gr
    ·simp only[sz,simprocAttr,iz,h1,h8,h9,e0,c2];refine ⟨?_,λx hx=>?_⟩
     ·simp[St,LR5,sx,h1,h6,h7]
     ·rw[htk] at hx;rcases List.mem_append.1 hx with h | h
      ·exact ha x h
      ·rw[List.mem_singleton.1 h,S.OW];simp only[Bool.and_eq_true,decide_eq_true_eq,List.all_eq_true];exact ⟨⟨c1,hall⟩,c2⟩
    ·simp only[sz,simprocAttr,iz,h1,h9,e0,c2];refine bad _ ⟨r,hm,?_⟩ (by simp[sx]);rw[S.OW];simp[c2]
  ·simp only[sz,simprocAttr,h7,h8,eq,s1,q2,q3,n2,c1];refine bad _ ⟨r,hm,?_⟩ (by simp[sx]);rw[S.OW];simp[c1]
 ·rintro t df g' ⟨rfl,rfl,⟨ht,ha⟩⟩;rw[List.take_length] at ha;exact fin t ha ht
end
theorem HR {d:Nat}{g:G}{v:AV}{n:Net}(hd:0<d)(hm:Agg n NoP 0 g.h v):am C0 d N.Pw [v] g=.val (.bool (S.O2 n)):=by
 obtain ⟨b,rows,rfl,e,hm',hN,r1,r2,r3,r4⟩:=fj d hm;have bad:¬NR n->AV.bool false=AV.bool (S.O2 n):=λh=>by
  cases hn:S.O2 n with
  | true=>exact absurd (fL.1 hn) h
  | false=>rfl
 rw[vv];refine ej yw (xs:=[.agg [.int .i64 n.grain,b]]) (by simp only[aE,e]) (by simp[mP]) hd ?_;have nl:=λg=>hN.len g;simp only[sz,simprocAttr,mP];obtain ⟨g0,hg0⟩:∃g0,g0=G.empty.new (.cells [AV.int .i64 n.grain,b].length [[.int .i64 n.grain,b]] 0 false false):=⟨_,rfl⟩;have f0:g0.h.get 0=.cells 2 [[.int .i64 n.grain,b]] 0 false false:=by rw[hg0];simp[sx]
 have f1:1<=g0.nx:=by rw[hg0];simp[sx]
 rw[show (G.empty.new (.cells 2 [[AV.int .i64 n.grain,b]] 0 false false))=g0 from by rw[hg0];rfl];clear hg0;simp only[pI]
 by_cases c1:n.grain<1
 ·simp only[sz,simprocAttr,f0,c1];exact bad λh=>by have:=h.g1;omega
 by_cases c2:60<n.grain
 ·simp only[sz,simprocAttr,f0,c1,c2];exact bad λh=>by have:=h.g2;omega
 by_cases c3:(n.nodes.length:Int)<1
 ·simp only[sz,simprocAttr,f0,c1,c2,c3,nl];exact bad λh=>by have:=h.l1;omega
 by_cases c4:8<(n.nodes.length:Int)
 ·simp only[sz,simprocAttr,f0,c1,c2,c3,c4,nl];exact bad λh=>by have:=h.l2;omega
 refine jN (P:=λt' df g'=>df=[]/\g'=g0/\St t' [(1,.hptr 0 0 0 0)]) ?_ ?_
 ·simp only[sz,simprocAttr,f0,c1,c2,c3,c4,nl];simp[St,sx]
 rintro t df g1 ⟨rfl,rfl,h1,-⟩;simp only[sz,simprocAttr,nL];have hry:=r4 (by omega);refine bp n.nodes.length (by omega) (λj t df g=>df=[]/\RJ0 n b j t g)
  ⟨rfl,by simp[St,sx,h1,S.OH],f0,f1,by simp⟩ (by simp[sx]) (by decide) (by rintro j t df g v s (rfl | rfl | rfl) ⟨a1,⟨b1,b2,-⟩,b3,b4,b5⟩<;>exact ⟨a1,by simp[St,sx,b1,b2],b3,b4,b5⟩) ?_ ?_ ?_
 ·rintro j t df g hj ⟨rfl,⟨⟨h1,h3,-⟩,hg,hnx,ha⟩⟩ h4;simp only[sz,simprocAttr,h1,h4,hg,nl];exact ⟨by simp[St,sx,h1,h3],hg,hnx,ha⟩
 ·rintro j t df g hj ⟨rfl,⟨⟨h1,h3,-⟩,hg,hnx,ha⟩⟩ h4;obtain ⟨x,hx,htk,hxm⟩:=ae hj;obtain ⟨pa,ra,q1,hlt,hpa,hra⟩:=r3 j x hx;have hpl:=λg=>E8 (d:=d+1) (g:=g) (P:=NoP) (k:=0) (l:=x.parents) (n:=(n.nodes.length:Int)) (Nat.succ_pos d) (hpa.tree (h':=g.h) (Nat.le_refl 0));have hne:¬(0=g.nx):=by omega
  have badn:S.Pf n.nodes.length x=false->AV.bool false=AV.bool (S.O2 n):=λh=>bad λhr=>by have h1:=hr.card x hxm;have h2:=hr.places x hxm;rw[S.Pf,h2] at h;simp at h;omega
  by_cases d1:x.card<1
  ·simp only[sz,simprocAttr,h1,h4,hg,r1,hlt,q1,d1];exact badn (by rw[S.Pf];simp;omega)
  by_cases d2:4<x.card
  ·simp only[sz,simprocAttr,h1,h4,hg,r1,hlt,q1,d1,d2];exact badn (by rw[S.Pf];simp;omega)
  cases d3:S.OS x.parents n.nodes.length with
  | false =>
   rw[d3] at hpl;simp only[sz,simprocAttr,h1,h4,hg,r1,hlt,q1,hne,nl,hpl,d1,d2];exact badn (by rw[S.Pf,d3];simp)
  | true =>
   rw[d3] at hpl;have hok:S.Pf n.nodes.length x=true:=by rw[S.Pf,d3];simp;omega
   have hall:∀y∈n.nodes.take (j+1),S.Pf n.nodes.length y=true:=λy hy=>by
    rw[htk] at hy;rcases List.mem_append.1 hy with h | h
    ·exact ha y h
    ·rw[List.mem_singleton.1 h];exact hok
   have hcb:∀c∈(S.OG n).take (j+1),1<=c/\c<=4:=λc hc=>by rw[S.OG,<-List.map_take] at hc;obtain ⟨y,hy,rfl⟩:=List.mem_map.1 hc;have:=hall y hy;simp[S.Pf] at this;omega
   have hpb:=bV hcb;have hp4:=iF (a:=((S.OG n).take (j+1)).length) (b:=8) (by rw[List.length_take];omega);have h48:(4:Int) ^ 8=65536:=by decide
   have e1:S.OH ((S.OG n).take (j+1))=S.OH ((S.OG n).take j)*x.card:=by
    rw[List.take_add_one];have:(S.OG n)[j]?=some x.card:=by simp[S.OG,hx]
    rw[this];exact rU _ _
   have w1:IntKind.wrap .i64 (S.OH ((S.OG n).take j)*x.card)=S.OH ((S.OG n).take (j+1)):=by rw[<-e1,ay (by omega) (by omega)]
   simp only[sz,simprocAttr,h1,h3,h4,hg,r1,hlt,q1,hne,nl,hpl,d1,d2,w1];refine ⟨?_,?_,?_,hall⟩
   ·simp[St,sx,h1]
   ·simp[H.get_put,hne,hg]
   ·first | (simp;done) | (simp;omega)
 rintro t df g ⟨rfl,⟨⟨h1,h3,-⟩,hg,hnx,ha⟩⟩;rw[List.take_length] at ha;rw[List.take_of_length_le (by rw[aG];exact Nat.le_refl _)] at h3;have hcard:∀x∈n.nodes,1<=x.card/\x.card<=4:=λx hx=>by have:=ha x hx;simp[S.Pf] at this;omega
 have hplc:∀x∈n.nodes,S.OS x.parents n.nodes.length=true:=λx hx=>by have:=ha x hx;simp[S.Pf] at this;exact this.2
 have hcb:∀c∈S.OG n,1<=c/\c<=4:=λc hc=>by obtain ⟨y,hy,rfl⟩:=List.mem_map.1 hc;exact hcard y hy
 simp only[nQ]
 by_cases d1:1024<S.OH (S.OG n)
 ·simp only[sz,simprocAttr,h3,d1];exact bad λh=>by have:=h.worlds;omega
 have hps:=λg=>JV (d:=d+1) (g:=g) (k:=0) (P:=NoP) (Nat.succ_pos d) (hm' g.h) (by omega) λx hx y hy=>by have:=dP (hplc x hx) y hy;omega
 cases d2:S.Pb (S.OO n) with
 | false =>
  simp only[sz,simprocAttr,h1,h3,hg,d1];refine a_ (hps _) λrp hrp=>?_;have hac:=λg=>wD (d:=d+1) (g:=g) (P:=NoP) (k:=0) (p:=S.OO n) (Nat.succ_pos d) (hrp.sl g.h);rw[d2] at hac;simp only[sz,simprocAttr,hac];exact bad λh=>by have:=h.acyc;rw[d2] at this;cases this
 | true =>
 refine jN (P:=λt' df g'=>df=[]/\g'=g/\St t' [(1,.hptr 0 0 0 0)]/\S.Pb (S.OO n)=true) ?_ ?_
 ·simp only[sz,simprocAttr,h1,h3,hg,d1];refine a_ (hps _) λrp hrp=>?_;have hac:=λg=>wD (d:=d+1) (g:=g) (P:=NoP) (k:=0) (p:=S.OO n) (Nat.succ_pos d) (hrp.sl g.h);rw[d2] at hac;simp only[sz,simprocAttr,hac];simp[St,sx,h1,d2]
 clear h1 h3;rintro t df g ⟨rfl,rfl,⟨h1,-⟩,hacyc⟩;simp only[sz,simprocAttr,nM,nO];refine bp n.nodes.length (by omega) (λj t df g=>df=[]/\RJ6 n b j t g)
  ⟨rfl,by simp[St,sx,h1],hg,hnx,by simp⟩ (by simp[sx]) (by decide) (by rintro j t df g v s (rfl | rfl | rfl) ⟨a1,⟨b1,-⟩,b3,b4,b5⟩<;>exact ⟨a1,by simp[St,sx,b1],b3,b4,b5⟩) ?_ ?_ ?_
 ·rintro j t df g hj ⟨rfl,⟨⟨h1,-⟩,hg,hnx,ha⟩⟩ h6;simp only[sz,simprocAttr,h1,h6,hg,nl];exact ⟨by simp[St,sx,h1],hg,hnx,ha⟩
 ·rintro j t df g hj ⟨rfl,⟨⟨h1,-⟩,hg,hnx,ha⟩⟩ h6;obtain ⟨x,hx,htk,hxm⟩:=ae hj;obtain ⟨pa,ra,q1,hlt,hpa,hra⟩:=r3 j x hx;have hne:¬(0=g.nx):=by omega
  have hpl:=iE (hplc x hxm) (by omega);have hpin:∀p∈x.parents,0<=p/\p<(n.nodes.length:Int):=dP (hplc x hxm);have hpb:∀c∈S.OJ (S.OG n) x.parents,1<=c/\c<=4:=gU hcb λp hp=>by rw[aG];exact hpin p hp
  have badn:S.Ps n x=false->AV.bool false=AV.bool (S.O2 n):=λh=>bad λhr=>by
   have h1:=hr.rows x hxm;have h2:=hr.row x hxm;have:S.Ps n x=true:=by simp only[S.Ps,S.OW,Bool.and_eq_true,decide_eq_true_eq,List.all_eq_true];exact ⟨h1,λr hr=>⟨⟨(h2 r hr).1,(h2 r hr).2.1⟩,(h2 r hr).2.2⟩⟩
   rw[h] at this;cases this
  simp only[sz,simprocAttr,h1,h6,hg,r1,hlt,q1,hne,hra.len];refine a_ (vV (d:=d+1) (k:=0) (P:=NoP) (Nat.succ_pos d) (hm' _) (by omega) hx (by omega) hpin) λrc hrc=>?_;have hsz:=λg=>zf (d:=d+1) (g:=g) (P:=NoP) (k:=0) (Nat.succ_pos d) (hrc.sl g.h);rw[se hpb (by simp[S.OJ];omega)] at hsz
  by_cases d1:(x.rows.length:Int)=S.OH (S.OJ (S.OG n) x.parents)
  ·simp only[sz,simprocAttr,hsz,d1];refine J5 (v:=j) (q:=g.nx) (b:=b) (pa:=pa) (card:=x.card) (gr:=n.grain) (rws:=x.rows) hra (hcard x hxm) (by omega) (by simp[St,LR5,sx,h1,h6]) (by simp[sx]) (by simp[H.get_put,hne,hg]) (by simp[H.get_put]) ?_ ?_
   ·rintro t ⟨r,hr,hr2⟩ h2;simp only[sx,sy,h2];refine badn ?_;rw[S.Ps];have:x.rows.all (S.OW n.grain x.card)=false:=by rw[<-Bool.not_eq_true,List.all_eq_true];intro h;rw[h r hr] at hr2;cases hr2
    rw[this,Bool.and_false]
   ·rintro t hall ⟨h1,h6,h7,-⟩;simp only[sx,sy,↓reduceIte,h6];refine ⟨?_,?_,?_,λy hy=>?_⟩
    ·simp[St,h1]
    ·simp[H.get_put,hne,hg]
    ·first | (simp;done) | (simp;omega)
    ·rw[htk] at hy;rcases List.mem_append.1 hy with h | h
     ·exact ha y h
     ·rw[List.mem_singleton.1 h,S.Ps,List.all_eq_true.2 hall];simp[d1]
  ·simp only[sz,simprocAttr,hsz,d1];exact badn (by rw[S.Ps];simp[d1])
 ·rintro t df g ⟨rfl,⟨⟨h1,-⟩,hg,hnx,ha2⟩⟩;rw[List.take_length] at ha2;simp only[sz,simprocAttr,nP];have:S.O2 n=true:=by unfold S.O2;simp only[Bool.and_eq_true,decide_eq_true_eq,List.all_eq_true];exact ⟨⟨⟨⟨⟨⟨⟨by omega,by omega⟩,by omega⟩,by omega⟩,ha⟩,by omega⟩,hacyc⟩,ha2⟩
  rw[this]
end
end Hx
end
section
namespace Hx
open Go
noncomputable section
def OwnC (g:G)(b id:Nat)(l tl:List Int):Prop:=b<=id/\id<g.nx/\g.h.get id=.cells 1 (l.map ci++tl.map ci) 0 false false
theorem OwnC.rows {g:G}{b id:Nat}{l tl:List Int}(h:OwnC g b id l tl):ah g.h 1 (.hsl id 0 0 l.length none)=some (l.map ci):=by rw[dG,h.2.2,co,if_pos (by simp),List.drop_zero,List.take_left' (by simp)]
theorem OwnC.fr {g g':G}{b id:Nat}{l tl:List Int}(h:OwnC g b id l tl)(hn:g.nx<=g'.nx)(hf:g'.h.get id=g.h.get id):OwnC g' b id l tl:=⟨h.1,Nat.lt_of_lt_of_le h.2.1 hn,by rw[hf,h.2.2]⟩
theorem N9 {g:G}{b n:Nat}{K:AV->G->Prop}{D:ADf->Prop}(hn:n<=1000)(hb:b<=g.nx)(k:∀g',OwnC g' b g.nx [] (List.replicate n 0)->g'.nx=g.nx+1->(∀i,i<g.nx->g'.h.get i=g.h.get i)->K (.hsl g.nx 0 0 0 none) g') :
  (Db 1 8 [.int .i64 0] (.int .i64 0) (.int .i64 (n:Int)) g).sat K g D:=by
 have h1:n<=aP:=by unfold aP;omega
 have h2:n*8<=aP:=by unfold aP;omega
 have key:Db 1 8 [.int .i64 0] (.int .i64 0) (.int .i64 (n:Int)) g=.upd (.hsl g.nx 0 0 0 none) (g.new (.cells 1 (eV n [.int .i64 0]) 0 false false)):=by
  show (match bZ aP (.int .i64 (.ofNat n)) with
   | some cn=>match bZ cn (.int .i64 0) with
    | some ln=>au (Nat.ble (cn*8) aP) (OR.upd (.hsl g.nx 0 0 ln none) (g.new (.cells 1 (eV cn [.int .i64 0]) 0 false false))) .fail
    | none=>.fail
   | none=>.fail)=_
  have a1:bZ aP (.int .i64 (.ofNat n))=some n:=by show au (Nat.ble n aP) (some n) none=_;rw[aa,if_pos (by simpa using h1)]
  have a2:bZ n (.int .i64 0)=some 0:=by show au (Nat.ble 0 n) (some 0) none=_;rw[aa,if_pos (by simp)]
  rw[a1];dsimp only;rw[a2];dsimp only;rw[aa,if_pos (by simpa using h2)]
 rw[key];refine k _ ⟨hb,by simp,?_⟩ (by simp) (λi hi=>?_)
 ·simp[aR,eV,ci]
 ·rw[G.new_h,aq _ _ _ (by omega)]
theorem Ib {g:G}{b id:Nat}{l tl:List Int}{x y:Int}{w:AV}{K:AV->G->Prop}{D:ADf->Prop}(hv:OwnC g b id l (y::tl))(hx:ah g.h 1 w=some [ci x])(hr:l.length<=1000)
  (k:∀g',OwnC g' b id (l++[x]) tl->g'.nx=g.nx->(∀i,i≠id->g'.h.get i=g.h.get i)->K (.hsl id 0 0 (l++[x]).length none) g'):(cW 1 8 (.hsl id 0 0 l.length none) w g).sat K g D:=by
 unfold cW;rw[hx];obtain ⟨h1,h2,h3⟩:=hv;simp only[bk,G.get_eq,h3,aw,aa,Nat.beq_refl,Bool.true_and,Nat.ble_eq,Bool.and_eq_true,Nat.zero_add,Option.getD_none,Nat.sub_zero,List.length_append,List.length_map,List.length_cons,List.length_nil];rw[if_pos ⟨by omega,by unfold aP;omega⟩,if_pos (by omega)];have hnb:gZ false=true:=rfl;rw[if_pos ⟨by omega,hnb⟩];have e:gV (l.map ci++(y::tl).map ci) l.length [ci x]=(l++[x]).map ci++tl.map ci:=by simp only[gV,fA];rw[List.map_append,List.append_assoc,List.map_cons,List.set_append_right _ _ (by simp)];simp
 rw[e];have k:=k (g.put id (.cells 1 ((l++[x]).map ci++tl.map ci) 0 false false)) ⟨h1,by simpa using h2,by simp[aR]⟩ (by simp) (λi hi=>by rw[G.put_h,aq _ _ _ hi]);have e3:l.length+1=(l++[x]).length:=by simp
 rw[e3];exact k
def NY (p:List Nat):VS:=λP k h v=>∃o:List Int,True/\Bc (One o) (One (S.Pb p)) P k h v
theorem H0 {d k:Nat}{g:G}{P:Nat->Prop}{v:AV}{p:List Nat}(hd:0<d)(hv:SlR P k g.h p v)(hn:p.length<=8)(hp:∀x∈p,x<2 ^ p.length) :
  ∃z,am C0 d N.Pk [v] g=.val z/\NY p NoP 0 .nil z:=by
 obtain ⟨v',e,r1⟩:=be hv d;have hlt:=oC hv;rw[wP];refine aX zM (xs:=[v']) (by simp only[aE,e]) (by simp[oT]) (jV λo=>jh (m:=1) (aS _) (aS _) (by decide) (by decide)) (by decide) hd ?_;have vl:∀g,cV .slice v' g=.val (.int .i64 (p.length:Int)):=λg=>(r1 .nil).len g;simp only[sz,simprocAttr,oT,vl];refine N9 (b:=0) (n:=p.length) (by omega) (Nat.zero_le _) λg1 hu hn1 hf1=>?_;obtain ⟨id,hid⟩:∃id,id=G.empty.nx:=⟨_,rfl⟩;rw[<-hid] at hu ⊢;clear hid hn1 hf1;simp only[sz,simprocAttr];refine eW (λn t df g=>df=[]/\∃(L:List Nat) (D:Nat) (tl:List Int),n=p.length - L.length/\L.length+tl.length=p.length/\G4 p L/\M7 D L/\G2 p D/\St t [(0,v'),(4,.hsl id 0 0 (L.map λi:Nat=>(i:Int)).length none),(5,.int .u64 (D:Int))]/\OwnC g 0 id (L.map λi:Nat=>(i:Int)) tl) p.length
  ⟨rfl,[],0,List.replicate p.length 0,by simp,by simp,⟨by simp,by simp⟩,⟨by decide,by simp⟩,AI,by simp[sx,St],hu⟩ ?_
 rintro n t df g ⟨rfl,L,D,tl,rfl,hLt,hO,hD,hG,⟨h0,h4,h5,-⟩,hu⟩;have hLl:=JI hO;have hul:∀g',cV .slice (.hsl id 0 0 (L.map λi:Nat=>(i:Int)).length none) g'=.val (.int .i64 (L.length:Int)):=λg'=>by rw[cL hu.rows];simp
 simp only[sz,simprocAttr,pz,h0,h4,vl,hul];refine aZ (λhb=>?_) (λhb=>?_)
 ·have hlt2:L.length<p.length:=by simpa using hb
  obtain ⟨y,tl,rfl⟩:∃y tl',tl=y::tl':=by
   cases tl with
   | nil=>simp at hLt;omega
   | cons y tl=>exact ⟨y,tl,rfl⟩
  simp only[sz,simprocAttr,h0,vl,py];refine bj (m:=p.length) (by omega) (λj t df g'=>df=[]/\g'=g/\St t [(0,v'),(16,v'),(4,.hsl id 0 0 (L.map λi:Nat=>(i:Int)).length none),(5,.int .u64 (D:Int))]/\∀v,v<j->D.testBit v=true\/¬Sub (Par p v) D)
   ⟨rfl,rfl,by simp[sx,St,h0,h4,h5],λv hv=>by omega⟩ (by simp[sx]) (by simp[sx]) (by decide) (by rintro j t df g v s (rfl | rfl | rfl)<;>simp[sx,St]) ?_ ?_
  ·rintro j t df g' hj ⟨rfl,rfl,⟨h0,h16,h4,h5,-⟩,hall⟩ h18 h17;obtain ⟨x,hx,-,hxm⟩:=ae hj;have hpj:Par p j=x:=by simp[Par,hx]
   have hxl:=hlt x hxm;have hjl:j<(p.map cu).length:=by simpa using hj
   have hjr:(p.map cu)[j]?=some (cu x):=by rw[List.getElem?_map,hx];rfl
   have b1:=FH .i64 D j hD.1;have hdv:D / 2 ^ j<18446744073709551616:=Nat.lt_of_le_of_lt (Nat.div_le_self _ _) hD.1;have b2:cq .and (.int .u64 ((D / 2 ^ j:Nat):Int)) (.int .u64 1)=.val (.int .u64 ((D / 2 ^ j &&& 1:Nat):Int)):=Fx _ 1 hdv (by decide);have b3:=Eh x D hxl hD.1;have ra:=λh=>(r1 h).nats;have hbit:D.testBit j = !decide (((D / 2 ^ j &&& 1:Nat):Int)=0):=by
    rw[<-uC,S.Pr];have h2:D / 2 ^ j &&& 1=(D / 2 ^ j) % 2:=Nat.and_one_is_mod _;rw[h2];have:=Nat.mod_lt (D / 2 ^ j) (show 0<2 by decide)
    by_cases h3:D / 2 ^ j % 2=0
    ·rw[h3];simp
    ·have h4:D / 2 ^ j % 2=1:=by omega
     rw[h4];simp
   have next:(D.testBit j=true\/¬Sub (Par p j) D)->∀v,v<j+1->D.testBit v=true\/¬Sub (Par p v) D:=λh v hv=>by
    by_cases e:v=j
    ·subst e;exact h
    ·exact hall v (by omega)
   by_cases c1:((D / 2 ^ j &&& 1:Nat):Int)=0
   ·by_cases c2:((x ^^^ (x &&& D):Nat):Int)=0
    ·have hd0:S.PB x D=0:=by simpa [S.PB] using c2
     have hsub:=Ax.1 hd0;have hjL:j ∉ L:=λh=>by have:=(hD.2 j).2 h;rw[hbit,c1] at this;simp at this
     have hb2:D ||| S.O9 j<18446744073709551616:=Gw hD.1 (u7 j);simp only[sz,simprocAttr,h16,h4,h5,h18,b1,b2,b3,ra,hjl,hjr,cu,c1,c2];refine Ib (x:=(j:Int)) (hu.fr (by simp) (by rw[G.new_h,aq _ _ _ (by have:=hu.2.1;omega)])) (by simp[sx,sy,ci]) (by simp;omega) λg2 hu2 n2 f2=>?_;have hone:cq .shl (.int .u64 1) (.int .i64 (j:Int))=.val (.int .u64 (S.O9 j:Int)):=qd .i64 j;have e1:(L.map λi:Nat=>(i:Int))++[(j:Int)]=(L++[j]).map λi:Nat=>(i:Int):=by simp
     rw[e1] at hu2 ⊢;simp only[sz,simprocAttr,h5,hone,Bg _ _ hD.1 (u7 j)];refine ⟨p.length - (L++[j]).length,by simp;omega,L++[j],D ||| S.O9 j,tl,rfl,by simp at hLt ⊢;omega,HE hO hjL hj λq hq=>?_,HV hD (by omega),CY hG (by omega) (by rw[hpj];exact hsub),by simp[sx,St,h0],hu2⟩;rw[hpj] at hq;exact (hD.2 q).1 (hsub q hq)
    ·have hns:¬Sub (Par p j) D:=λh=>c2 (by
      have:=Ax.2 h;rw[hpj] at this;simp[S.PB] at this;simp[this])
     simp only[sz,simprocAttr,h0,h16,h4,h5,h18,h17,b1,b2,b3,ra,hjl,hjr,cu,c1,c2,St];exact next (.inr hns)
   ·simp only[sz,simprocAttr,h0,h16,h4,h5,h18,h17,b1,b2,ra,hjl,hjr,cu,c1,St];exact next (.inl (by rw[hbit,decide_eq_false c1];rfl))
  ·rintro t df g' ⟨rfl,rfl,-,hall⟩;obtain ⟨v0,hv0,hv0'⟩:=LC hO hlt2;have hac:S.Pb p=false:=by
    cases hc:S.Pb p with
    | false=>rfl
    | true =>
     have:=Be hp hc (T:=D) (λv hv hb=>by
      rcases hall v hv with h | h
      ·rw[h] at hb;cases hb
      ·exact h) v0 hv0
     exact absurd ((hD.2 v0).1 this) hv0'
   simp only[sz,simprocAttr,pA];exact ⟨λ_=>True,[],.nils,.bool false,rfl,⟨.nils,rfl,by show 0<9223372036854775808;decide,rfl⟩,jT.2 (by rw[hac])⟩
 ·have hge:p.length<=L.length:=by simp at hb;omega
  have htl:tl=[]:=List.eq_nil_of_length_eq_zero (by omega);subst htl;have hfull:=HD hO hge;have hac:=tW hG λv hv=>(hD.2 v).2 (hfull.1 v hv);simp only[sz,simprocAttr,pB,h4];refine ⟨λ_=>True,L.map (λi:Nat=>(i:Int)),_,_,rfl,⟨_,rfl,by simp;omega,trivial,_,hu.rows,All2.of_map (λa=>aL.2 rfl) _⟩,jT.2 (by rw[hac])⟩
theorem HN {C:Cfg}{d id nt:Nat}{t:T}{ps:List Nat}{assign body:Code}{a b:SC}{dfr:Nat}{args:List AV}{g:G}{K:AV->G->Prop}{D:ADf->Prop}{t':T}
  (hg:g.h.get id=.loop nt t ps assign body dfr .ready none) (ha:dM C nt assign=a) (hb:dM C nt body=b) (hp:dw t nt ps args=some t')
  (h:wp C d (some id) a (λe t1 df g1=>e=.norm/\df=[]/\g1=g /\
   wp C d (some id) b (λe _ df g2=>df=[]/\g2.h.get id=.loop nt t ps assign body dfr .busy none/\((e=.norm/\K (.bool true) (g2.put id (.loop nt t ps assign body dfr .ready none)))\/(e=.ret/\K (.bool false) (g2.put id (.loop nt t ps assign body dfr .done (some .ret))))))
    t1 [] (g.put id (.loop nt t ps assign body dfr .busy none))) t' [] g) :
  (cI (I C) d id args g).sat K g D:=by
 subst ha;subst hb;unfold cI;rw[show g.get id=_ from hg];dsimp only;rw[hp];dsimp only;have h1:=rK h;cases hc:(I C).code nt d (some id) assign t' [] g with
 | fail=>rw[hc] at h1;exact h1.elim
 | ok e t1 df g1 =>
  rw[hc] at h1;obtain ⟨rfl,rfl,rfl,h2⟩:=h1;dsimp only;rw[show g1.get id=_ from hg];dsimp only;have h3:=rK h2;cases hc2:(I C).code nt d (some id) body t1 [] (g1.put id (.loop nt t ps assign body dfr .busy none)) with
  | fail=>rw[hc2] at h3;exact h3.elim
  | ok e t2 df2 g2 =>
   rw[hc2] at h3;obtain ⟨rfl,h4,h5⟩:=h3;dsimp only;rw[show g2.get id=_ from h4];rcases h5 with ⟨rfl,h5⟩ | ⟨rfl,h5⟩<;>exact h5
theorem zx {C:Cfg}{d nt:Nat}{f:Od}{ps:List Nat}{a b:SC}{Q:QT}{t:T}{df:List ADf}{g:G}{fn:Nat}{first cap:List AV}{s:SF}(hv:f.get t=.clo fn first cap)(he:C.ext fn=none)(hs:nFn C fn=some s)
  (hl:(first++(.yld (g.nx+1)::cap)).length<=s.nt)
  (h:∀assign body,dM C nt assign=a->dM C nt body=b ->
   wp C d none s.code (fnQ C d s.res λ_ g2=>∃nt' t' ps' as' bd' dfr',(g2.h.get (g.nx+1)=.loop nt' t' ps' as' bd' dfr' .ready none/\Q .norm t (.mark g.nx::df) (g2.put (g.nx+1) (.loop nt' t' ps' as' bd' dfr' .exhausted none))) \/
     (g2.h.get (g.nx+1)=.loop nt' t' ps' as' bd' dfr' .done (some .ret)/\Q .ret t (.mark g.nx::df) (g2.put (g.nx+1) (.loop nt' t' ps' as' bd' dfr' .exhausted (some .ret)))))
    (bK 0 (first++(.yld (g.nx+1)::cap)) .nil) [] ((g.new (.dfr true)).new (.loop nt t ps assign body g.nx .ready none))) :
  wp C d none (.rng nt f ps a b) Q t df g:=by
 intro assign body ha hb;have h:=rL hs hl (h assign body ha hb);show (cw C (I C) nt d none (f.get t) ps assign body t (.mark g.nx::df) g.nx (g.new (.dfr true))).sat Q;rw[hv];unfold cw;dsimp only;rw[he];show (match (I C).call d fn (first++(AV.yld (g.nx+1)::cap)) ((g.new (.dfr true)).new (.loop nt t ps assign body g.nx .ready none)) with
  | .ok _ g2=>dt (I C) nt d none (g.nx+1) t (.mark g.nx::df) g2
  | .fail=>.fail).sat Q
 cases hc:(I C).call d fn (first++(AV.yld (g.nx+1)::cap)) ((g.new (.dfr true)).new (.loop nt t ps assign body g.nx .ready none)) with
 | fail=>rw[hc] at h;exact h.elim
 | ok v g2 =>
  rw[hc] at h;obtain ⟨nt',t',ps',as',bd',dfr',h⟩:=h;show (dt (I C) nt d none (g.nx+1) t (.mark g.nx::df) g2).sat Q;unfold dt;rcases h with ⟨h1,h2⟩ | ⟨h1,h2⟩
  ·rw[show g2.get (g.nx+1)=_ from h1];exact h2
  ·rw[show g2.get (g.nx+1)=_ from h1];dsimp only;rw[Eb];exact h2
def RwV (x:Node):VS:=λP k h v=>∃p,v=.clo N.OG [] [p] /\
 ((∃id cs,p=.hptr id 0 0 0/\P id/\h.get id=.cells 3 [cs] 0 false false/\Rp.rp P k h x cs)\/∃t cs,p=.tptr t 3 [cs] 0 0/\t<=k/\Rp.rp NoP k .nil x cs)
theorem NK (x:Node):Snb (RwV x) 2:=by
 refine ⟨λ{P k h v n} d r hn=>?_,λ{k h v n} r hn=>?_⟩
 ·obtain ⟨p,rfl,r⟩:=r;obtain ⟨n,rfl⟩:∃q,n=q+2:=⟨n - 2,by omega⟩;rcases r with ⟨id,cs,rfl,-,hg,r⟩ | ⟨t,cs,rfl,ht,r⟩
  ·obtain ⟨cs',e,r'⟩:=Rp.snap (n:=n) d r (by show (_:Nat)<=n;exact Nat.le_trans (show Rp.dp Node<=20 by decide) (by omega)) (by decide);obtain ⟨m,e2,l2⟩:=Rp.tag (n:=aB) r' (by decide);refine ⟨.clo N.OG [] [.tptr (Nat.max d (Nat.max m 0)) 3 [cs'] 0 0],?_,_,rfl,.inr ⟨_,cs',rfl,?_,r'⟩⟩
   ·have:Hx.snap h d (n+1) (.hptr id 0 0 0)=some (.tptr (Nat.max d (Nat.max m 0)) 3 [cs'] 0 0):=by simp only[Hx.snap,hg,show Nat.beq 0 0=true from rfl,aE,e,eL,eT,e2]
    simp only[Hx.snap,aE] at this ⊢;rw[this]
   ·show max d (max m 0)<=max k d;omega
  ·refine ⟨.clo N.OG [] [.tptr t 3 [cs] 0 0],rfl,_,rfl,.inr ⟨t,cs,rfl,by omega,Rp.mono r (λi hi=>hi.elim) (by omega)⟩⟩
 ·obtain ⟨p,rfl,r⟩:=r;obtain ⟨n,rfl⟩:∃q,n=q+2:=⟨n - 2,by omega⟩;rcases r with ⟨id,cs,rfl,hP,-⟩ | ⟨t,cs,rfl,ht,r⟩
  ·exact hP.elim
  ·exact ⟨Nat.max t 0,rfl,by show max t 0<=k;omega⟩
theorem JD {d:Nat}{g:G}{v:AV}{x:Node}(hd:0<d)(hm:Agg x NoP 0 g.h v) :
  ∃pa ra,am C0 d N.O3 [v] g=.val (.clo N.OG [] [.tptr 0 3 [[.int .i64 x.card,pa,ra]] 0 0])/\SlR NoP 0 .nil x.parents pa/\SlR NoP 0 .nil x.rows ra:=by
 have e0:=iS d hm;obtain ⟨cs,rfl,hc⟩:=hm;obtain ⟨a,b,rfl,hR,hN⟩:=bI.1 hc;have key:∃r,am C0 d N.O3 [.agg [.int .i64 x.card,a,b]] g=.val r/\RwV x NoP 0 .nil r:=by rw[zC];refine aX CJ (xs:=[.agg [.int .i64 x.card,a,b]]) (by simp only[aE,e0]) (by simp[tk]) (NK x) (by decide) hd ?_;simp only[sz,simprocAttr,tk,uw];exact ⟨λ_=>True,_,rfl,.inl ⟨0,_,rfl,trivial,by simp[sx],Rp.tree hc (Nat.le_refl _)⟩⟩
 obtain ⟨r,h1,p,rfl,h2⟩:=key;rcases h2 with ⟨id,cs,rfl,hP,-⟩ | ⟨t,cs,rfl,ht,hr⟩
 ·exact hP.elim
 ·have:t=0:=by omega
  subst this;obtain ⟨a',b',rfl,hR',hN'⟩:=bI.1 hr;exact ⟨a',b',h1,hR',hN'⟩
theorem qU (fo l sz i off:Nat)(rows:List (List AV)):IJ fo (.tptr l sz rows i off)=.val (.tptr l sz rows i (off+fo)):=rfl
theorem J9 {d id:Nat}{c:Int}{pa ra:AV}{rws:List (List Int)}{g0:G}{K:AV->G->Prop}(hra:SlR NoP 0 .nil rws ra)(J:Nat->H->Prop)(E:G->Prop)
  (step:∀(j:Nat) (r:List Int) (z:AV) (g:G) (K':AV->G->Prop) (D:ADf->Prop),rws[j]?=some r->SlR NoP 0 .nil r z->g0.nx<=g.nx->J j g.h ->
   (∀g',J (j+1) g'.h->g.nx<=g'.nx->K' (.bool true) g')->(∀g',E g'->K' (.bool false) g')->(cI (I C0) d id [.int .i64 (j:Int),z] g).sat K' g D)
  (h0:J 0 g0.h) (fin:∀g',J rws.length g'.h->g0.nx<=g'.nx->K (.tup []) g') (finE:∀g',E g'->K (.tup []) g') :
  wp C0 d none eF.code (fnQ C0 d eF.res K) (bK 0 [.yld id,.tptr 0 3 [[.int .i64 c,pa,ra]] 0 0] .nil) [] g0:=by
 obtain ⟨rr,s1,s2,s3,s4⟩:=xB hra;simp only[sz,simprocAttr,eF,px,qU,eJ,hra.len];refine bj (m:=rws.length) hra.1 (λj t df g=>df=[]/\St t [(0,.yld id),(6,ra)]/\J j g.h/\g0.nx<=g.nx) ⟨rfl,by simp[St,sx],h0,Nat.le_refl _⟩ (by simp[sx]) (by simp[sx]) (by decide) (by rintro j t df g v s (rfl | rfl | rfl)<;>simp[St,sx]) ?_ ?_
 ·rintro j t df g hj ⟨rfl,⟨h0,h6,-⟩,hJ,hn⟩ h8 h7;obtain ⟨r,hr,-,-⟩:=ae hj;obtain ⟨z,q2,q3,hz⟩:=s3 j r hr;have hry:=s4 (by omega);simp only[sz,simprocAttr,h0,h6,h8,s1,q2,q3];show (cI (I C0) d id [.int .i64 (j:Int),z] g).sat _ _ _;refine step j r z g _ _ hr hz hn hJ (λg' hJ' hn'=>?_) λg' hE=>?_
  ·simp only[sz,simprocAttr,h7,h8];simp[St,sx,h0,h6,hJ',Nat.le_trans hn hn']
  ·simp only[sz,simprocAttr];exact finE g' hE
 ·rintro t df g ⟨rfl,-,hJ,hn⟩;simp only[sx,↓reduceIte];exact fin g hJ hn
theorem Ey:C0.ext N.OG=none:=by kernel_rfl
structure RowQ (b:Nat) (g2 g3:G) (e:Ex) (A B:Prop):Prop where
 nx:g2.nx<=g3.nx
 fr:∀i,b<=i->i<g2.nx->g3.h.get i=g2.h.get i
 st:(e=.norm/\A)\/(e=.ret/\B)
theorem J8 {d nt y p q:Nat}{c:Int}{pa ra:AV}{rws:List (List Int)}{ca cb:SC}{Q:QT}{t:T}{g:G}(hra:SlR NoP 0 .nil rws ra)(hv:tat t y=.clo N.OG [] [.tptr 0 3 [[.int .i64 c,pa,ra]] 0 0])(hp:p<nt)(hq:q<nt)
  (J:Nat->H->Prop) (E:H->Prop) (hJ:∀j h h',(∀i,i<g.nx->h'.get i=h.get i)->J j h->J j h') (hE:∀h h',(∀i,i<g.nx->h'.get i=h.get i)->E h->E h') (h0:J 0 g.h)
  (step:∀(j:Nat) (r:List Int) (z:AV) (g1:G),rws[j]?=some r->SlR NoP 0 .nil r z->J j g1.h->g.nx+2<=g1.nx ->
   wp C0 d (some (g.nx+1)) ca (λe t1 df g1'=>e=.norm/\df=[]/\g1'=g1/\∀g2:G,g2.nx=g1.nx->(∀i,i≠g.nx+1->g2.h.get i=g1.h.get i) ->
    wp C0 d (some (g.nx+1)) cb (λe _ df g3=>df=[]/\RowQ g.nx g2 g3 e (J (j+1) g3.h) (E g3.h)) t1 [] g2)
    (fO (fO t p (.int .i64 (j:Int))) q z) [] g1)
  (fin:∀g',J rws.length g'.h->g.nx+2<=g'.nx->g'.h.get g.nx=.dfr true->Q .norm t [.mark g.nx] g')
  (finE:∀g',E g'.h->g.nx+2<=g'.nx->g'.h.get g.nx=.dfr true->Q .ret t [.mark g.nx] g') :
  wp C0 d none (.rng nt (.t y) [p,q] ca cb) Q t [] g:=by
 refine zx (fn:=N.OG) (first:=[]) (cap:=[.tptr 0 3 [[.int .i64 c,pa,ra]] 0 0]) (s:=eF) hv Ey zL (by simp[eF]) ?_;intro assign body ha hb;have e1:((g.new (.dfr true)).new (.loop nt t [p,q] assign body g.nx .ready none)).nx=g.nx+2:=by simp
 refine J9 (g0:=(g.new (.dfr true)).new (.loop nt t [p,q] assign body g.nx .ready none)) (id:=g.nx+1) hra
  (λj h=>J j h/\h.get g.nx=.dfr true/\h.get (g.nx+1)=.loop nt t [p,q] assign body g.nx .ready none)
  (λg'=>E g'.h/\g'.h.get g.nx=.dfr true/\g'.h.get (g.nx+1)=.loop nt t [p,q] assign body g.nx .done (some .ret)/\g.nx+2<=g'.nx) ?_ ?_ ?_ ?_
 ·rintro j r z g1 K' D hr hz hn ⟨a1,a2,a3⟩ kk kE;rw[e1] at hn;refine HN a3 ha hb (t':=fO (fO t p (.int .i64 (j:Int))) q z) ?_ ?_
  ·simp only[dw,aa,Nat.blt_eq,if_pos hp,if_pos hq];rfl
  ·refine bQ _ (step j r z g1 hr hz a1 (by omega)) ?_;rintro e t1 df g1' ⟨rfl,rfl,rfl,h⟩;refine ⟨rfl,rfl,rfl,?_⟩;have hl:g.nx+1<g1'.nx:=by omega
   refine bQ _ (h (g1'.put (g.nx+1) (.loop nt t [p,q] assign body g.nx .busy none)) (by simp) (λi hi=>by simp[H.get_put,hi])) ?_;rintro e t2 df g3 ⟨rfl,⟨b2,b3,b1⟩⟩;have b4:g3.h.get (g.nx+1)=.loop nt t [p,q] assign body g.nx .busy none:=by rw[b3 _ (by omega) (by simpa using hl)];simp[H.get_put]
   have b5:g3.h.get g.nx=.dfr true:=by rw[b3 _ (by omega) (by simp;omega)];simp[H.get_put,a2]
   refine ⟨rfl,b4,?_⟩;rcases b1 with ⟨rfl,b1⟩ | ⟨rfl,b1⟩
   ·refine .inl ⟨rfl,kk _ ⟨hJ _ g3.h _ (λi hi=>by simp[H.get_put,show ¬i=g.nx+1 by omega]) b1,?_,?_⟩ (by simpa using b2)⟩
    ·simp[H.get_put,b5]
    ·simp[H.get_put]
   ·refine .inr ⟨rfl,kE _ ⟨hE g3.h _ (λi hi=>by simp[H.get_put,show ¬i=g.nx+1 by omega]) b1,?_,?_,?_⟩⟩
    ·simp[H.get_put,b5]
    ·simp[H.get_put]
    ·simp at b2 ⊢;omega
 ·refine ⟨hJ 0 g.h _ (λi hi=>?_) h0,?_,?_⟩
  ·simp[H.get_put,show ¬i=g.nx+1 by omega,show ¬i=g.nx by omega]
  ·simp[H.get_put]
  ·simp[H.get_put]
 ·rintro g' ⟨a1,a2,a3⟩ hn;rw[e1] at hn;refine ⟨_,_,_,_,_,_,.inl ⟨a3,fin _ (hJ _ g'.h _ (λi hi=>by simp[H.get_put,show ¬i=g.nx+1 by omega]) a1) (by simpa using hn) ?_⟩⟩;simp[H.get_put,a2]
 ·rintro g' ⟨a1,a2,a3,hn⟩;refine ⟨_,_,_,_,_,_,.inr ⟨a3,finE _ (hE g'.h _ (λi hi=>by simp[H.get_put,show ¬i=g.nx+1 by omega]) a1) (by simpa using hn) ?_⟩⟩;simp[H.get_put,a2]
abbrev NwM:Type:=Net×List Int×List Nat×List Int
theorem AY {P:Nat->Prop}{k:Nat}{h:H}{x:NwM}{cs:List AV}:Rp.rp P k h x cs↔∃a b c e,cs=[.int .i64 x.1.grain,a,b,c,e]/\SlR P k h x.1.nodes a/\SlR P k h x.2.1 b/\SlR P k h x.2.2.1 c/\SlR P k h x.2.2.2 e:=by
 constructor
 ·rintro ⟨c1,c2,rfl,h1,c3,c4,rfl,⟨b,rfl,hb⟩,c5,c6,rfl,⟨c,rfl,hc⟩,⟨e,rfl,he⟩⟩;obtain ⟨a,rfl,ha⟩:=cg.1 h1;exact ⟨a,b,c,e,rfl,ha,hb,hc,he⟩
 ·rintro ⟨a,b,c,e,rfl,ha,hb,hc,he⟩;exact ⟨[_,a],[b,c,e],rfl,cg.2 ⟨a,rfl,ha⟩,[b],[c,e],rfl,⟨b,rfl,hb⟩,[c],[e],rfl,⟨c,rfl,hc⟩,⟨e,rfl,he⟩⟩
theorem B_:∀{l:List Int},(∀x∈l,0<=x)->0<=l.sum
 | [],_=>by simp
 | x::l,h=>by have:=B_ (l:=l) λy hy=>h y (by simp[hy]);have:=h x (by simp);rw[List.sum_cons];omega
theorem DZ {l:List Int}(h:∀x∈l,0<=x)(j:Nat):(l.take j).sum<=l.sum:=by
 have:=B_ (l:=l.drop j) λx hx=>h x (List.mem_of_mem_drop hx);have e:l.sum=(l.take j).sum+(l.drop j).sum:=by rw[<-List.sum_append,List.take_append_drop]
 omega
theorem yT:∀{l:List Int},(∀x∈l,0<=x)->∀x∈l,x<=l.sum
 | [],_,x,hx=>by simp at hx
 | y::l,h,x,hx=>by
  have h1:=B_ (l:=l) λz hz=>h z (by simp[hz]);have h2:=h y (by simp);rw[List.sum_cons];rcases List.mem_cons.1 hx with rfl | hx
  ·omega
  ·have:=yT (l:=l) (λz hz=>h z (by simp[hz])) x hx;omega
def S.Pi (gr:Int)(cs:List Int)(x:Node):Bool:=decide ((x.rows.length:Int)=S.OH (S.OJ cs x.parents))&&x.rows.all (S.OW gr x.card)
structure FJ (gr:Int) (r:List Int) (z:AV) (j:Nat) (t:T):Prop where
 st:St t [(2,.hptr 0 0 0 0),(3,.hptr 1 0 0 0),(4,.hptr 2 0 0 0),(9,z),(40,z),(10,.int .i64 (gr - (r.take j).sum))]
 nn:∀x∈r.take j,0<=x
 le:(r.take j).sum<=gr
theorem Hr {d:Nat}{rd:Option Nat}{gr:Int}{r:List Int}{z:AV}{Q:QT}{t:T}{g:G}(hz:SlR NoP 0 .nil r z)(hg1:1<=gr/\gr<=60)
  (ht:St t [(2,.hptr 0 0 0 0),(3,.hptr 1 0 0 0),(4,.hptr 2 0 0 0),(9,z),(40,z),(10,.int .i64 gr)]) (h42:tat t 42=.int .i64 0) (h41:tat t 41=.int .i64 (r.length:Int)) (e2:g.h.get 2=.cells 1 [[.bool false]] 0 false false)
  (bad:∀t,(∀card,S.OW gr card r=false)->Q .ret t [] (g.put 2 (.cells 1 [[.bool false]] 0 false false)))
  (fin:∀t,(∀x∈r,0<=x)->r.sum<=gr->St t [(2,.hptr 0 0 0 0),(3,.hptr 1 0 0 0),(4,.hptr 2 0 0 0),(9,z),(10,.int .i64 (gr - r.sum))]->Q (.exit 4) t [] g) :
  wpL (wp C0 d rd di) Q t [] g:=by
 have rz:=λh=>(hz.tree (h':=h) (Nat.le_refl 0)).ints;simp only[di];refine bj (m:=r.length) hz.1 (λj t df g'=>df=[]/\g'=g/\FJ gr r z j t) ⟨rfl,rfl,by simpa using ht,by simp,by simp;omega⟩ h42 h41 (by decide)
  (by rintro j t df g v s (rfl | rfl | rfl) ⟨a1,a2,⟨b1,b2,b3,b4,b5,b6,-⟩,b7,b8⟩<;>exact ⟨a1,a2,by simp[St,sx,b1,b2,b3,b4,b5,b6],b7,b8⟩) ?_ ?_
 ·rintro j t df g' hj ⟨rfl,rfl,⟨⟨h2,h3,h4,h9,h40,h10,-⟩,hnn,hle⟩⟩ h42 h41;obtain ⟨y,hy,htk,hm⟩:=ae hj;have u1:j<(r.map ci).length:=by simpa using hj
  have u2:(r.map ci)[j]?=some (ci y):=by rw[List.getElem?_map,hy];rfl
  have hs0:=B_ hnn
  by_cases c1:y<0
  ·simp only[sz,simprocAttr,h4,h40,h42,rz,u1,u2,ci,c1,e2];exact bad _ (λcard=>by
    rw[<-Bool.not_eq_true,S.OW];simp only[Bool.and_eq_true,decide_eq_true_eq,List.all_eq_true];rintro ⟨⟨-,h⟩,-⟩;have:=h y hm;omega)
  ·by_cases c2:gr - (r.take j).sum<y
   ·simp only[sz,simprocAttr,h4,h40,h10,h42,rz,u1,u2,ci,c1,c2,e2];exact bad _ (λcard=>by
     rw[<-Bool.not_eq_true,S.OW];simp only[Bool.and_eq_true,decide_eq_true_eq,List.all_eq_true];rintro ⟨⟨-,h⟩,hs⟩;have h1:=DZ (l:=r) (λx hx=>(h x hx).1) (j+1);rw[htk,uP] at h1;omega)
   ·have w1:IntKind.wrap .i64 (gr - (r.take j).sum - y)=gr - (r.take (j+1)).sum:=by rw[ay (by omega) (by omega),htk,uP];omega
    simp only[sz,simprocAttr,h40,h10,h42,h41,rz,u1,u2,ci,c1,c2,w1];refine ⟨by simp[St,sx,h2,h3,h4,h9,h40],λx hx=>?_,by rw[htk,uP];omega⟩;rw[htk] at hx;rcases List.mem_append.1 hx with h | h
    ·exact hnn x h
    ·rw[List.mem_singleton.1 h];omega
 ·rintro t df g' ⟨rfl,rfl,⟨⟨h2,h3,h4,h9,h40,h10,-⟩,hnn,hle⟩⟩;rw[List.take_length] at hnn hle h10;exact fin t hnn hle ⟨h2,h3,h4,h9,h10,trivial⟩
structure FlJ (cs1 cs2:List AV) (gr card:Int) (rws:List (List Int)) (j:Nat) (h:H):Prop where
 a0:h.get 0=.cells 5 [cs1] 0 false false
 a1:h.get 1=.cells 3 [cs2] 0 false false
 a2:h.get 2=.cells 1 [[.bool false]] 0 false false
 all:∀r∈rws.take j,S.OW gr card r=true
structure FlE (gr card:Int) (rws:List (List Int)) (h:H):Prop where
 a2:h.get 2=.cells 1 [[.bool false]] 0 false false
 ex:∃r∈rws,S.OW gr card r=false
theorem Hs {d k1 k2:Nat}{g:G}{P1 P2:Nat->Prop}{v w:AV}{m:NwM}{x:Node}(hd:0<d)(hm:Agg m P1 k1 g.h v)(hx:Agg x P2 k2 g.h w)(hk:k2=0/\P2=NoP)(hg1:1<=m.1.grain/\m.1.grain<=60)(hc:∀c∈m.2.1,1<=c/\c<=4)
  (hp:∀p∈x.parents,0<=p/\p<m.2.1.length) (hpl:x.parents.length<=8):am C0 d N.O2 [v,w] g=.val (.bool (S.Pi m.1.grain m.2.1 x)):=by
 obtain ⟨rfl,rfl⟩:=hk;obtain ⟨v',e1,cs,rfl,hcs⟩:=jl (ch m) (by decide) d hm;obtain ⟨nb,cb,sb,ob,rfl,-,hcb,-,-⟩:=AY.1 hcs;have e2:=iS d hx;obtain ⟨cs2,rfl,hcs2⟩:=hx;obtain ⟨pa,ra,rfl,hpa,hra⟩:=bI.1 hcs2;have hcs2':∀h,Agg x NoP 0 h (.agg [.int .i64 x.card,pa,ra]):=λh=>⟨_,rfl,Rp.tree hcs2 (Nat.le_refl _)⟩;have hra:=hra.tree (h':=.nil) (Nat.le_refl 0);have rp:=λh=>(hpa.tree (h':=h) (Nat.le_refl 0)).ints;have rc:=λh=>(hcb.tree (h':=h) (Nat.le_refl _)).ints;have pl:=λg=>(hpa.tree (h':=.nil) (Nat.le_refl 0)).len g;have rl:=λg=>hra.len g;rw[nm];refine ej pR (xs:=[.agg [.int .i64 m.1.grain,nb,cb,sb,ob],.agg [.int .i64 x.card,pa,ra]]) (by simp only[aE,e1,e2]) (by simp[d6]) hd ?_;simp only[sz,simprocAttr,d6];obtain ⟨g0,hg0⟩:∃g0,g0=((G.empty.new (.cells 5 [[.int .i64 m.1.grain,nb,cb,sb,ob]] 0 false false)).new (.cells 3 [[.int .i64 x.card,pa,ra]] 0 false false)).new (.cells 1 [[.bool false]] 0 false false):=⟨_,rfl⟩;rw[<-hg0];have f0:g0.h.get 0=.cells 5 [[.int .i64 m.1.grain,nb,cb,sb,ob]] 0 false false:=by rw[hg0];simp[sx,H.get_put]
 have f1:g0.h.get 1=.cells 3 [[.int .i64 x.card,pa,ra]] 0 false false:=by rw[hg0];simp[sx,H.get_put]
 have f2:g0.h.get 2=.cells 1 [[.bool false]] 0 false false:=by rw[hg0];simp[sx]
 have f3:g0.nx=3:=by rw[hg0];simp[sx]
 clear hg0;simp only[sz,simprocAttr,gG,f1,pl,fU];refine bj (m:=x.parents.length) (by omega) (λj t df g=>df=[]/\g=g0/\St t [(2,.hptr 0 0 0 0),(3,.hptr 1 0 0 0),(4,.hptr 2 0 0 0),(14,pa),(5,.int .i64 (S.OH (S.OJ m.2.1 (x.parents.take j))))])
  ⟨rfl,rfl,by simp[St,sx,S.OH,S.OJ]⟩ (by simp[sx]) (by simp[sx]) (by decide) (by rintro j t df g v s (rfl | rfl | rfl)<;>simp[St,sx]) ?_ ?_
 ·rintro j t df g hj ⟨rfl,rfl,⟨h2,h3,h4,h14,h5,-⟩⟩ h16 h15;obtain ⟨p,hpj,htk,hm2⟩:=ae hj;obtain ⟨p0,p1⟩:=hp p hm2;obtain ⟨p,rfl⟩:=Int.eq_ofNat_of_zero_le p0;have hpl2:p<m.2.1.length:=by omega
  have u1:j<(x.parents.map ci).length:=by simpa using hj
  have u2:(x.parents.map ci)[j]?=some (ci (p:Int)):=by rw[List.getElem?_map,hpj];rfl
  have u3:p<(m.2.1.map ci).length:=by simpa using hpl2
  have u4:(m.2.1.map ci)[p]?=some (ci m.2.1[p]):=by rw[List.getElem?_map,List.getElem?_eq_getElem hpl2];rfl
  have e3:S.OH (S.OJ m.2.1 (x.parents.take (j+1)))=S.OH (S.OJ m.2.1 (x.parents.take j))*m.2.1[p]:=by rw[htk,ET,zb];congr 1;simp[S.OJ,S.OH,List.getElem?_eq_getElem hpl2]
  have hpb:=bV (l:=S.OJ m.2.1 (x.parents.take (j+1))) (gU hc λq hq=>hp q (List.mem_of_mem_take hq));have hp4:=iF (a:=(S.OJ m.2.1 (x.parents.take (j+1))).length) (b:=8) (by simp[S.OJ];omega);have h48:(4:Int) ^ 8=65536:=by decide
  have w1:IntKind.wrap .i64 (S.OH (S.OJ m.2.1 (x.parents.take j))*m.2.1[p])=S.OH (S.OJ m.2.1 (x.parents.take (j+1))):=by rw[<-e3,ay (by omega) (by omega)]
  simp only[sz,simprocAttr,h2,h14,h5,h16,h15,f0,rp,rc,u1,u2,u3,u4,ci,w1];simp[St,sx,h2,h3,h4,h14]
 rintro t df g ⟨rfl,rfl,⟨h2,h3,h4,h14,h5,-⟩⟩;rw[List.take_length] at h5;simp only[fX]
 by_cases c1:(x.rows.length:Int)=S.OH (S.OJ m.2.1 x.parents)
 ·obtain ⟨pa',ra',er,hpa',hra'⟩:=JD (d:=d+1) (g:=g) (Nat.succ_pos d) (hcs2' g.h);refine jN (P:=λt' df g'=>df=[]/\g'=g/\St t' [(2,.hptr 0 0 0 0),(3,.hptr 1 0 0 0),(4,.hptr 2 0 0 0)]) ?_ ?_
  ·simp only[sz,simprocAttr,h3,h5,f1,rl,c1];simp[St,sx,h2,h3,h4]
  clear h2 h3 h4 h5 h14;rintro t df g ⟨rfl,rfl,h2,h3,h4,-⟩;rw[dU,dU];simp only[sz,simprocAttr,h3,f1,er];refine J8 (c:=x.card) (pa:=pa') hra' (by simp[sx]) (by decide) (by decide)
   (FlJ [.int .i64 m.1.grain,nb,cb,sb,ob] [.int .i64 x.card,pa,ra] m.1.grain x.card x.rows)
   (FlE m.1.grain x.card x.rows) ?_ ?_ ⟨f0,f1,f2,by simp⟩ ?_ ?_ ?_
  ·rintro j h h' hh ⟨a0,a1,a2,a3⟩;exact ⟨by rw[hh 0 (by omega),a0],by rw[hh 1 (by omega),a1],by rw[hh 2 (by omega),a2],a3⟩
  ·rintro h h' hh ⟨a2,a3⟩;exact ⟨by rw[hh 2 (by omega),a2],a3⟩
  ·rintro j r z g1 hr hz ⟨a0,a1,a2,a3⟩ hn;obtain ⟨r',hr',htk,hrm⟩:=ae (l:=x.rows) (j:=j) (List.getElem?_eq_some_iff.1 hr).1;rw[hr] at hr';injection hr' with hr';subst hr';simp only[sz,simprocAttr,fT];intro g2 hg2n hg2;have b0:g2.h.get 0=.cells 5 [[.int .i64 m.1.grain,nb,cb,sb,ob]] 0 false false:=by rw[hg2 0 (by omega),a0]
   have b1:g2.h.get 1=.cells 3 [[.int .i64 x.card,pa,ra]] 0 false false:=by rw[hg2 1 (by omega),a1]
   have b2:g2.h.get 2=.cells 1 [[.bool false]] 0 false false:=by rw[hg2 2 (by omega),a2]
   simp only[sz,simprocAttr,fV,h2,b0,hz.len];refine Hr (gr:=m.1.grain) (r:=r) (z:=z) hz hg1 (by simp[St,sx,h2,h3,h4]) (by simp[sx]) (by simp[sx]) b2 ?_ ?_
   ·rintro t hrow;simp only[sx,sy];exact ⟨by simp,λi h1 h2=>by simp[H.get_put,show ¬i=2 by omega],.inr ⟨rfl,by simp[H.get_put],r,hrm,hrow _⟩⟩
   ·rintro t hnn hle ⟨h2,h3,h4,h9,h10,-⟩;have hzl:=λg=>hz.len g
    by_cases c2:(r.length:Int)=x.card
    ·by_cases c3:m.1.grain - r.sum=0
     ·simp only[sz,simprocAttr,bO,h3,h9,h10,hzl,b1,c2,c3];refine ⟨Nat.le_refl _,λi _ _=>rfl,.inl ⟨rfl,b0,b1,b2,λy hy=>?_⟩⟩;rw[htk] at hy;rcases List.mem_append.1 hy with h | h
      ·exact a3 y h
      ·rw[List.mem_singleton.1 h,S.OW];simp only[Bool.and_eq_true,decide_eq_true_eq,List.all_eq_true];exact ⟨⟨c2,λq hq=>⟨hnn q hq,by have:=yT hnn q hq;omega⟩⟩,by omega⟩
     ·have hro:S.OW m.1.grain x.card r=false:=by rw[S.OW];simp;intros;omega
      simp only[sz,simprocAttr,bO,h3,h4,h9,h10,hzl,b1,b2,c2,c3];exact ⟨by simp,λi h1 h2=>by simp[H.get_put,show ¬i=2 by omega],.inr ⟨rfl,by simp[H.get_put],r,hrm,hro⟩⟩
    ·have hro:S.OW m.1.grain x.card r=false:=by rw[S.OW];simp[c2]
     simp only[sz,simprocAttr,bO,h3,h4,h9,hzl,b1,b2,c2];exact ⟨by simp,λi h1 h2=>by simp[H.get_put,show ¬i=2 by omega],.inr ⟨rfl,by simp[H.get_put],r,hrm,hro⟩⟩
  ·rintro g' ⟨a0,a1,a2,a3⟩ hn hdf;rw[List.take_length] at a3;have hok:S.Pi m.1.grain m.2.1 x=true:=by rw[S.Pi,List.all_eq_true.2 a3];simp[c1]
   simp only[sz,simprocAttr,fW,h4,a2];refine rN (by simp[H.get_put,show ¬g.nx=2 by omega,hdf]) ?_;simp only[sx,sy,↓reduceIte,Nat.reduceEqDiff,h4,hok];simp[show ¬(2=g.nx) by omega]
   rfl
  ·rintro g' ⟨a2,r,hr,hro⟩ hn hdf;have hok:S.Pi m.1.grain m.2.1 x=false:=by
    rw[S.Pi];have:x.rows.all (S.OW m.1.grain x.card)=false:=by rw[<-Bool.not_eq_true,List.all_eq_true];intro h;rw[h r hr] at hro;cases hro
    rw[this,Bool.and_false]
   simp only[sx];refine rN hdf ?_;simp only[sx,sy,↓reduceIte,Nat.reduceEqDiff,h4,hok];rw[if_neg (by omega),a2]
   rfl
 ·simp only[sz,simprocAttr,h3,h4,h5,f1,f2,rl,c1];rw[S.Pi];simp[c1]
theorem BK:∀{l:List Int} {v:Nat},(∀x∈l,0<=x/\x<64)->((S.OP l).testBit v=true↔(v:Int)∈l):=by
 have key:∀(l:List Int) (s v:Nat),(∀x∈l,0<=x/\x<64)->((l.foldl (λs x=>s ||| S.O9 x.toNat) s).testBit v=true↔s.testBit v=true\/(v:Int)∈l):=by
  intro l
  induction l with
  | nil=>intro s v _;simp
  | cons x l ih =>
   intro s v h;have hx:=h x (by simp);rw[List.foldl_cons,ih _ _ λy hy=>h y (by simp[hy]),rt,xQ (show x.toNat<64 by omega),Bool.or_eq_true,decide_eq_true_eq,List.mem_cons];constructor
   ·rintro ((h | h) | h)
    ·exact .inl h
    ·exact .inr (.inl (by omega))
    ·exact .inr (.inr h)
   ·rintro (h | h | h)
    ·exact .inl (.inl h)
    ·exact .inl (.inr (by omega))
    ·exact .inr h
 intro l v h;have:=key l 0 v h;simpa [S.OP] using this
theorem Ju {l:List Int}{k:Nat}(hk:k<=64)(h:∀x∈l,0<=x/\x<k):S.OP l<2 ^ k:=by
 have hb:∀i,k<=i->(S.OP l).testBit i=false:=λi hi=>by rw[<-Bool.not_eq_true,BK λx hx=>by have:=h x hx;omega];intro hm;have:=h _ hm;omega
 exact Nat.lt_pow_two_of_testBit _ λi hi=>hb i hi
structure RdH (n:Net) (b cv sv:AV) (q:Nat) (X:List Int) (Y:List Nat) (g:G):Prop where
 h0:g.h.get 0=.cells 2 [[.int .i64 n.grain,b]] 0 false false
 h1:g.h.get 1=.cells 5 [[.int .i64 0,.nils,.nils,.nils,.nils]] 0 false false
 hq:g.h.get q=.cells 5 [[.int .i64 n.grain,b,cv,sv,.nils]] 0 false false
 hc:Own g 2 cv 1 (X.map ci)
 hs:Own g 2 sv 1 (Y.map cu)
 q2:2<=q
 qn:q<g.nx
 d1:vid cv≠some q
 d2:vid sv≠some q
 d3:∀i,vid cv=some i->vid sv≠some i
theorem RdH.fr {n:Net}{b cv sv:AV}{q:Nat}{X:List Int}{Y:List Nat}{g g':G}(h:RdH n b cv sv q X Y g)(f:Fr g g'):RdH n b cv sv q X Y g' :=
 ⟨by rw[f.2 0 (by have:=h.qn;have:=h.q2;omega),h.h0],by rw[f.2 1 (by have:=h.qn;have:=h.q2;omega),h.h1],by rw[f.2 q h.qn,h.hq],h.hc.step f,h.hs.step f,h.q2,Nat.lt_of_lt_of_le h.qn f.1,h.d1,h.d2,h.d3⟩
def S.PG (n:Net)(o:List Int):NwM:=if S.O2 n then (n,S.OG n,S.OO n,o) else (⟨0,[]⟩,[],[],[])
def Cj (n:Net):VS:=λP k h v=>∃o:List Int,True/\Bc (Agg (S.PG n o)) (One (if S.O2 n then (0:Int) else 50)) P k h v
section
variable {d:Nat}{n:Net}{b cv sv:AV}{q:Nat}{rows:List (List AV)}
def LRd (q:Nat):List (Nat×AV):=[(1,.hptr 0 0 0 0),(2,.hptr 1 0 0 0),(4,.hptr q 0 0 0)]
theorem Nx {t:T}{g:G}(hn:¬NR n)(h1:g.h.get 1=.cells 5 [[.int .i64 0,.nils,.nils,.nils,.nils]] 0 false false)(t2:tat t 2=.hptr 1 0 0 0)(t3:tat t 3=.int .i64 50) :
  fnQ C0 d kw.res (λv g'=>∃P,Cj n P 0 g'.h v) .ret t [] g:=by
 have hf:S.O2 n=false:=by
  cases h:S.O2 n with
  | false=>rfl
  | true=>exact absurd (fL.1 h) hn
 simp only[kw,sx,sy,↓reduceIte,Nat.reduceAdd,Nat.reduceLeDiff,t2,t3,h1];refine ⟨λ_=>True,[],trivial,_,_,rfl,⟨_,rfl,?_⟩,?_⟩
 ·rw[S.PG,hf];exact AY.2 ⟨.nils,.nils,.nils,.nils,rfl,⟨by show 0<9223372036854775808;decide,rfl⟩,⟨by show 0<9223372036854775808;decide,rfl⟩,⟨by show 0<9223372036854775808;decide,rfl⟩,⟨by show 0<9223372036854775808;decide,rfl⟩⟩
 ·rw[hf];exact aL.2 rfl
structure Rd0 (n:Net) (b cv sv:AV) (q j:Nat) (t:T) (g:G):Prop where
 st:St t ((48,b)::(5,.int .i64 (S.OH ((S.OG n).take j)))::LRd q)
 hp:RdH n b cv sv q ((S.OG n).take j++List.replicate (n.nodes.length - j) 0) (List.replicate n.nodes.length 0) g
 ok:∀x∈n.nodes.take j,1<=x.card/\x.card<=4
theorem LT {Q:QT}{t:T}{g:G}(hl:n.nodes.length<=8)(hN:SlR NoP 0 .nil n.nodes b)(r1:∀h,ah h 3 b=some rows)(r2:rows.length=n.nodes.length)
  (r3:∀(i:Nat) (x:Node),n.nodes[i]?=some x->∃pa ra,rows[i]?=some [.int .i64 x.card,pa,ra]/\i<rows.length/\SlR NoP 0 .nil x.parents pa/\SlR NoP 0 .nil x.rows ra) (r4:0<n.nodes.length->jS b=true)
  (h0:Rd0 n b cv sv q 0 t g) (h50:tat t 50=.int .i64 0) (h49:tat t 49=.int .i64 (n.nodes.length:Int))
  (bad:∀t g,¬NR n->g.h.get 1=.cells 5 [[.int .i64 0,.nils,.nils,.nils,.nils]] 0 false false->tat t 2=.hptr 1 0 0 0->tat t 3=.int .i64 50->Q .ret t [] g)
  (fin:∀t g,Rd0 n b cv sv q n.nodes.length t g->Q (.exit 0) t [] g):wpL (wp C0 d none mE) Q t [] g:=by
 simp only[mE];refine bj (m:=n.nodes.length) (by omega) (λj t df g=>df=[]/\Rd0 n b cv sv q j t g) ⟨rfl,h0⟩ h50 h49 (by decide)
  (by rintro j t df g v s (rfl | rfl | rfl) ⟨a1,⟨b1,b2,b3,b4,b5,-⟩,c1,c2⟩<;>exact ⟨a1,by simp[St,LRd,sx,b1,b2,b3,b4,b5],c1,c2⟩) ?_ ?_
 ·rintro j t df g hj ⟨rfl,⟨⟨h48,h5,h1,h2,h4,-⟩,hp,hok⟩⟩ h50 h49;obtain ⟨x,hx,htk,hxm⟩:=ae hj;obtain ⟨pa,ra,q1,hlt,hpa,hra⟩:=r3 j x hx;have hry:=r4 (by omega);have q2:=hp.q2;have qn:=hp.qn;have hne1:¬(1=g.nx):=by omega
  have hneq:¬(q=g.nx):=by omega
  have f1:Fr g (g.new (.cells 3 [[.int .i64 0,.nils,.nils]] 0 false false)):=Fr.new _ _;have badn:¬(1<=x.card/\x.card<=4)->¬NR n:=λh hr=>h (hr.card x hxm)
  by_cases c1:x.card<1
  ·simp only[sz,simprocAttr,h2,h48,h50,r1,hlt,q1,hp.h1,hne1,c1];exact bad _ _ (badn (by omega)) (by simp[H.get_put]) (by simp[sx,h2]) (by simp[sx])
  ·by_cases c2:4<x.card
   ·simp only[sz,simprocAttr,h2,h48,h50,r1,hlt,q1,hp.h1,hne1,c1,c2];exact bad _ _ (badn (by omega)) (by simp[H.get_put]) (by simp[sx,h2]) (by simp[sx])
   ·have hall:∀y∈n.nodes.take (j+1),1<=y.card/\y.card<=4:=λy hy=>by
     rw[htk] at hy;rcases List.mem_append.1 hy with h | h
     ·exact hok y h
     ·rw[List.mem_singleton.1 h];omega
    have hcb:∀c∈(S.OG n).take (j+1),1<=c/\c<=4:=λc hc=>by rw[S.OG,<-List.map_take] at hc;obtain ⟨y,hy,rfl⟩:=List.mem_map.1 hc;exact hall y hy
    have hpb:=bV hcb;have hp4:=iF (a:=((S.OG n).take (j+1)).length) (b:=8) (by rw[List.length_take];omega);have h48':(4:Int) ^ 8=65536:=by decide
    have hcj:(S.OG n)[j]?=some x.card:=by simp[S.OG,hx]
    have ets:(S.OG n).take (j+1)=(S.OG n).take j++[x.card]:=by rw[List.take_add_one,hcj];rfl
    have e1:S.OH ((S.OG n).take (j+1))=S.OH ((S.OG n).take j)*x.card:=by rw[ets];exact rU _ _
    have w1:IntKind.wrap .i64 (S.OH ((S.OG n).take j)*x.card)=S.OH ((S.OG n).take (j+1)):=by rw[<-e1,ay (by omega) (by omega)]
    have hlj:((S.OG n).take j).length=j:=by rw[List.length_take,aG];omega
    have hXr:(((S.OG n).take j++List.replicate (n.nodes.length - j) 0).map ci)[j]?=some (ci 0):=by rw[List.getElem?_map,List.getElem?_append_right (by omega),hlj,Nat.sub_self,List.getElem?_replicate,if_pos (by omega)];rfl
    have hXl:j<(((S.OG n).take j++List.replicate (n.nodes.length - j) 0).map ci).length:=by simp[aG];omega
    have hXs:((S.OG n).take j++List.replicate (n.nodes.length - j) 0).set j x.card=(S.OG n).take (j+1)++List.replicate (n.nodes.length - (j+1)) 0:=by rw[List.set_append_right _ _ (by omega),hlj,Nat.sub_self,ets,show n.nodes.length - j=(n.nodes.length - (j+1))+1 by omega,List.replicate_succ,List.set_cons_zero,List.append_assoc];rfl
    have hp2:=hp.fr f1;obtain ⟨g2,hg2⟩:∃g2,g2=(g.new (.cells 3 [[.int .i64 0,.nils,.nils]] 0 false false)).put g.nx (.cells 3 [[.int .i64 x.card,pa,ra]] 0 false false):=⟨_,rfl⟩;have f2:Fr g g2:=by rw[hg2];exact Mz (by simp) λi hi=>by simp[H.get_put,show ¬i=g.nx by omega]
    have hp3:=hp.fr f2;have f7:g2.h.get g.nx=.cells 3 [[.int .i64 x.card,pa,ra]] 0 false false:=by rw[hg2];simp[H.get_put]
    refine iO (P:=λt' df g'=>df=[]/\g'=g2/\St t' ((48,b)::(5,.int .i64 (S.OH ((S.OG n).take j)))::LRd q)/\tat t' 6=.int .i64 (j:Int)/\tat t' 7=.hptr g.nx 0 0 0/\tat t' 50=.int .i64 (j:Int)/\tat t' 49=.int .i64 (n.nodes.length:Int)) ?_ ?_
    ·simp only[sz,simprocAttr,h48,h49,h50,r1,hlt,q1];rw[hg2];simp[St,LRd,sx,h1,h2,h4,h5,h48]
    clear h1 h2 h4 h5 h48 h49 h50;rintro t df g3 ⟨rfl,rfl,⟨h48,h5,h1,h2,h4,-⟩,h6,h7,h50,h49⟩;have hcr:=hp3.hc.rows;simp only[sz,simprocAttr,h4,h6,h7,f7,hp3.hq,hcr,hXl,c1,c2];refine cN (v:=cv) (sz:=1) (n:=1) (i:=j) (off:=0) (x:=.int .i64 x.card) (row':=ci x.card) hp3.hc hXr rfl rfl rfl λg4 hu4 n4 f4=>?_;rw[o_,hXs] at hu4;have f74:g4.h.get g.nx=.cells 3 [[.int .i64 x.card,pa,ra]] 0 false false:=by rw[f4 _ λe=>by have:=(hp.hc.lt e).2;omega,f7]
    simp only[sz,simprocAttr,h5,h7,h49,h50,f74,w1];refine ⟨by simp[St,LRd,sx,h1,h2,h4,h48],⟨?_,?_,?_,hu4,?_,q2,by rw[n4];exact hp3.qn,hp.d1,hp.d2,hp.d3⟩,hall⟩
    ·rw[f4 0 λe=>by have:=(hp.hc.lt e).1;omega,hp3.h0]
    ·rw[f4 1 λe=>by have:=(hp.hc.lt e).1;omega,hp3.h1]
    ·rw[f4 q hp.d1,hp3.hq]
    ·exact hp3.hs.fr (by omega) λi hi=>f4 i λe=>hp.d3 i e hi
 ·rintro t df g ⟨rfl,h⟩;exact fin t g h
end
end
end Hx
end
section
namespace Hx
open Go
noncomputable section
def gT (ps:List Int)(i:Nat):Int:=if i=0 then -1 else ps[i - 1]?.getD 0
theorem wA {ps:List Int}{i:Nat}{p:Int}(h:ps[i]?=some p):gT ps (i+1)=p:=by unfold gT;rw[if_neg (by omega),Nat.add_sub_cancel,h];rfl
structure PlI (ps:List Int) (k:Int) (v i:Nat):Prop where
 rng:∀(j:Nat) (p:Int),j<i->ps[j]?=some p->0<=p/\p<k/\p≠(v:Int)
 inc:∀(j:Nat) (p q:Int),j+1<i->ps[j]?=some p->ps[j+1]?=some q->p<q
theorem JT {ps:List Int}{k:Int}{v i:Nat}{p:Int}(h:PlI ps k v i)(hp:ps[i]?=some p)(h1:gT ps i<p)(h2:p<k)(h3:p≠(v:Int)):PlI ps k v (i+1):=by
 refine ⟨λj q hj hq=>?_,λj a c hj ha hc=>?_⟩
 ·by_cases e:j=i
  ·subst e;rw[hp] at hq;injection hq with hq;subst hq;refine ⟨?_,h2,h3⟩
   by_cases e0:j=0
   ·subst e0;unfold gT at h1;simp at h1;omega
   ·have hj1:j - 1<ps.length:=by have:=(List.getElem?_eq_some_iff.1 hp).1;omega
    have:=h.rng (j - 1) ps[j - 1] (by omega) (List.getElem?_eq_getElem hj1);unfold gT at h1;rw[if_neg e0,List.getElem?_eq_getElem hj1,Option.getD_some] at h1;omega
  ·exact h.rng j q (by omega) hq
 ·by_cases e:j+1=i
  ·subst e;rw[hp] at hc;injection hc with hc;subst hc;rw[wA ha] at h1;exact h1
  ·exact h.inc j a c (by omega) ha hc
theorem EU {ps:List Int}{k:Int}{v:Nat}(h:PlI ps k v ps.length):S.OS ps k=true:=by
 unfold S.OS;rw[List.all_eq_true];intro i hi;have hi:=List.mem_range.1 hi;have hp:ps[i]?=some ps[i]:=List.getElem?_eq_getElem hi;obtain ⟨r1,r2,-⟩:=h.rng i _ hi hp
 by_cases e:i=0
 ·subst e;simp only[S.O4,hp,Option.getD_some];simp;omega
 ·have hq:ps[i - 1]?=some ps[i - 1]:=List.getElem?_eq_getElem (by omega);have:=h.inc (i - 1) _ ps[i] (by omega) hq (by rw[show i - 1+1=i by omega];exact hp);simp only[S.O4,hp,hq,Option.getD_some];simp;omega
theorem NR.pl {n:Net}(h:NR n){v:Nat}{x:Node}(hx:n.nodes[v]?=some x){i:Nat}{p:Int}(hp:x.parents[i]?=some p):gT x.parents i<p/\p<n.nodes.length/\p≠(v:Int):=by
 have hm:=List.mem_of_getElem? hx;have hpl:=h.places x hm;have h1:=dP hpl p (List.mem_of_getElem? hp);have hl2:=h.l2;refine ⟨?_,h1.2,λe=>?_⟩
 ·unfold gT
  split
  ·omega
  ·rename_i e;have hil:=(List.getElem?_eq_some_iff.1 hp).1;have hq:x.parents[i - 1]?=some x.parents[i - 1]:=List.getElem?_eq_getElem (by omega);rw[hq,Option.getD_some];exact y9 hpl hq (by rw[show i - 1+1=i by omega];exact hp)
 ·have hv:=(List.getElem?_eq_some_iff.1 hx).1;have ha:=xM.1 h.acyc v (by simp[S.OO];exact hv);have hpar:Par (S.OO n) v=S.OP x.parents:=by simp[Par,S.OO,hx]
  have hb:(Par (S.OO n) v).testBit v=true:=by rw[hpar,BK λy hy=>by have:=dP hpl y hy;omega,<-e];exact List.mem_of_getElem? hp
  have:=Cd (p:=S.OO n) (s:=Par (S.OO n) v) (S.OO n).length v hb;rw[this] at ha;cases ha
section
variable {d:Nat}{n:Net}{b cv sv:AV}{q:Nat}{rows:List (List AV)}
def S.O7 (n:Net)(j:Nat)(m:Nat):List Nat:=(S.OO n).take j++m::List.replicate (n.nodes.length - (j+1)) 0
structure Rd1 (n:Net) (x:Node) (b cv sv pa:AV) (q j p9 i:Nat) (t:T) (g:G):Prop where
 st:St t ((80,b)::(81,.int .i64 (n.nodes.length:Int))::(82,.int .i64 (j:Int))::(88,pa)::(8,.int .i64 (j:Int))::(9,.hptr p9 0 0 0)::(10,.int .i64 (gT x.parents i))::LRd q)
 hp:RdH n b cv sv q (S.OG n) (S.O7 n j (S.OP (x.parents.take i))) g
 ok:PlI x.parents n.nodes.length j i
theorem LU {Q:QT}{t:T}{g:G}{x:Node}{pa:AV}{j p9:Nat}{c9:List AV}(hl:n.nodes.length<=8)(hN:SlR NoP 0 .nil n.nodes b)(hx:n.nodes[j]?=some x)(hpa:SlR NoP 0 .nil x.parents pa)
  (h0:Rd1 n x b cv sv pa q j p9 0 t g) (h90:tat t 90=.int .i64 0) (h89:tat t 89=.int .i64 (x.parents.length:Int)) (e9:g.h.get p9=.cells 3 [c9] 0 false false) (p9s:vid sv≠some p9)
  (bad:∀t g,¬NR n->g.h.get 1=.cells 5 [[.int .i64 0,.nils,.nils,.nils,.nils]] 0 false false->tat t 2=.hptr 1 0 0 0->tat t 3=.int .i64 50->Q .ret t [] g)
  (fin:∀t g',Rd1 n x b cv sv pa q j p9 x.parents.length t g'->g'.h.get p9=.cells 3 [c9] 0 false false->g.nx<=g'.nx->Q (.exit 4) t [] g'):wpL (wp C0 d none mF) Q t [] g:=by
 have hjl:=(List.getElem?_eq_some_iff.1 hx).1;have nl:=λg=>hN.len g;have rp:=λh=>(hpa.tree (h':=h) (Nat.le_refl 0)).ints;have hpsl:(S.OO n).length=n.nodes.length:=by simp[S.OO]
 have hypl:((S.OO n).take j).length=j:=by rw[List.length_take,hpsl];omega
 simp only[mF];refine bj (m:=x.parents.length) hpa.1 (λi t df g'=>df=[]/\Rd1 n x b cv sv pa q j p9 i t g'/\g'.h.get p9=.cells 3 [c9] 0 false false/\g.nx<=g'.nx) ⟨rfl,h0,e9,Nat.le_refl _⟩ h90 h89 (by decide)
  (by rintro i t df g v s (rfl | rfl | rfl) ⟨a1,⟨⟨b1,b2,b3,b4,b5,b6,b7,b8,b9,b10,-⟩,c1,c2⟩,c3⟩<;>exact ⟨a1,⟨by simp[St,LRd,sx,b1,b2,b3,b4,b5,b6,b7,b8,b9,b10],c1,c2⟩,c3⟩) ?_ ?_
 ·rintro i t df g hi ⟨rfl,⟨⟨h80,h81,h82,h88,h8,h9,h10,h1,h2,h4,-⟩,hp,hok⟩,e9,en⟩ h90 h89;obtain ⟨p,hpi,htk,-⟩:=ae hi;have u1:i<(x.parents.map ci).length:=by simpa using hi
  have u2:(x.parents.map ci)[i]?=some (ci p):=by rw[List.getElem?_map,hpi];rfl
  have badn:¬(gT x.parents i<p/\p<n.nodes.length/\p≠(j:Int))->¬NR n:=λh hr=>h (hr.pl hx hpi);have q2:=hp.q2
  by_cases c1:p<=gT x.parents i
  ·simp only[sz,simprocAttr,h2,h10,h88,h90,rp,u1,u2,ci,hp.h1,c1];exact bad _ _ (badn (by omega)) (by simp[H.get_put]) (by simp[sx,h2]) (by simp[sx])
  by_cases c2:(n.nodes.length:Int)<=p
  ·simp only[sz,simprocAttr,h2,h4,h10,h88,h90,rp,u1,u2,ci,hp.hq,nl,hp.h1,c1,c2];exact bad _ _ (badn (by omega)) (by simp[H.get_put]) (by simp[sx,h2]) (by simp[sx])
  by_cases c3:p=(j:Int)
  ·subst c3;simp only[sz,simprocAttr,h2,h4,h8,h10,h88,h90,rp,u1,u2,ci,hp.hq,nl,hp.h1,c1,c2,eq_self];exact bad _ _ (badn (by omega)) (by simp[H.get_put]) (by simp[sx,h2]) (by simp[sx])
  have hok2:=JT hok hpi (by omega) (by omega) c3;obtain ⟨p0,-,-⟩:=hok2.rng i p (by omega) hpi;obtain ⟨p,rfl⟩:=Int.eq_ofNat_of_zero_le p0;have hYr:((S.O7 n j (S.OP (x.parents.take i))).map cu)[j]?=some (cu (S.OP (x.parents.take i))):=by rw[List.getElem?_map,S.O7,List.getElem?_append_right (by omega),hypl,Nat.sub_self];rfl
  have hYl:j<((S.O7 n j (S.OP (x.parents.take i))).map cu).length:=by simp[S.O7,hpsl];omega
  have hYs:(S.O7 n j (S.OP (x.parents.take i))).set j (S.OP (x.parents.take (i+1)))=S.O7 n j (S.OP (x.parents.take (i+1))):=by simp only[S.O7];rw[List.set_append_right _ _ (by omega),hypl,Nat.sub_self,List.set_cons_zero]
  have em:S.OP (x.parents.take (i+1))=S.OP (x.parents.take i) ||| S.O9 p:=by rw[htk,AQ];rfl
  have hshl:cq .shl (.int .u64 1) (.int .i64 (p:Int))=.val (.int .u64 (S.O9 p:Int)):=qd .i64 p;have hor:=Bg (S.OP (x.parents.take i)) (S.O9 p) (rQ _) (u7 p);rw[<-em] at hor;have hsr:=hp.hs.rows;have hls:=wA hpi;refine jN (P:=λt' df g'=>df=[]/\g'=g/\St t' ((80,b)::(81,.int .i64 (n.nodes.length:Int))::(82,.int .i64 (j:Int))::(88,pa)::(8,.int .i64 (j:Int))::(9,.hptr p9 0 0 0)::(10,.int .i64 (gT x.parents i))::LRd q)/\tat t' 12=.int .i64 (p:Int)/\tat t' 90=.int .i64 (i:Int)/\tat t' 89=.int .i64 (x.parents.length:Int)) ?_ ?_
  ·simp only[sz,simprocAttr,h88,h90,rp,u1,u2,ci];simp[St,LRd,sx,h1,h2,h4,h8,h9,h10,h80,h81,h82,h88,h89]
  clear h1 h2 h4 h8 h9 h10 h80 h81 h82 h88 h89 h90;rintro t df g' ⟨rfl,rfl,⟨h80,h81,h82,h88,h8,h9,h10,h1,h2,h4,-⟩,h12,h90,h89⟩;refine jN (P:=λt' df g''=>df=[]/\g''=g'/\St t' ((80,b)::(81,.int .i64 (n.nodes.length:Int))::(82,.int .i64 (j:Int))::(88,pa)::(8,.int .i64 (j:Int))::(9,.hptr p9 0 0 0)::(10,.int .i64 (gT x.parents i))::LRd q)/\tat t' 12=.int .i64 (p:Int)/\tat t' 90=.int .i64 (i:Int)/\tat t' 89=.int .i64 (x.parents.length:Int)) ?_ ?_
  ·simp only[sz,simprocAttr,h4,h8,h10,h12,h89,h90,hp.hq,nl,c1,c2,c3];simp[St,LRd,sx,h1,h2,h4,h8,h9,h10,h80,h81,h82,h88]
  clear h1 h2 h4 h8 h9 h10 h12 h80 h81 h82 h88 h89 h90;rintro t df g'' ⟨rfl,rfl,⟨h80,h81,h82,h88,h8,h9,h10,h1,h2,h4,-⟩,h12,h90,h89⟩;simp only[sz,simprocAttr,sf,h4,h8,h12,hp.hq,hsr,hYl,hYr,cu,hshl,hor];refine cN (v:=sv) (sz:=1) (n:=1) (i:=j) (off:=0) (x:=.int .u64 (S.OP (x.parents.take (i+1)):Int)) (row':=cu (S.OP (x.parents.take (i+1)))) (hp.hs.fr (by simp;omega) λi _=>by simp) hYr rfl rfl rfl λg4 hu4 n4 f4=>?_;rw[show (((S.O7 n j (S.OP (x.parents.take i))).map cu).set j (cu (S.OP (x.parents.take (i+1)))))=(S.O7 n j (S.OP (x.parents.take (i+1)))).map cu from by rw[<-List.map_set,hYs]] at hu4;have f4':∀i,vid sv≠some i->g4.h.get i=g''.h.get i:=λi hi=>by rw[f4 i hi];simp
  have n4':g''.nx<=g4.nx:=by rw[n4];simp;omega
  simp only[sx,sy,↓reduceIte,Nat.reduceEqDiff];refine ⟨?_,⟨⟨?_,⟨?_,?_,?_,?_,?_,q2,?_,hp.d1,hp.d2,hp.d3⟩,hok2⟩,?_,?_⟩,h90,h89⟩
  ·simp only[List.reverse_cons,List.reverse_nil,List.nil_append,List.cons_append];exact aO [false,false,false,false,false,false,false,false,false,true] [] (by simp[All2,ap,aF]) (by decide) (by simp)
  ·rw[hls];simp[St,LRd,sx,h1,h2,h4,h8,h9,h80,h81,h82,h88]
  ·simp only[bumpG_h];rw[f4' 0 λe=>by have:=(hp.hs.lt e).1;omega,hp.h0]
  ·simp only[bumpG_h];rw[f4' 1 λe=>by have:=(hp.hs.lt e).1;omega,hp.h1]
  ·simp only[bumpG_h];rw[f4' q hp.d2,hp.hq]
  ·exact hp.hc.fr (by simp;omega) λi hi=>by simp only[bumpG_h];exact f4' i (hp.d3 i hi)
  ·exact hu4.fr (by simp) λi _=>by simp
  ·have:=hp.qn;simp;omega
  ·rw[f4' p9 p9s,e9]
  ·omega
 ·rintro t df g' ⟨rfl,h,e9,en⟩;exact fin t g' h e9 en
end
end
end Hx
end
