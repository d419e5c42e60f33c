/- A part of the proof: an interpreter over abstract values, shown right against the model, and what the functions of the chapter compute on it. -/
import Derived.Test.YteaikmdilmfbeaaGreatHx11
set_option linter.unusedVariables false
set_option linter.unusedSimpArgs false
set_option linter.unnecessarySimpa false
section
namespace Hx
open Go
section
variable {p:List Nat}
theorem AN:Hh p 0:=⟨λv _ hb=>by simp at hb,λv _ hb=>by simp at hb⟩
theorem C8 {q:Nat}(ih:Hh p q){j:Nat}(hj:j<64)(hd:Sub (Par p j) q):Hh p (q ||| S.aK j):=by
 refine ⟨λv hv hb=>?_,λv hv hb=>?_⟩
 ·intro u hu;rw[sH,xQ hj,Bool.or_eq_true,decide_eq_true_eq] at hb;rw[sH,Bool.or_eq_true];rcases hb with hb | hb
  ·exact .inl (ih.1 v hv hb u hu)
  ·subst hb;exact .inl (hd u hu)
 ·rw[sH,xQ hj,Bool.or_eq_true,decide_eq_true_eq] at hb;cases hq:q.testBit v
  ·rw[hq] at hb;simp at hb;subst hb;rw[<-Bool.not_eq_true];intro hu;have:=FE ih.1 hd p.length j hu;rw[hq] at this;cases this
  ·exact ih.2 v hv hq
theorem um {q:Nat}(h:Hh p q)(hf:∀v,v<p.length->q.testBit v=true):S.bh p=true :=
 ul.2 λv hv=>h.2 v hv (hf v hv)
theorem Bn (hp:∀x∈p,x<2 ^ p.length)(h:S.bh p=true){T:Nat}(hst:∀v,v<p.length->T.testBit v=false->¬Sub (Par p v) T):∀v,v<p.length->T.testBit v=true:=by
 rw[ul] at h;have none:∀r v,v<p.length->T.testBit v=false->S.up p (Par p v) p.length=r->False:=by
  intro r
  induction r using Nat.strongRecOn with
  | _ r ih =>
   intro v hv hb hr;have hns:=hst v hv hb;have:∃u,(Par p v).testBit u=true/\T.testBit u=false:=by
    apply Classical.byContradiction;intro hno;apply hns;intro u hu;cases hc:T.testBit u
    ·exact absurd ⟨u,hu,hc⟩ hno
    ·rfl
   obtain ⟨u,hu,hub⟩:=this;have hul:u<p.length:=K2 (Fc hp) hu;have hcl:=Ix hp (s:=Par p v) (Fc hp);have hin:(S.up p (Par p v) p.length).testBit u=true:=xI _ u hu;have hsub:Sub (S.up p (Par p u) p.length) (S.up p (Par p v) p.length):=FE hcl (hcl u hul hin) _;have hlt:S.up p (Par p u) p.length<S.up p (Par p v) p.length:=by refine Nat.lt_of_le_of_ne (Oh hsub) λe=>?_;have:=h u hul;rw[e,hin] at this;cases this
   exact ih _ (by omega) u hul hub rfl
 intro v hv;cases hc:T.testBit v
 ·exact (none _ v hv hc rfl).elim
 ·rfl
end
end Hx
end
section
namespace Hx
open Go
theorem mM:∀a b:List Int,S.af (a++b)=S.af a*S.af b
 | [],b=>by simp[S.af]
 | x::a,b=>by rw[List.cons_append,c_,c_,mM a b,Int.mul_assoc]
theorem sS:∀{a va:List Int} (b vb:List Int),a.length=va.length->S.ah (a++b) (va++vb)=S.ah a va*S.af b+S.ah b vb
 | [],[],b,vb,_=>by simp[S.ah]
 | [],_::_,_,_,h=>by simp at h
 | _::_,[],_,_,h=>by simp at h
 | c::a,v::va,b,vb,h=>by rw[List.cons_append,List.cons_append,S.ah,S.ah,sS b vb (by simpa using h),mM,Int.add_mul,Int.mul_assoc];omega
theorem DT:∀{cs vs:List Int} (a:Int),(∀c∈cs,1<=c)->InC cs vs->S.bX cs (a*S.af cs+S.ah cs vs)=a
 | [],[],a,_,_=>by simp[S.bX,S.af,S.ah]
 | [],_::_,_,_,h=>by cases h
 | _::_,[],_,_,h=>by cases h
 | c::cs,v::vs,a,hc,h=>by
  obtain ⟨⟨h1,h2⟩,h3⟩:=h;have ih:=DT (cs:=cs) (vs:=vs) (a*c+v) (λx hx=>hc x (by simp[hx])) h3;have e:a*S.af (c::cs)+S.ah (c::cs) (v::vs)=(a*c+v)*S.af cs+S.ah cs vs:=by rw[c_,S.ah,Int.add_mul,Int.mul_assoc];omega
  rw[e];show S.bX cs _ / c=a;rw[ih,Int.add_comm,Int.add_mul_ediv_right _ _ (by omega),Int.ediv_eq_zero_of_lt h1 h2];omega
theorem AE:∀{cs vs:List Int} (a:Int) (i:Nat),(∀c∈cs,1<=c)->InC cs vs->i<cs.length->S.bY cs (a*S.af cs+S.ah cs vs) i=vs[i]?.getD 0
 | [],_,_,_,_,_,hi=>by simp at hi
 | _::_,[],_,_,_,h,_=>by cases h
 | c::cs,v::vs,a,i,hc,h,hi=>by
  obtain ⟨⟨h1,h2⟩,h3⟩:=h;have hc':∀x∈cs,1<=x:=λx hx=>hc x (by simp[hx]);have e:a*S.af (c::cs)+S.ah (c::cs) (v::vs)=(a*c+v)*S.af cs+S.ah cs vs:=by rw[c_,S.ah,Int.add_mul,Int.mul_assoc];omega
  rw[e];cases i with
  | zero =>
   show S.bX cs _ % c=v;rw[DT _ hc' h3,Int.add_comm,Int.add_mul_emod_self_right,Int.emod_eq_of_lt h1 h2]
  | succ i =>
   have:=AE (a*c+v) i hc' h3 (by simpa using hi);simpa [S.bY] using this
theorem qy {cs vs:List Int}(hc:∀c∈cs,1<=c)(h:InC cs vs):S.an cs (S.ah cs vs)=vs:=by
 have hl:=h.len;refine List.ext_getElem (by simp[S.an,hl]) λi h1 h2=>?_;have hi:i<cs.length:=by simpa [S.an] using h1
 have:=AE 0 i hc h hi;rw[Int.zero_mul,Int.zero_add,List.getElem?_eq_getElem h2,Option.getD_some] at this;simp[S.an,this]
theorem ea {cs:List Int}(hc:∀c∈cs,1<=c)(h:Int):InC cs (S.an cs h):=by refine BK (by simp[S.an]) λi c v h1 h2=>?_;have hi:=(List.getElem?_eq_some_iff.1 h1).1;rw[S.an,List.getElem?_map,List.getElem?_range hi,Option.map_some,Option.some.injEq] at h2;have hcc:=hc c (List.mem_of_getElem? h1);rw[<-h2,S.bY,h1,Option.getD_some];exact ⟨Int.emod_nonneg _ (by omega),Int.emod_lt_of_pos _ (by omega)⟩
theorem mX (cs:List Int)(h:Int):(S.an cs h).length=cs.length:=by simp[S.an]
theorem lJ:∀{cs:List Int},(∀c∈cs,1<=c)->1<=S.af cs
 | [],_=>by decide
 | c::cs,h=>by rw[c_];have h1:=h c (by simp);have h2:=lJ (cs:=cs) λx hx=>h x (by simp[hx]);exact Int.le_trans h1 (by have:=Int.mul_le_mul_of_nonneg_left h2 (show 0<=c by omega);omega)
theorem pA:∀(cs:List Int) (n:Nat),S.ah cs (List.replicate n 0)=0
 | [],n=>by cases n<;>rfl
 | _::_,0=>rfl
 | c::cs,n+1=>by rw[List.replicate_succ,S.ah,pA cs n];simp
theorem uK:∀{cs vs:List Int},cs.length=vs.length->(∀(i:Nat) (c:Int),cs[i]?=some c->vs[i]?.getD 0=c - 1)->S.ah cs vs=S.af cs - 1
 | [],[],_,_=>by decide
 | [],_::_,h,_=>by simp at h
 | _::_,[],h,_=>by simp at h
 | c::cs,v::vs,hl,h=>by
  have h0:=h 0 c rfl;have ih:=uK (cs:=cs) (vs:=vs) (by simpa using hl) λi x hx=>by have:=h (i+1) x (by simpa using hx);simpa using this
  simp at h0;rw[S.ah,ih,c_,h0,Int.sub_mul];omega
theorem yN {cs vs:List Int}(hl:cs.length=vs.length){i:Nat}{x:Int}(hi:vs[i]?=some x)(hm:∀(j:Nat) (c:Int),i<j->cs[j]?=some c->vs[j]?.getD 0=c - 1) :
  S.ah cs (vs.take i++(x+1)::List.replicate (vs.length - (i+1)) 0)=S.ah cs vs+1:=by
 have hil:=(List.getElem?_eq_some_iff.1 hi).1;obtain ⟨c,hc⟩:∃c,cs[i]?=some c:=⟨_,List.getElem?_eq_getElem (by omega)⟩;have e1:cs=cs.take i++c::cs.drop (i+1):=by have:=List.drop_eq_getElem_cons (l:=cs) (i:=i) (by omega);rw[List.getElem?_eq_getElem (by omega),Option.some.injEq] at hc;rw[<-hc,<-this,List.take_append_drop]
 have e2:vs=vs.take i++x::vs.drop (i+1):=by have:=List.drop_eq_getElem_cons (l:=vs) (i:=i) hil;rw[List.getElem?_eq_getElem hil,Option.some.injEq] at hi;rw[<-hi,<-this,List.take_append_drop]
 have hlt:(cs.take i).length=(vs.take i).length:=by simp[hl]
 have hmx:S.ah (cs.drop (i+1)) (vs.drop (i+1))=S.af (cs.drop (i+1)) - 1:=by refine uK (by simp[hl]) λj d hj=>?_;rw[List.getElem?_drop] at hj ⊢;exact hm _ d (by omega) hj
 have h1:S.ah cs vs=S.ah (cs.take i) (vs.take i)*S.af (c::cs.drop (i+1))+(x*S.af (cs.drop (i+1))+S.ah (cs.drop (i+1)) (vs.drop (i+1))):=by
  conv=>lhs;rw[e1,e2,sS _ _ hlt,S.ah]
 have h2:S.ah cs (vs.take i++(x+1)::List.replicate (vs.length - (i+1)) 0)=S.ah (cs.take i) (vs.take i)*S.af (c::cs.drop (i+1))+((x+1)*S.af (cs.drop (i+1))+0):=by
  conv=>lhs;rw[e1,sS _ _ hlt,S.ah,pA]
 rw[h2,h1,hmx,Int.add_mul];omega
end Hx
end
section
namespace Hx
open Go
def S.aa (n:Net):List Int:=n.nodes.map (·.card)
def S.ae (cs ps:List Int):List Int:=ps.map λp=>cs[p.toNat]?.getD 0
def S.aq (n:Net):List Nat:=n.nodes.map λx=>S.ap x.parents
def S.aQ (gr card:Int)(r:List Int):Bool:=decide ((r.length:Int)=card)&&r.all (λx=>decide (0<=x)&&decide (x<=gr))&&decide (r.sum=gr)
def S.b_ (k:Int)(x:Node):Bool:=decide (1<=x.card)&&decide (x.card<=4)&&S.aw x.parents k
def S.cd (n:Net)(x:Node):Bool:=decide ((x.rows.length:Int)=S.af (S.ae (S.aa n) x.parents))&&x.rows.all (S.aQ n.grain x.card)
def S.aP (n:Net):Bool:=decide (1<=n.grain)&&decide (n.grain<=60)&&decide (1<=n.nodes.length)&&decide (n.nodes.length<=8)&&n.nodes.all (S.b_ n.nodes.length)&&decide (S.af (S.aa n)<=1024)&&S.bh (S.aq n)&&n.nodes.all (S.cd n)
structure NR (n:Net):Prop where
 g1:1<=n.grain
 g2:n.grain<=60
 l1:1<=n.nodes.length
 l2:n.nodes.length<=8
 card:∀x∈n.nodes,1<=x.card/\x.card<=4
 places:∀x∈n.nodes,S.aw x.parents n.nodes.length=true
 worlds:S.af (S.aa n)<=1024
 acyc:S.bh (S.aq n)=true
 rows:∀x∈n.nodes,(x.rows.length:Int)=S.af (S.ae (S.aa n) x.parents)
 row:∀x∈n.nodes,∀r∈x.rows,(r.length:Int)=x.card/\(∀y∈r,0<=y/\y<=n.grain)/\r.sum=n.grain
theorem dw {n:Net}:S.aP n=true↔NR n:=by
 simp only[S.aP,S.b_,S.cd,S.aQ,Bool.and_eq_true,decide_eq_true_eq,List.all_eq_true];constructor
 ·rintro ⟨⟨⟨⟨⟨⟨⟨a,b⟩,c⟩,d⟩,e⟩,f⟩,g⟩,h⟩;exact ⟨a,b,c,d,λx hx=>(e x hx).1,λx hx=>(e x hx).2,f,g,λx hx=>(h x hx).1,λx hx r hr=>⟨((h x hx).2 r hr).1.1,((h x hx).2 r hr).1.2,((h x hx).2 r hr).2⟩⟩
 ·rintro ⟨a,b,c,d,e1,e2,f,g,h1,h2⟩;exact ⟨⟨⟨⟨⟨⟨⟨a,b⟩,c⟩,d⟩,λx hx=>⟨e1 x hx,e2 x hx⟩⟩,f⟩,g⟩,λx hx=>⟨h1 x hx,λr hr=>⟨⟨(h2 x hx r hr).1,(h2 x hx r hr).2.1⟩,(h2 x hx r hr).2.2⟩⟩⟩
theorem bm {l:List Int}{k:Int}(h:S.aw l k=true):∀x∈l,0<=x/\x<k:=by
 intro x hx;obtain ⟨i,hi,he⟩:=List.mem_iff_getElem.1 hx;have:=List.all_eq_true.1 h i (List.mem_range.2 hi);have e:l[i]?.getD 0=x:=by rw[List.getElem?_eq_getElem hi,he];rfl
 simp only[S.a9,Bool.and_eq_true,decide_eq_true_eq,e] at this;omega
theorem qj {l:List Int}{k:Int}(h:S.aw l k=true){i:Nat}{x y:Int}(hx:l[i]?=some x)(hy:l[i+1]?=some y):x<y:=by have hi:=(List.getElem?_eq_some_iff.1 hy).1;have:=List.all_eq_true.1 h (i+1) (List.mem_range.2 hi);simp only[S.a9,Bool.and_eq_true,decide_eq_true_eq,hy,Option.getD_some,Nat.add_sub_cancel,hx] at this;simp at this;omega
theorem A0 {l:List Int}{k:Int}(h:S.aw l k=true):∀{i j:Nat} {x y:Int},l[i]?=some x->l[j]?=some y->i<j->x<y:=by
 intro i j
 induction j with
 | zero=>intro x y _ _ h;omega
 | succ j ih =>
  intro x y hx hy hij;have hj:=(List.getElem?_eq_some_iff.1 hy).1;have hz:l[j]?=some l[j]:=List.getElem?_eq_getElem (by omega);have h1:=qj h hz hy
  by_cases e:i=j
  ·subst e;rw[hx] at hz;injection hz with hz;omega
  ·have:=ih hx hz (by omega);omega
theorem bV {l:List Int}{k:Int}(h:S.aw l k=true)(hk:0<=k):(l.length:Int)<=k:=by
 have key:∀(i:Nat) (x:Int),l[i]?=some x->(i:Int)<=x:=by
  intro i
  induction i with
  | zero=>intro x hx;have:=bm h x (List.mem_of_getElem? hx);omega
  | succ i ih =>
   intro x hx;have hi:=(List.getElem?_eq_some_iff.1 hx).1;have h1:=ih l[i] (List.getElem?_eq_getElem (by omega));have:=qj h (List.getElem?_eq_getElem (show i<l.length by omega)) hx;omega
 by_cases hl:l.length=0
 ·omega
 ·have h1:=key (l.length - 1) l[l.length - 1] (List.getElem?_eq_getElem (by omega));have h2:=bm h _ (List.getElem_mem (show l.length - 1<l.length by omega));omega
theorem NR.cs {n:Net}(h:NR n):∀c∈S.aa n,1<=c/\c<=4:=λc hc=>by obtain ⟨x,hx,rfl⟩:=List.mem_map.1 hc;exact h.card x hx
theorem aA (n:Net):(S.aa n).length=n.nodes.length:=by simp[S.aa]
theorem aM {cs ps:List Int}(hc:∀c∈cs,1<=c/\c<=4)(hp:∀p∈ps,0<=p/\p<cs.length):∀c∈S.ae cs ps,1<=c/\c<=4:=λc h=>by obtain ⟨p,h1,rfl⟩:=List.mem_map.1 h;have h2:=hp p h1;rw[List.getElem?_eq_getElem (by omega),Option.getD_some];exact hc _ (List.getElem_mem _)
theorem dx {cs ps vals:List Int}(h:InC cs vals)(hp:∀p∈ps,0<=p/\p<cs.length):InC (S.ae cs ps) (S.ae vals ps):=by refine BK (by simp[S.ae]) λi c v h1 h2=>?_;simp only[S.ae,List.getElem?_map,Option.map_eq_some_iff] at h1 h2;obtain ⟨p,h3,rfl⟩:=h1;obtain ⟨p',h4,rfl⟩:=h2;rw[h3] at h4;injection h4 with h4;subst h4;have h5:=hp p (List.mem_of_getElem? h3);have h6:cs[p.toNat]?=some cs[p.toNat]:=List.getElem?_eq_getElem (by omega);obtain ⟨v,h7,h8⟩:=h.get h6;rw[h6,h7,Option.getD_some,Option.getD_some];exact h8
theorem cy (cs a b:List Int):S.ae cs (a++b)=S.ae cs a++S.ae cs b:=by simp[S.ae]
def S.aD (n:Net)(vals:List Int)(v:Nat):Int:=match n.nodes[v]? with
 | none=>1
 | some x=>(x.rows[(S.ah (S.ae (S.aa n) x.parents) (S.ae vals x.parents)).toNat]?.getD [])[(vals[v]?.getD 0).toNat]?.getD 0
def S.aX (n:Net)(vals:List Int):Int:=S.af ((List.range n.nodes.length).map (S.aD n vals))
theorem NR.pin {n:Net}(h:NR n){x:Node}(hx:x∈n.nodes):∀p∈x.parents,0<=p/\p<(S.aa n).length:=λp hp=>by rw[aA];exact bm (h.places x hx) p hp
theorem yH {n:Net}(h:NR n){vals:List Int}(hv:InC (S.aa n) vals){v:Nat}{x:Node}(hx:n.nodes[v]?=some x) :
  ∃(i:Nat) (r:List Int) (c y:Int),S.ah (S.ae (S.aa n) x.parents) (S.ae vals x.parents)=(i:Int)/\i<x.rows.length/\x.rows[i]?=some r/\vals[v]?=some c/\0<=c/\c<x.card/\r[c.toNat]?=some y/\S.aD n vals v=y/\0<=y/\y<=n.grain:=by
 have hm:=List.mem_of_getElem? hx;have hi:=bE (aM h.cs (h.pin hm)) (dx hv (h.pin hm));rw[<-h.rows x hm] at hi;obtain ⟨i,he⟩:=Int.eq_ofNat_of_zero_le hi.1;have hil:i<x.rows.length:=by omega
 have hc:(S.aa n)[v]?=some x.card:=by simp[S.aa,hx]
 obtain ⟨c,h1,h2,h3⟩:=hv.get hc;obtain ⟨r1,r2,-⟩:=h.row x hm x.rows[i] (List.getElem_mem hil);have hcl:c.toNat<(x.rows[i]).length:=by omega
 refine ⟨i,x.rows[i],c,(x.rows[i])[c.toNat],he,hil,List.getElem?_eq_getElem hil,h1,h2,h3,List.getElem?_eq_getElem hcl,?_,r2 _ (List.getElem_mem hcl)⟩;simp only[S.aD,hx,he,h1,Int.toNat_natCast,List.getElem?_eq_getElem hil,Option.getD_some,List.getElem?_eq_getElem hcl]
theorem uV:∀{l:List Int},(∀x∈l,0<=x/\x<=60)->0<=S.af l/\S.af l<=60 ^ l.length
 | [],_=>by decide
 | x::l,h=>by have h1:=uV (l:=l) λy hy=>h y (by simp[hy]);have h2:=h x (by simp);rw[c_,List.length_cons,Int.pow_succ,Int.mul_comm x];refine ⟨Int.mul_nonneg h1.1 h2.1,Int.le_trans (Int.mul_le_mul_of_nonneg_left h2.2 h1.1) (Int.mul_le_mul_of_nonneg_right h1.2 (by decide))⟩
theorem OQ {k:Nat}(h:k<=8):(60:Int) ^ k<=167961600000000:=by
 have hk:k=0\/k=1\/k=2\/k=3\/k=4\/k=5\/k=6\/k=7\/k=8:=by omega
 rcases hk with rfl | rfl | rfl | rfl | rfl | rfl | rfl | rfl | rfl<;>decide
theorem HG {n:Net}(h:NR n){vals:List Int}(hv:InC (S.aa n) vals){v:Nat}(hi:v<n.nodes.length):0<=S.aD n vals v/\S.aD n vals v<=60:=by obtain ⟨i,r,c,y,-,-,-,-,-,-,-,e,a,b⟩:=yH h hv (List.getElem?_eq_getElem hi);have:=h.g2;omega
theorem ox {n:Net}(h:NR n){vals:List Int}(hv:InC (S.aa n) vals){j:Nat}(hj:j<=n.nodes.length):0<=S.af ((List.range j).map (S.aD n vals))/\S.af ((List.range j).map (S.aD n vals))<=167961600000000:=by
 have h1:=uV (l:=(List.range j).map (S.aD n vals)) λx hx=>by obtain ⟨i,hi,rfl⟩:=List.mem_map.1 hx;exact HG h hv (by have:=List.mem_range.1 hi;omega)
 have h2:=OQ (k:=((List.range j).map (S.aD n vals)).length) (by have:=h.l2;simp;omega);omega
theorem zI (n:Net)(vals:List Int)(j:Nat):S.af ((List.range (j+1)).map (S.aD n vals))=S.af ((List.range j).map (S.aD n vals))*S.aD n vals j:=by rw[List.range_succ,List.map_append,List.map_singleton,wj]
def S.au (n:Net)(p:Nat->Bool):Nat->Int
 | 0=>0
 | j+1=>S.au n p j+if p j then S.aX n (S.an (S.aa n) (j:Int)) else 0
theorem tB {n:Net}(h:NR n){vals:List Int}(hv:InC (S.aa n) vals):0<=S.aX n vals/\S.aX n vals<=167961600000000:=ox h hv (Nat.le_refl _)
theorem uj {n:Net}(h:NR n)(p:Nat->Bool):∀j:Nat,0<=S.au n p j/\S.au n p j<=167961600000000*j
 | 0=>by simp[S.au]
 | j+1=>by
  have ih:=uj h p j;have hw:=tB h (ea (λc hc=>(h.cs c hc).1) (j:Int));rw[S.au]
  split<;>omega
def S.am (n:Net):Nat:=(S.af (S.aa n)).toNat
def S.aT (n:Net)(e:List Int):Int:=S.au n (λw=>S.bL (S.an (S.aa n) (w:Int)) e) (S.am n)
theorem NR.wl {n:Net}(h:NR n):1<=S.am n/\S.am n<=1024/\((S.am n:Nat):Int)=S.af (S.aa n):=by have h1:=lJ λc hc=>(h.cs c hc).1;have h2:=h.worlds;unfold S.am;omega
theorem wK {n:Net}(h:NR n)(e:List Int):0<=S.aT n e/\S.aT n e<=171992678400000000:=by have h1:=uj h (λw=>S.bL (S.an (S.aa n) (w:Int)) e) (S.am n);have h2:=h.wl;unfold S.aT;omega
def S.aI (n:Net)(e:List Int):Bool:=decide (e.length=n.nodes.length)&&(List.range e.length).all λv=>decide (-1<=e[v]?.getD 0)&&decide (e[v]?.getD 0<(S.aa n)[v]?.getD 0)
def S.ay (n:Net)(e:List Int):Int:=if S.aP n then (if S.aI n e then 0 else 2) else 50
end Hx
end
section
namespace Hx
open Go
section
variable {b card:Nat}
def S.aB (b card i x:Nat):Nat:=(i / b*card+x)*b+i % b
def S.aO (b card p:Nat):Nat:=p / (b*card)*b+p % b
def S.a_ (b card p:Nat):Nat:=p / b % card
theorem GP (hb:0<b){i x:Nat}(hx:x<card):S.aO b card (S.aB b card i x)=i/\S.a_ b card (S.aB b card i x)=x:=by
 have hm:=Nat.mod_lt i hb;have h1:S.aB b card i x / b=i / b*card+x:=by unfold S.aB;rw[Nat.add_comm,Nat.add_mul_div_right _ _ hb,Nat.div_eq_of_lt hm,Nat.zero_add]
 have h2:S.aB b card i x % b=i % b:=by unfold S.aB;rw[Nat.add_comm,Nat.add_mul_mod_self_right,Nat.mod_mod]
 have h3:(i / b*card+x) / card=i / b:=by rw[Nat.add_comm,Nat.add_mul_div_right _ _ (by omega),Nat.div_eq_of_lt hx,Nat.zero_add]
 have h4:(i / b*card+x) % card=x:=by rw[Nat.add_comm,Nat.add_mul_mod_self_right,Nat.mod_eq_of_lt hx]
 refine ⟨?_,?_⟩
 ·unfold S.aO;rw[<-Nat.div_div_eq_div_mul,h1,h2,h3,Nat.mul_comm];exact Nat.div_add_mod i b
 ·unfold S.a_;rw[h1,h4]
theorem NV (hb:0<b)(p:Nat):S.aB b card (S.aO b card p) (S.a_ b card p)=p:=by
 have hm:=Nat.mod_lt p hb;have h1:S.aO b card p / b=p / (b*card):=by unfold S.aO;rw[Nat.add_comm,Nat.add_mul_div_right _ _ hb,Nat.div_eq_of_lt hm,Nat.zero_add]
 have h2:S.aO b card p % b=p % b:=by unfold S.aO;rw[Nat.add_comm,Nat.add_mul_mod_self_right,Nat.mod_mod]
 unfold S.aB S.a_;rw[h1,h2,<-Nat.div_div_eq_div_mul,Nat.mul_comm (p / b / card) card,Nat.div_add_mod,Nat.mul_comm];exact Nat.div_add_mod p b
theorem Gn (hc:0<card)(p:Nat):S.a_ b card p<card:=Nat.mod_lt _ hc
theorem LR {A p:Nat}(hb:0<b)(hp:p<A*b*card):S.aO b card p<A*b:=by have h1:p / (b*card)<A:=Nat.div_lt_of_lt_mul (by rw[Nat.mul_comm (b*card),<-Nat.mul_assoc];exact hp);have hm:=Nat.mod_lt p hb;unfold S.aO;have:(p / (b*card)+1)*b<=A*b:=Nat.mul_le_mul_right _ h1;rw[Nat.add_mul,Nat.one_mul] at this;omega
theorem BJ {A i x:Nat}(hb:0<b)(hi:i<A*b)(hx:x<card):S.aB b card i x<A*b*card:=by have h1:i / b<A:=Nat.div_lt_of_lt_mul (by rw[Nat.mul_comm];exact hi);have hm:=Nat.mod_lt i hb;unfold S.aB;have h2:(i / b+1)*card<=A*card:=Nat.mul_le_mul_right _ h1;rw[Nat.add_mul,Nat.one_mul] at h2;have h3:(i / b*card+x+1)*b<=A*card*b:=Nat.mul_le_mul_right _ (by omega);rw[Nat.add_mul (i / b*card+x),Nat.one_mul,Nat.mul_assoc A,Nat.mul_comm card b,<-Nat.mul_assoc] at h3;omega
def S.aJ (rows:List (List Int))(b card t:Nat):List Int:=(List.range (rows.length*card)).map λp=>if S.aO b card p*card+S.a_ b card p<t then (rows[S.aO b card p]?.getD [])[S.a_ b card p]?.getD 0 else 0
def S.bI (rows:List (List Int))(b card:Nat):List Int:=(List.range (rows.length*card)).map λp=>(rows[S.aO b card p]?.getD [])[S.a_ b card p]?.getD 0
theorem CX (rows:List (List Int))(b card t:Nat):(S.aJ rows b card t).length=rows.length*card:=by simp[S.aJ]
theorem HI (rows:List (List Int))(b card:Nat):S.aJ rows b card 0=List.replicate (rows.length*card) 0:=by refine List.ext_getElem (by simp[S.aJ]) λi h1 h2=>?_;simp[S.aJ]
theorem HH {rows:List (List Int)}{A i x:Nat}{r:List Int}{w:Int}(hb:0<b)(hA:rows.length=A*b)(hr:rows[i]?=some r)(hx:x<card)(hw:r[x]?=some w) :
  (S.aJ rows b card (i*card+x)).set (S.aB b card i x) w=S.aJ rows b card (i*card+x+1):=by
 have hi:=(List.getElem?_eq_some_iff.1 hr).1;refine List.ext_getElem (by simp[S.aJ]) λp h1 h2=>?_;have hp:p<rows.length*card:=by simpa [S.aJ] using h2
 obtain ⟨q1,q2⟩:=GP hb (i:=i) hx;rw[List.getElem_set]
 by_cases e:S.aB b card i x=p
 ·subst e;rw[if_pos rfl];simp only[S.aJ,List.getElem_map,List.getElem_range,q1,q2];rw[if_pos (by omega),hr,Option.getD_some,hw,Option.getD_some]
 ·rw[if_neg e];simp only[S.aJ,List.getElem_map,List.getElem_range];have hf:=Gn (b:=b) (card:=card) (by omega) p;have hne:S.aO b card p*card+S.a_ b card p≠i*card+x:=λh=>e (by
   have e1:S.aO b card p=i:=by
    have h1:(S.aO b card p*card+S.a_ b card p) / card=S.aO b card p:=by rw[Nat.add_comm,Nat.add_mul_div_right _ _ (by omega),Nat.div_eq_of_lt hf,Nat.zero_add]
    have h2:(i*card+x) / card=i:=by rw[Nat.add_comm,Nat.add_mul_div_right _ _ (by omega),Nat.div_eq_of_lt hx,Nat.zero_add]
    rw[<-h1,h,h2]
   have e2:S.a_ b card p=x:=by rw[e1] at h;omega
   rw[<-NV hb p (card:=card),e1,e2])
  by_cases h:S.aO b card p*card+S.a_ b card p<i*card+x
  ·rw[if_pos h,if_pos (by omega)]
  ·rw[if_neg h,if_neg (by omega)]
theorem Je {rows:List (List Int)}{A:Nat}(hb:0<b)(hA:rows.length=A*b):S.aJ rows b card (rows.length*card)=S.bI rows b card:=by
 unfold S.aJ S.bI;refine List.map_congr_left λp hp=>?_;have hp:=List.mem_range.1 hp;have hc:0<card:=Nat.pos_of_ne_zero λe=>by subst e;simp at hp
 have h1:=LR (A:=A) hb (by rw[<-hA];exact hp);have h2:=Gn (b:=b) hc p;rw[if_pos];rw[<-hA] at h1;have:(S.aO b card p+1)*card<=rows.length*card:=Nat.mul_le_mul_right _ h1;rw[Nat.add_mul,Nat.one_mul] at this;omega
theorem LI {rows:List (List Int)}{A i x:Nat}(hb:0<b)(hA:rows.length=A*b)(hi:i<rows.length)(hx:x<card):(S.bI rows b card)[S.aB b card i x]?=some ((rows[i]?.getD [])[x]?.getD 0):=by obtain ⟨q1,q2⟩:=GP hb (i:=i) hx;have hp:=BJ (A:=A) (i:=i) hb (by rw[<-hA];exact hi) hx;simp only[S.bI,List.getElem?_map];rw[List.getElem?_range (by rw[hA];exact hp)];simp only[Option.map_some,q1,q2]
end
def S.ax (ps:List Int)(k:Nat)(v:Int):List Int:=ps.take k++v::ps.drop k
theorem NC {n:Net}(h:NR n){vals:List Int}(hv:InC (S.aa n) vals){v:Nat}{x:Node}(hx:n.nodes[v]?=some x)(k:Nat) :
  ∃p:Nat,S.ah (S.ae (S.aa n) (S.ax x.parents k (v:Int))) (S.ae vals (S.ax x.parents k (v:Int)))=(p:Int)/\p<x.rows.length*x.card.toNat /\
   (S.bI x.rows (S.af (S.ae (S.aa n) (x.parents.drop k))).toNat x.card.toNat)[p]?=some (S.aD n vals v):=by
 have hm:=List.mem_of_getElem? hx;obtain ⟨i,r,c,y,e1,e2,e3,e4,e5,e6,e7,e8,-,-⟩:=yH h hv hx;have hpin:=h.pin hm;have hcb:=aM h.cs hpin;have hin:=dx hv hpin;have hcx:(S.aa n)[v]?=some x.card:=by simp[S.aa,hx]
 have ps:x.parents=x.parents.take k++x.parents.drop k:=(List.take_append_drop k _).symm;have hd1:∀c∈S.ae (S.aa n) (x.parents.drop k),1<=c/\c<=4:=aM h.cs λp hp=>hpin p (List.mem_of_mem_drop hp);have hd2:InC (S.ae (S.aa n) (x.parents.drop k)) (S.ae vals (x.parents.drop k)):=dx hv λp hp=>hpin p (List.mem_of_mem_drop hp);have ht1:∀c∈S.ae (S.aa n) (x.parents.take k),1<=c/\c<=4:=aM h.cs λp hp=>hpin p (List.mem_of_mem_take hp);have ht2:InC (S.ae (S.aa n) (x.parents.take k)) (S.ae vals (x.parents.take k)):=dx hv λp hp=>hpin p (List.mem_of_mem_take hp);obtain ⟨b1,b2⟩:=bE hd1 hd2;obtain ⟨a1,a2⟩:=bE ht1 ht2;have hlt:(S.ae (S.aa n) (x.parents.take k)).length=(S.ae vals (x.parents.take k)).length:=by simp[S.ae]
 have ei:S.ah (S.ae (S.aa n) x.parents) (S.ae vals x.parents)=S.ah (S.ae (S.aa n) (x.parents.take k)) (S.ae vals (x.parents.take k))*S.af (S.ae (S.aa n) (x.parents.drop k))+S.ah (S.ae (S.aa n) (x.parents.drop k)) (S.ae vals (x.parents.drop k)):=by
  conv=>lhs;rw[ps,cy,cy,sS _ _ hlt]
 have er:(x.rows.length:Int)=S.af (S.ae (S.aa n) (x.parents.take k))*S.af (S.ae (S.aa n) (x.parents.drop k)):=by
  rw[h.rows x hm]
  conv=>lhs;rw[ps,cy,mM]
 have ef:S.ah (S.ae (S.aa n) (S.ax x.parents k (v:Int))) (S.ae vals (S.ax x.parents k (v:Int))) =
   S.ah (S.ae (S.aa n) (x.parents.take k)) (S.ae vals (x.parents.take k))*(x.card*S.af (S.ae (S.aa n) (x.parents.drop k)))+(c*S.af (S.ae (S.aa n) (x.parents.drop k))+S.ah (S.ae (S.aa n) (x.parents.drop k)) (S.ae vals (x.parents.drop k))):=by
  rw[S.ax,cy,cy,sS _ _ hlt];have:S.ae (S.aa n) ((v:Int)::x.parents.drop k)=x.card::S.ae (S.aa n) (x.parents.drop k):=by simp[S.ae,hcx]
  have h2:S.ae vals ((v:Int)::x.parents.drop k)=c::S.ae vals (x.parents.drop k):=by simp[S.ae,e4]
  rw[this,h2,c_,S.ah]
 have hpp:=lJ λc hc=>(hd1 c hc).1;generalize S.af (S.ae (S.aa n) (x.parents.drop k))=B at *;generalize S.af (S.ae (S.aa n) (x.parents.take k))=A at *;generalize S.ah (S.ae (S.aa n) (x.parents.drop k)) (S.ae vals (x.parents.drop k))=q at *;generalize S.ah (S.ae (S.aa n) (x.parents.take k)) (S.ae vals (x.parents.take k))=a at *;obtain ⟨B,rfl⟩:=Int.eq_ofNat_of_zero_le (show 0<=B by omega);obtain ⟨A,rfl⟩:=Int.eq_ofNat_of_zero_le (show 0<=A by omega);obtain ⟨q,rfl⟩:=Int.eq_ofNat_of_zero_le b1;obtain ⟨a,rfl⟩:=Int.eq_ofNat_of_zero_le a1;obtain ⟨c,rfl⟩:=Int.eq_ofNat_of_zero_le e5;obtain ⟨C,hC⟩:=Int.eq_ofNat_of_zero_le (show 0<=x.card by omega);rw[hC] at ef e6 ⊢;have hB:0<B:=by omega
 have hq:q<B:=by omega
 have hc:c<C:=by omega
 rw[e1] at ei;have hi:i=a*B+q:=by
  have:(i:Int)=((a*B+q:Nat):Int):=by rw[ei,Int.natCast_add,Int.natCast_mul]
  omega
 have hiB:i / B=a:=by rw[hi,Nat.add_comm,Nat.add_mul_div_right _ _ hB,Nat.div_eq_of_lt hq,Nat.zero_add]
 have hiM:i % B=q:=by rw[hi,Nat.add_comm,Nat.add_mul_mod_self_right,Nat.mod_eq_of_lt hq]
 have hrl:x.rows.length=A*B:=by
  have:((x.rows.length:Nat):Int)=((A*B:Nat):Int):=by rw[er,Int.natCast_mul]
  omega
 refine ⟨S.aB B C i c,?_,?_,?_⟩
 ·rw[ef,S.aB,hiB,hiM,Nat.add_mul,Int.natCast_add,Int.natCast_add,Int.natCast_mul,Int.natCast_mul,Int.natCast_mul,Int.mul_assoc];omega
 ·rw[Int.toNat_natCast,hrl];exact BJ hB (by rw[<-hrl];exact e2) hc
 ·rw[Int.toNat_natCast,Int.toNat_natCast,LI hB hrl e2 hc,e3,Option.getD_some];rw[Int.toNat_natCast] at e7;rw[e7,e8];rfl
end Hx
end
section
namespace Hx
open Go
noncomputable section
abbrev Bi:Type:=UInt8×UInt8×List UInt8
abbrev vo:Type:=UInt8×List Bi×List UInt8
abbrev FK:Type:=UInt8×UInt8×UInt8×Int
theorem A6 {P:Nat->Prop}{k:Nat}{h:H}{x:Bi}{cs:List AV}:Rp.rp P k h x cs↔∃a,cs=[u8v x.1,u8v x.2.1,a]/\SlR P k h x.2.2 a:=by
 constructor
 ·rintro ⟨c1,c2,rfl,h1,c3,c4,rfl,h2,⟨a,rfl,h4⟩⟩;rw[gP.1 h1,gP.1 h2];exact ⟨a,rfl,h4⟩
 ·rintro ⟨a,rfl,h4⟩;exact ⟨[_],[_,a],rfl,gP.2 rfl,[_],[a],rfl,gP.2 rfl,⟨a,rfl,h4⟩⟩
theorem A5 {P:Nat->Prop}{k:Nat}{h:H}{x:vo}{cs:List AV}:Rp.rp P k h x cs↔∃a b,cs=[u8v x.1,a,b]/\SlR P k h x.2.1 a/\SlR P k h x.2.2 b:=by
 constructor
 ·rintro ⟨c1,c2,rfl,h1,c3,c4,rfl,⟨a,rfl,ha⟩,⟨b,rfl,hb⟩⟩;rw[gP.1 h1];exact ⟨a,b,rfl,ha,hb⟩
 ·rintro ⟨a,b,rfl,ha,hb⟩;exact ⟨[_],[a,b],rfl,gP.2 rfl,[a],[b],rfl,⟨a,rfl,ha⟩,⟨b,rfl,hb⟩⟩
theorem NX {d k k2:Nat}{g:G}{P P2:Nat->Prop}{v w:AV}{l p:List Int}(hd:0<d)(hv:SlR P k g.h l v)(hw:SlR P2 k2 g.h p w)(hp:p.length<1073741824)(hin:∀x∈p,0<=x/\x<l.length) :
  ∃r,ap C0 d N.bm [v,w] g=.val r/\IT 0 (S.ae l p) r:=by
 obtain ⟨v',e1,r1⟩:=bG hv d;obtain ⟨w',e2,r2⟩:=bG hw d;rw[zQ];refine aW CV (xs:=[v',w']) (by simp only[aH,e1,e2]) (by simp[tY]) (aR _) (by decide) hd ?_;simp only[sz,simprocAttr,tY];have n2:=λg=>(r2 .nil).len g;have ra:∀h',ah h' 1 v'=some (l.map ci):=λh'=>(r1 h').ints;have rb:∀h',ah h' 1 w'=some (p.map ci):=λh'=>(r2 h').ints;refine xJ (v:=w') (m:=p.length) (by omega) n2 (λj t df g=>df=[]/\St t [(0,v')]/\∃u,tat t 5=u/\Own g 0 u 1 ((S.ae l (p.take j)).map ci)) ⟨rfl,by simp[St,sx],_,rfl,.inl ⟨by simp[sx],by simp[S.ae]⟩⟩ (by simp[sx]) (by simp[sx]) (by decide)
  (by rintro j t df g v s (rfl | rfl | rfl | rfl | rfl | rfl | rfl)<;>simp[sx,St]) ?_ ?_
 ·rintro j t df g1 hj ⟨rfl,⟨h0,-⟩,u,h5,hu⟩ h6 h1;obtain ⟨x,hx,htk,hm⟩:=ae hj;obtain ⟨hx0,hxl⟩:=hin x hm;obtain ⟨n,rfl⟩:=Int.eq_ofNat_of_zero_le hx0;have hn:n<l.length:=by omega
  simp only[sz,simprocAttr,ra,rb,h0,h1,h5,h6,hx,hj,hn,List.length_map,List.getElem?_map,Option.map_some,ci,List.getElem?_eq_getElem hn];refine br (new:=[ci l[n]]) (hu.step (Fr.new _ _)) (by simp[sx,sy,ci]) (by simp) (by simp[aP,S.ae];omega) λv2 g2 hv2 n2 f2 _ l2=>?_;simp only[sz,simprocAttr,h0,h1,h6,St];refine ⟨_,rfl,?_⟩;rw[htk];simpa [hn,ci,S.ae] using hv2
 ·rintro t df g1 ⟨rfl,⟨h0,-⟩,u,h5,hu⟩ -;rw[List.take_length] at hu;simp only[sz,simprocAttr,tw,h5];exact ⟨_,hu.ints (by simp[S.ae];omega)⟩
theorem Ig {d k:Nat}{g:G}{P:Nat->Prop}{v:AV}{n:Net}(hd:0<d)(hm:Agg n P k g.h v)(hn:n.nodes.length<1073741824) :
  ∃r,ap C0 d N.br [v] g=.val r/\IT 0 (S.aa n) r:=by
 obtain ⟨v',e,cs,rfl,hc⟩:=rh (dj n) (by decide) d hm;obtain ⟨b,rfl,hN⟩:=ib.1 hc;obtain ⟨rows,r1,r2,r3,r4⟩:=hN.all;have r1:∀h',ah h' 3 b=some rows:=r1;rw[vN];refine aW yC (xs:=[.agg [.int .i64 n.grain,b]]) (by simp only[aH,e]) (by simp[nW]) (aR _) (by decide) hd ?_;simp only[sz,simprocAttr,nW,qN,pi];refine gY n.nodes.length (by omega) (λj t df g=>df=[]/\tat t 1=.hptr 0 0 0 0/\g.h.get 0=.cells 2 [[.int .i64 n.grain,b]] 0 false false/\1<=g.nx/\∃u,tat t 3=u/\Own g 1 u 1 (((n.nodes.take j).map (·.card)).map ci))
  ⟨rfl,by simp[sx],by simp[sx],by simp[sx],_,rfl,.inl ⟨by simp[sx],rfl⟩⟩ (by simp[sx]) (by decide)
  (by rintro j t df g v s (rfl | rfl | rfl)<;>simp[sx]) ?_ ?_ ?_
 ·rintro j t df g hj ⟨rfl,h1,hg,hnx,u,h3,hu⟩ h4;simp only[sz,simprocAttr,h1,h4,hg,hN.len];exact ⟨hnx,u,h3,hu⟩
 ·rintro j t df g hj ⟨rfl,h1,hg,hnx,u,h3,hu⟩ h4;obtain ⟨x,hx,htk,hm⟩:=ae hj;obtain ⟨row,q1,q2⟩:=r3 j x hx;obtain ⟨a',b',rfl,ha',-⟩:=cp.1 q2;have hlt:j<rows.length:=by omega
  have hry:=r4 (by omega);simp only[sz,simprocAttr,h1,h3,h4,hg,r1,hlt,q1,hry];refine br (new:=[ci x.card]) (hu.step (Fr.new _ _)) (by simp[sx,sy,ci]) (by simp) (by simp[aP];omega) λv2 g2 hv2 n2 f2 _ l2=>?_;simp only[sz,simprocAttr,h1,h4];refine ⟨?_,?_,_,rfl,?_⟩
  ·rw[f2 0 (by simp) (λe=>by have:=(hu.lt e).1;omega),G.new_h,aw _ _ _ (by omega),hg]
  ·simp at n2;omega
  ·rw[htk];simpa [ci] using hv2
 ·rintro t df g ⟨rfl,h1,hg,hnx,u,h3,hu⟩;rw[List.take_length] at hu;simp only[sz,simprocAttr,pj,h3];exact ⟨_,hu.ints (by simp;omega)⟩
theorem Ia {d k:Nat}{g:G}{P:Nat->Prop}{v:AV}{n:Net}{i:Nat}{x:Node}(hd:0<d)(hm:Agg n P k g.h v)(hn:n.nodes.length<1073741824)(hx:n.nodes[i]?=some x)(hl:x.parents.length<1073741824)(hin:∀p∈x.parents,0<=p/\p<n.nodes.length) :
  ∃r,ap C0 d N.bB [v,.int .i64 (i:Int)] g=.val r/\IT 0 (S.ae (S.aa n) x.parents) r:=by
 obtain ⟨v',e,cs,rfl,hc⟩:=rh (dj n) (by decide) d hm;have hc':=hc;obtain ⟨b,rfl,hN⟩:=ib.1 hc;have hm':∀h,Agg n NoP (max k d) h (.agg [.int .i64 n.grain,b]):=λh=>⟨_,rfl,Rp.tree hc' (Nat.le_refl _)⟩;obtain ⟨rows,r1,r2,r3,r4⟩:=hN.all;have r1:∀h',ah h' 3 b=some rows:=r1;obtain ⟨row,q1,q2⟩:=r3 i x hx;obtain ⟨a',b',rfl,ha',-⟩:=cp.1 q2;have hil:=(List.getElem?_eq_some_iff.1 hx).1;have hlt:i<rows.length:=by omega
 have hry:=r4 (by omega);rw[pN];refine aW rD (xs:=[.agg [.int .i64 n.grain,b],.int .i64 (i:Int)]) (by simp only[aH,e,dy 0]) (by simp[gu]) (aR _) (by decide) hd ?_;simp only[sz,simprocAttr,gu,jB];refine bH (Ig (Nat.succ_pos d) (hm' _) hn) λrc hrc=>?_;have hat:=λg=>NX (d:=d+1) (g:=g) (P:=NoP) (P2:=NoP) (k:=0) (k2:=max k d) (l:=S.aa n) (p:=x.parents) (Nat.succ_pos d) (hrc.sl g.h) (ha'.tree (h':=g.h) (Nat.le_refl _)) hl (λp hp=>by rw[aA];exact hin p hp);simp only[sz,simprocAttr,r1,hlt,q1,hry];refine bH (hat _) λr hr=>?_;simp only[sz,simprocAttr];obtain ⟨w,hw,hs⟩:=hr;exact ⟨_,w,hw,hs.tree (Nat.le_refl _)⟩
theorem KE {d k:Nat}{g:G}{P:Nat->Prop}{v:AV}{l:List Int}(hd:0<d)(hv:SlR P k g.h l v):ap C0 d N.aS [v] g=.val (.int .i64 (S.aU l)):=by have b:=Gp hv.ints;have:=Mv hd (HV hv.ints) (by rw[b];exact hv.1);rwa [b] at this
theorem kw {g:G}{v:AV}{n:Net}(d:Nat)(hm:Agg n NoP 0 g.h v):∃b rows,v=.agg [.int .i64 n.grain,b]/\Hx.snap g.h d aI v=some v/\(∀h,Agg n NoP 0 h v)/\SlR NoP 0 .nil n.nodes b/\(∀h,ah h 3 b=some rows)/\rows.length=n.nodes.length /\
  (∀(i:Nat) (x:Node),n.nodes[i]?=some x->∃pa ra,rows[i]?=some [.int .i64 x.card,pa,ra]/\i<rows.length/\SlR NoP 0 .nil x.parents pa/\SlR NoP 0 .nil x.rows ra)/\(0<n.nodes.length->ug b=true):=by
 have e:=j7 d hm;obtain ⟨cs,rfl,hc⟩:=hm;have hc':=hc;obtain ⟨b,rfl,hN⟩:=ib.1 hc;have hN:=hN.tree (h':=.nil) (Nat.le_refl _);obtain ⟨rows,r1,r2,r3,r4⟩:=hN.all;refine ⟨b,rows,rfl,e,λh=>⟨_,rfl,Rp.tree hc' (Nat.le_refl _)⟩,hN,r1,r2,λi x hx=>?_,r4⟩;obtain ⟨row,q1,q2⟩:=r3 i x hx;obtain ⟨a',b',rfl,ha',hb'⟩:=cp.1 q2;exact ⟨a',b',q1,by rw[r2];exact (List.getElem?_eq_some_iff.1 hx).1,ha',hb'⟩
theorem B8 {k:Nat}{l:List (List Int)}{b:AV}(hb:SlR NoP k .nil l b):∃rows:List (List AV),(∀h,ah h 1 b=some rows)/\rows.length=l.length/\(∀(i:Nat) (r:List Int),l[i]?=some r->∃z,rows[i]?=some [z]/\i<rows.length/\SlR NoP k .nil r z)/\(0<l.length->ug b=true):=by obtain ⟨rows,r1,r2,r3,r4⟩:=hb.all;refine ⟨rows,r1,r2,λi r hr=>?_,r4⟩;obtain ⟨row,q1,q2⟩:=r3 i r hr;obtain ⟨z,rfl,hz⟩:=eR.1 q2;exact ⟨z,q1,by rw[r2];exact (List.getElem?_eq_some_iff.1 hr).1,hz⟩
section
variable {d:Nat}{b pa ra z:AV}{gr card:Int}{r:List Int}
def LR5 (v:Nat)(q:Nat):List (Nat×AV):=[(1,.hptr 0 0 0 0),(6,.int .i64 (v:Int)),(7,.hptr q 0 0 0)]
structure RJ1 (gr:Int) (r:List Int) (v q i j:Nat) (t:T):Prop where
 st:St t ((8,.int .i64 (i:Int))::LR5 v q)
 s9:tat t 9=.int .i64 (r.take j).sum
 all:∀y∈r.take j,0<=y/\y<=gr
structure RJ4 (gr card:Int) (rws:List (List Int)) (v q j:Nat) (t:T):Prop where
 st:St t (LR5 v q)
 all:∀r∈rws.take j,S.aQ gr card r=true
structure RJ0 (n:Net) (b:AV) (j:Nat) (t:T) (g:G):Prop where
 st:St t [(1,.hptr 0 0 0 0),(3,.int .i64 (S.af ((S.aa n).take j)))]
 hg:g.h.get 0=.cells 2 [[.int .i64 n.grain,b]] 0 false false
 nx:1<=g.nx
 all:∀x∈n.nodes.take j,S.b_ n.nodes.length x=true
structure RJ6 (n:Net) (b:AV) (j:Nat) (t:T) (g:G):Prop where
 st:St t [(1,.hptr 0 0 0 0)]
 hg:g.h.get 0=.cells 2 [[.int .i64 n.grain,b]] 0 false false
 nx:1<=g.nx
 all:∀x∈n.nodes.take j,S.cd n x=true
end
end
end Hx
end
section
namespace Hx
open Go
noncomputable section
def OwnC (g:G)(b id:Nat)(l tl:List Int):Prop:=b<=id/\id<g.nx/\g.h.get id=.cells 1 (l.map ci++tl.map ci) 0 false false
theorem OwnC.rows {g:G}{b id:Nat}{l tl:List Int}(h:OwnC g b id l tl):ah g.h 1 (.hsl id 0 0 l.length none)=some (l.map ci):=by rw[ia,h.2.2,du,if_pos (by simp),List.drop_zero,List.take_left' (by simp)]
theorem OwnC.fr {g g':G}{b id:Nat}{l tl:List Int}(h:OwnC g b id l tl)(hn:g.nx<=g'.nx)(hf:g'.h.get id=g.h.get id):OwnC g' b id l tl:=⟨h.1,Nat.lt_of_lt_of_le h.2.1 hn,by rw[hf,h.2.2]⟩
theorem OH {g:G}{b n:Nat}{K:AV->G->Prop}{D:ADf->Prop}(hn:n<=1000)(hb:b<=g.nx)(k:∀g',OwnC g' b g.nx [] (List.replicate n 0)->g'.nx=g.nx+1->(∀i,i<g.nx->g'.h.get i=g.h.get i)->K (.hsl g.nx 0 0 0 none) g') :
  (y5 1 8 [.int .i64 0] (.int .i64 0) (.int .i64 (n:Int)) g).sat K g D:=by
 have h1:n<=aP:=by unfold aP;omega
 have h2:n*8<=aP:=by unfold aP;omega
 have key:y5 1 8 [.int .i64 0] (.int .i64 0) (.int .i64 (n:Int)) g=.upd (.hsl g.nx 0 0 0 none) (g.new (.cells 1 (eU n [.int .i64 0]) 0 false false)):=by
  show (match b_ aP (.int .i64 (.ofNat n)) with
   | some cn=>match b_ cn (.int .i64 0) with
    | some ln=>au (Nat.ble (cn*8) aP) (OR.upd (.hsl g.nx 0 0 ln none) (g.new (.cells 1 (eU cn [.int .i64 0]) 0 false false))) .fail
    | none=>.fail
   | none=>.fail)=_
  have a1:b_ aP (.int .i64 (.ofNat n))=some n:=by show au (Nat.ble n aP) (some n) none=_;rw[aa,if_pos (by simpa using h1)]
  have a2:b_ n (.int .i64 0)=some 0:=by show au (Nat.ble 0 n) (some 0) none=_;rw[aa,if_pos (by simp)]
  rw[a1];dsimp only;rw[a2];dsimp only;rw[aa,if_pos (by simpa using h2)]
 rw[key];refine k _ ⟨hb,by simp,?_⟩ (by simp) (λi hi=>?_)
 ·simp[aO,eU,ci]
 ·rw[G.new_h,aw _ _ _ (by omega)]
theorem IF {g:G}{b id:Nat}{l tl:List Int}{x y:Int}{w:AV}{K:AV->G->Prop}{D:ADf->Prop}(hv:OwnC g b id l (y::tl))(hx:ah g.h 1 w=some [ci x])(hr:l.length<=1000)
  (k:∀g',OwnC g' b id (l++[x]) tl->g'.nx=g.nx->(∀i,i≠id->g'.h.get i=g.h.get i)->K (.hsl id 0 0 (l++[x]).length none) g'):(cP 1 8 (.hsl id 0 0 l.length none) w g).sat K g D:=by
 unfold cP;rw[hx];obtain ⟨h1,h2,h3⟩:=hv;simp only[bi,G.get_eq,h3,ax,aa,Nat.beq_refl,Bool.true_and,Nat.ble_eq,Bool.and_eq_true,Nat.zero_add,Option.getD_none,Nat.sub_zero,List.length_append,List.length_map,List.length_cons,List.length_nil];rw[if_pos ⟨by omega,by unfold aP;omega⟩,if_pos (by omega)];have hnb:jn false=true:=rfl;rw[if_pos ⟨by omega,hnb⟩];have e:jq (l.map ci++(y::tl).map ci) l.length [ci x]=(l++[x]).map ci++tl.map ci:=by simp only[jq,gX];rw[List.map_append,List.append_assoc,List.map_cons,List.set_append_right _ _ (by simp)];simp
 rw[e];have k:=k (g.put id (.cells 1 ((l++[x]).map ci++tl.map ci) 0 false false)) ⟨h1,by simpa using h2,by simp[aO]⟩ (by simp) (λi hi=>by rw[G.put_h,aw _ _ _ hi]);have e3:l.length+1=(l++[x]).length:=by simp
 rw[e3];exact k
def Oy (p:List Nat):VS:=λP k h v=>∃o:List Int,True/\tG (One o) (One (S.bh p)) P k h v
theorem Ip {d k:Nat}{g:G}{P:Nat->Prop}{v:AV}{p:List Nat}(hd:0<d)(hv:SlR P k g.h p v)(hn:p.length<=8)(hp:∀x∈p,x<2 ^ p.length) :
  ∃z,ap C0 d N.bi [v] g=.val z/\Oy p NoP 0 .nil z:=by
 obtain ⟨v',e,r1⟩:=bG hv d;have hlt:=Bm hv;rw[wX];refine aW zV (xs:=[v']) (by simp only[aH,e]) (by simp[pV]) (lF λo=>dk (m:=1) (aR _) (aR _) (by decide) (by decide)) (by decide) hd ?_;have vl:∀g,dv .slice v' g=.val (.int .i64 (p.length:Int)):=λg=>(r1 .nil).len g;simp only[sz,simprocAttr,pV,vl];refine OH (b:=0) (n:=p.length) (by omega) (Nat.zero_le _) λg1 hu hn1 hf1=>?_;obtain ⟨id,hid⟩:∃id,id=G.empty.nx:=⟨_,rfl⟩;rw[<-hid] at hu ⊢;clear hid hn1 hf1;simp only[sz,simprocAttr];refine fO (λn t df g=>df=[]/\∃(L:List Nat) (D:Nat) (tl:List Int),n=p.length - L.length/\L.length+tl.length=p.length/\Hj p L/\Np D L/\Hh p D/\St t [(0,v'),(4,.hsl id 0 0 (L.map λi:Nat=>(i:Int)).length none),(5,.int .u64 (D:Int))]/\OwnC g 0 id (L.map λi:Nat=>(i:Int)) tl) p.length
  ⟨rfl,[],0,List.replicate p.length 0,by simp,by simp,⟨by simp,by simp⟩,⟨by decide,by simp⟩,AN,by simp[sx,St],hu⟩ ?_
 rintro n t df g ⟨rfl,L,D,tl,rfl,hLt,hO,hD,hG,⟨h0,h4,h5,-⟩,hu⟩;have hLl:=Kf hO;have hul:∀g',dv .slice (.hsl id 0 0 (L.map λi:Nat=>(i:Int)).length none) g'=.val (.int .i64 (L.length:Int)):=λg'=>by rw[fW hu.rows];simp
 simp only[sz,simprocAttr,qH,h0,h4,vl,hul];refine fS (λhb=>?_) (λhb=>?_)
 ·have hlt2:L.length<p.length:=by simpa using hb
  obtain ⟨y,tl,rfl⟩:∃y tl',tl=y::tl':=by
   cases tl with
   | nil=>simp at hLt;omega
   | cons y tl=>exact ⟨y,tl,rfl⟩
  simp only[sz,simprocAttr,h0,vl,qG];refine aK (m:=p.length) (by omega) (λj t df g'=>df=[]/\g'=g/\St t [(0,v'),(16,v'),(4,.hsl id 0 0 (L.map λi:Nat=>(i:Int)).length none),(5,.int .u64 (D:Int))]/\∀v,v<j->D.testBit v=true\/¬Sub (Par p v) D)
   ⟨rfl,rfl,by simp[sx,St,h0,h4,h5],λv hv=>by omega⟩ (by simp[sx]) (by simp[sx]) (by decide) (by rintro j t df g v s (rfl | rfl | rfl)<;>simp[sx,St]) ?_ ?_
  ·rintro j t df g' hj ⟨rfl,rfl,⟨h0,h16,h4,h5,-⟩,hall⟩ h18 h17;obtain ⟨x,hx,-,hxm⟩:=ae hj;have hpj:Par p j=x:=by simp[Par,hx]
   have hxl:=hlt x hxm;have hjl:j<(p.map cu).length:=by simpa using hj
   have hjr:(p.map cu)[j]?=some (cu x):=by rw[List.getElem?_map,hx];rfl
   have b1:=Br .i64 D j hD.1;have hdv:D / 2 ^ j<18446744073709551616:=Nat.lt_of_le_of_lt (Nat.div_le_self _ _) hD.1;have b2:cE .and (.int .u64 ((D / 2 ^ j:Nat):Int)) (.int .u64 1)=.val (.int .u64 ((D / 2 ^ j &&& 1:Nat):Int)):=FS _ 1 hdv (by decide);have b3:=Er x D hxl hD.1;have ra:=λh=>(r1 h).nats;have hbit:D.testBit j = !decide (((D / 2 ^ j &&& 1:Nat):Int)=0):=by
    rw[<-uM,S.bQ];have h2:D / 2 ^ j &&& 1=(D / 2 ^ j) % 2:=Nat.and_one_is_mod _;rw[h2];have:=Nat.mod_lt (D / 2 ^ j) (show 0<2 by decide)
    by_cases h3:D / 2 ^ j % 2=0
    ·rw[h3];simp
    ·have h4:D / 2 ^ j % 2=1:=by omega
     rw[h4];simp
   have next:(D.testBit j=true\/¬Sub (Par p j) D)->∀v,v<j+1->D.testBit v=true\/¬Sub (Par p v) D:=λh v hv=>by
    by_cases e:v=j
    ·subst e;exact h
    ·exact hall v (by omega)
   by_cases c1:((D / 2 ^ j &&& 1:Nat):Int)=0
   ·by_cases c2:((x ^^^ (x &&& D):Nat):Int)=0
    ·have hd0:S.bO x D=0:=by simpa [S.bO] using c2
     have hsub:=AD.1 hd0;have hjL:j ∉ L:=λh=>by have:=(hD.2 j).2 h;rw[hbit,c1] at this;simp at this
     have hb2:D ||| S.aK j<18446744073709551616:=Ke hD.1 (vB j);simp only[sz,simprocAttr,h16,h4,h5,h18,b1,b2,b3,ra,hjl,hjr,cu,c1,c2];refine IF (x:=(j:Int)) (hu.fr (by simp) (by rw[G.new_h,aw _ _ _ (by have:=hu.2.1;omega)])) (by simp[sx,sy,ci]) (by simp;omega) λg2 hu2 n2 f2=>?_;have hone:cE .shl (.int .u64 1) (.int .i64 (j:Int))=.val (.int .u64 (S.aK j:Int)):=rk .i64 j;have e1:(L.map λi:Nat=>(i:Int))++[(j:Int)]=(L++[j]).map λi:Nat=>(i:Int):=by simp
     rw[e1] at hu2 ⊢;simp only[sz,simprocAttr,h5,hone,Es _ _ hD.1 (vB j)];refine ⟨p.length - (L++[j]).length,by simp;omega,L++[j],D ||| S.aK j,tl,rfl,by simp at hLt ⊢;omega,H_ hO hjL hj λq hq=>?_,In hD (by omega),C8 hG (by omega) (by rw[hpj];exact hsub),by simp[sx,St,h0],hu2⟩;rw[hpj] at hq;exact (hD.2 q).1 (hsub q hq)
    ·have hns:¬Sub (Par p j) D:=λh=>c2 (by
      have:=AD.2 h;rw[hpj] at this;simp[S.bO] at this;simp[this])
     simp only[sz,simprocAttr,h0,h16,h4,h5,h18,h17,b1,b2,b3,ra,hjl,hjr,cu,c1,c2,St];exact next (.inr hns)
   ·simp only[sz,simprocAttr,h0,h16,h4,h5,h18,h17,b1,b2,ra,hjl,hjr,cu,c1,St];exact next (.inl (by rw[hbit,decide_eq_false c1];rfl))
  ·rintro t df g' ⟨rfl,rfl,-,hall⟩;obtain ⟨v0,hv0,hv0'⟩:=L7 hO hlt2;have hac:S.bh p=false:=by
    cases hc:S.bh p with
    | false=>rfl
    | true =>
     have:=Bn hp hc (T:=D) (λv hv hb=>by
      rcases hall v hv with h | h
      ·rw[h] at hb;cases hb
      ·exact h) v0 hv0
     exact absurd ((hD.2 v0).1 this) hv0'
   simp only[sz,simprocAttr,qJ];exact ⟨λ_=>True,[],.nils,.bool false,rfl,⟨.nils,rfl,by show 0<9223372036854775808;decide,rfl⟩,fY.2 (by rw[hac])⟩
 ·have hge:p.length<=L.length:=by simp at hb;omega
  have htl:tl=[]:=List.eq_nil_of_length_eq_zero (by omega);subst htl;have hfull:=H9 hO hge;have hac:=um hG λv hv=>(hD.2 v).2 (hfull.1 v hv);simp only[sz,simprocAttr,qK,h4];refine ⟨λ_=>True,L.map (λi:Nat=>(i:Int)),_,_,rfl,⟨_,rfl,by simp;omega,trivial,_,hu.rows,All2.of_map (λa=>aF.2 rfl) _⟩,fY.2 (by rw[hac])⟩
theorem Ii {C:Cfg}{d id nt:Nat}{t:T}{ps:List Nat}{assign body:Code}{a b:SC}{dfr:Nat}{args:List AV}{g:G}{K:AV->G->Prop}{D:ADf->Prop}{t':T}
  (hg:g.h.get id=.loop nt t ps assign body dfr .ready none) (ha:eE C nt assign=a) (hb:eE C nt body=b) (hp:cJ t nt ps args=some t')
  (h:wp C d (some id) a (λe t1 df g1=>e=.norm/\df=[]/\g1=g /\
   wp C d (some id) b (λe _ df g2=>df=[]/\g2.h.get id=.loop nt t ps assign body dfr .busy none/\((e=.norm/\K (.bool true) (g2.put id (.loop nt t ps assign body dfr .ready none)))\/(e=.ret/\K (.bool false) (g2.put id (.loop nt t ps assign body dfr .done (some .ret))))))
    t1 [] (g.put id (.loop nt t ps assign body dfr .busy none))) t' [] g) :
  (cg (I C) d id args g).sat K g D:=by
 subst ha;subst hb;unfold cg;rw[show g.get id=_ from hg];dsimp only;rw[hp];dsimp only;have h1:=sN h;cases hc:(I C).code nt d (some id) assign t' [] g with
 | fail=>rw[hc] at h1;exact h1.elim
 | ok e t1 df g1 =>
  rw[hc] at h1;obtain ⟨rfl,rfl,rfl,h2⟩:=h1;dsimp only;rw[show g1.get id=_ from hg];dsimp only;have h3:=sN h2;cases hc2:(I C).code nt d (some id) body t1 [] (g1.put id (.loop nt t ps assign body dfr .busy none)) with
  | fail=>rw[hc2] at h3;exact h3.elim
  | ok e t2 df2 g2 =>
   rw[hc2] at h3;obtain ⟨rfl,h4,h5⟩:=h3;dsimp only;rw[show g2.get id=_ from h4];rcases h5 with ⟨rfl,h5⟩ | ⟨rfl,h5⟩<;>exact h5
theorem qz {C:Cfg}{d nt:Nat}{f:Od}{ps:List Nat}{a b:SC}{Q:QT}{t:T}{df:List ADf}{g:G}{fn:Nat}{first cap:List AV}{s:SF}(hv:f.get t=.clo fn first cap)(he:C.ext fn=none)(hs:nFn C fn=some s)
  (hl:(first++(.yld (g.nx+1)::cap)).length<=s.nt)
  (h:∀assign body,eE C nt assign=a->eE C nt body=b ->
   wp C d none s.code (fnQ C d s.res λ_ g2=>∃nt' t' ps' as' bd' dfr',(g2.h.get (g.nx+1)=.loop nt' t' ps' as' bd' dfr' .ready none/\Q .norm t (.mark g.nx::df) (g2.put (g.nx+1) (.loop nt' t' ps' as' bd' dfr' .exhausted none))) \/
     (g2.h.get (g.nx+1)=.loop nt' t' ps' as' bd' dfr' .done (some .ret)/\Q .ret t (.mark g.nx::df) (g2.put (g.nx+1) (.loop nt' t' ps' as' bd' dfr' .exhausted (some .ret)))))
    (bO 0 (first++(.yld (g.nx+1)::cap)) .nil) [] ((g.new (.dfr true)).new (.loop nt t ps assign body g.nx .ready none))) :
  wp C d none (.rng nt f ps a b) Q t df g:=by
 intro assign body ha hb;have h:=sO hs hl (h assign body ha hb);show (cI C (I C) nt d none (f.get t) ps assign body t (.mark g.nx::df) g.nx (g.new (.dfr true))).sat Q;rw[hv];unfold cI;dsimp only;rw[he];show (match (I C).call d fn (first++(AV.yld (g.nx+1)::cap)) ((g.new (.dfr true)).new (.loop nt t ps assign body g.nx .ready none)) with
  | .ok _ g2=>dU (I C) nt d none (g.nx+1) t (.mark g.nx::df) g2
  | .fail=>.fail).sat Q
 cases hc:(I C).call d fn (first++(AV.yld (g.nx+1)::cap)) ((g.new (.dfr true)).new (.loop nt t ps assign body g.nx .ready none)) with
 | fail=>rw[hc] at h;exact h.elim
 | ok v g2 =>
  rw[hc] at h;obtain ⟨nt',t',ps',as',bd',dfr',h⟩:=h;show (dU (I C) nt d none (g.nx+1) t (.mark g.nx::df) g2).sat Q;unfold dU;rcases h with ⟨h1,h2⟩ | ⟨h1,h2⟩
  ·rw[show g2.get (g.nx+1)=_ from h1];exact h2
  ·rw[show g2.get (g.nx+1)=_ from h1];dsimp only;rw[El];exact h2
def RwV (x:Node):VS:=λP k h v=>∃p,v=.clo N.af [] [p] /\
 ((∃id cs,p=.hptr id 0 0 0/\P id/\h.get id=.cells 3 [cs] 0 false false/\Rp.rp P k h x cs)\/∃t cs,p=.tptr t 3 [cs] 0 0/\t<=k/\Rp.rp NoP k .nil x cs)
theorem Oc (x:Node):Snb (RwV x) 2:=by
 refine ⟨λ{P k h v n} d r hn=>?_,λ{k h v n} r hn=>?_⟩
 ·obtain ⟨p,rfl,r⟩:=r;obtain ⟨n,rfl⟩:∃q,n=q+2:=⟨n - 2,by omega⟩;rcases r with ⟨id,cs,rfl,-,hg,r⟩ | ⟨t,cs,rfl,ht,r⟩
  ·obtain ⟨cs',e,r'⟩:=Rp.snap (n:=n) d r (by show (_:Nat)<=n;exact Nat.le_trans (show Rp.dp Node<=20 by decide) (by omega)) (by decide);obtain ⟨m,e2,l2⟩:=Rp.tag (n:=aI) r' (by decide);refine ⟨.clo N.af [] [.tptr (Nat.max d (Nat.max m 0)) 3 [cs'] 0 0],?_,_,rfl,.inr ⟨_,cs',rfl,?_,r'⟩⟩
   ·have:Hx.snap h d (n+1) (.hptr id 0 0 0)=some (.tptr (Nat.max d (Nat.max m 0)) 3 [cs'] 0 0):=by simp only[Hx.snap,hg,show Nat.beq 0 0=true from rfl,aH,e,eT,fL,e2]
    simp only[Hx.snap,aH] at this ⊢;rw[this]
   ·show max d (max m 0)<=max k d;omega
  ·refine ⟨.clo N.af [] [.tptr t 3 [cs] 0 0],rfl,_,rfl,.inr ⟨t,cs,rfl,by omega,Rp.mono r (λi hi=>hi.elim) (by omega)⟩⟩
 ·obtain ⟨p,rfl,r⟩:=r;obtain ⟨n,rfl⟩:∃q,n=q+2:=⟨n - 2,by omega⟩;rcases r with ⟨id,cs,rfl,hP,-⟩ | ⟨t,cs,rfl,ht,r⟩
  ·exact hP.elim
  ·exact ⟨Nat.max t 0,rfl,by show max t 0<=k;omega⟩
theorem za {d:Nat}{g:G}{v:AV}{x:Node}(hd:0<d)(hm:Agg x NoP 0 g.h v) :
  ∃pa ra,ap C0 d N.ay [v] g=.val (.clo N.af [] [.tptr 0 3 [[.int .i64 x.card,pa,ra]] 0 0])/\SlR NoP 0 .nil x.parents pa/\SlR NoP 0 .nil x.rows ra:=by
 have e0:=j7 d hm;obtain ⟨cs,rfl,hc⟩:=hm;obtain ⟨a,b,rfl,hR,hN⟩:=cp.1 hc;have key:∃r,ap C0 d N.ay [.agg [.int .i64 x.card,a,b]] g=.val r/\RwV x NoP 0 .nil r:=by rw[zO];refine aW CT (xs:=[.agg [.int .i64 x.card,a,b]]) (by simp only[aH,e0]) (by simp[tW]) (Oc x) (by decide) hd ?_;simp only[sz,simprocAttr,tW,uH];exact ⟨λ_=>True,_,rfl,.inl ⟨0,_,rfl,trivial,by simp[sx],Rp.tree hc (Nat.le_refl _)⟩⟩
 obtain ⟨r,h1,p,rfl,h2⟩:=key;rcases h2 with ⟨id,cs,rfl,hP,-⟩ | ⟨t,cs,rfl,ht,hr⟩
 ·exact hP.elim
 ·have:t=0:=by omega
  subst this;obtain ⟨a',b',rfl,hR',hN'⟩:=cp.1 hr;exact ⟨a',b',h1,hR',hN'⟩
theorem cC (fo l sz i off:Nat)(rows:List (List AV)):HL fo (.tptr l sz rows i off)=.val (.tptr l sz rows i (off+fo)):=rfl
theorem Kx {d id:Nat}{c:Int}{pa ra:AV}{rws:List (List Int)}{g0:G}{K:AV->G->Prop}(hra:SlR NoP 0 .nil rws ra)(J:Nat->H->Prop)(E:G->Prop)
  (step:∀(j:Nat) (r:List Int) (z:AV) (g:G) (K':AV->G->Prop) (D:ADf->Prop),rws[j]?=some r->SlR NoP 0 .nil r z->g0.nx<=g.nx->J j g.h ->
   (∀g',J (j+1) g'.h->g.nx<=g'.nx->K' (.bool true) g')->(∀g',E g'->K' (.bool false) g')->(cg (I C0) d id [.int .i64 (j:Int),z] g).sat K' g D)
  (h0:J 0 g0.h) (fin:∀g',J rws.length g'.h->g0.nx<=g'.nx->K (.tup []) g') (finE:∀g',E g'->K (.tup []) g') :
  wp C0 d none fU.code (fnQ C0 d fU.res K) (bO 0 [.yld id,.tptr 0 3 [[.int .i64 c,pa,ra]] 0 0] .nil) [] g0:=by
 obtain ⟨rr,s1,s2,s3,s4⟩:=B8 hra;simp only[sz,simprocAttr,fU,qF,cC,ba,hra.len];refine aK (m:=rws.length) hra.1 (λj t df g=>df=[]/\St t [(0,.yld id),(6,ra)]/\J j g.h/\g0.nx<=g.nx) ⟨rfl,by simp[St,sx],h0,Nat.le_refl _⟩ (by simp[sx]) (by simp[sx]) (by decide) (by rintro j t df g v s (rfl | rfl | rfl)<;>simp[St,sx]) ?_ ?_
 ·rintro j t df g hj ⟨rfl,⟨h0,h6,-⟩,hJ,hn⟩ h8 h7;obtain ⟨r,hr,-,-⟩:=ae hj;obtain ⟨z,q2,q3,hz⟩:=s3 j r hr;have hry:=s4 (by omega);simp only[sz,simprocAttr,h0,h6,h8,s1,q2,q3];show (cg (I C0) d id [.int .i64 (j:Int),z] g).sat _ _ _;refine step j r z g _ _ hr hz hn hJ (λg' hJ' hn'=>?_) λg' hE=>?_
  ·simp only[sz,simprocAttr,h7,h8];simp[St,sx,h0,h6,hJ',Nat.le_trans hn hn']
  ·simp only[sz,simprocAttr];exact finE g' hE
 ·rintro t df g ⟨rfl,-,hJ,hn⟩;simp only[sx,↓reduceIte];exact fin g hJ hn
theorem EI:C0.ext N.af=none:=by kernel_rfl
structure RowQ (b:Nat) (g2 g3:G) (e:Ex) (A B:Prop):Prop where
 nx:g2.nx<=g3.nx
 fr:∀i,b<=i->i<g2.nx->g3.h.get i=g2.h.get i
 st:(e=.norm/\A)\/(e=.ret/\B)
theorem DZ {d nt y p q:Nat}{c:Int}{pa ra:AV}{rws:List (List Int)}{ca cb:SC}{Q:QT}{t:T}{g:G}(hra:SlR NoP 0 .nil rws ra)(hv:tat t y=.clo N.af [] [.tptr 0 3 [[.int .i64 c,pa,ra]] 0 0])(hp:p<nt)(hq:q<nt)
  (J:Nat->H->Prop) (E:H->Prop) (hJ:∀j h h',(∀i,i<g.nx->h'.get i=h.get i)->J j h->J j h') (hE:∀h h',(∀i,i<g.nx->h'.get i=h.get i)->E h->E h') (h0:J 0 g.h)
  (step:∀(j:Nat) (r:List Int) (z:AV) (g1:G),rws[j]?=some r->SlR NoP 0 .nil r z->J j g1.h->g.nx+2<=g1.nx ->
   wp C0 d (some (g.nx+1)) ca (λe t1 df g1'=>e=.norm/\df=[]/\g1'=g1/\∀g2:G,g2.nx=g1.nx->(∀i,i≠g.nx+1->g2.h.get i=g1.h.get i) ->
    wp C0 d (some (g.nx+1)) cb (λe _ df g3=>df=[]/\RowQ g.nx g2 g3 e (J (j+1) g3.h) (E g3.h)) t1 [] g2)
    (eV (eV t p (.int .i64 (j:Int))) q z) [] g1)
  (fin:∀g',J rws.length g'.h->g.nx+2<=g'.nx->g'.h.get g.nx=.dfr true->Q .norm t [.mark g.nx] g')
  (finE:∀g',E g'.h->g.nx+2<=g'.nx->g'.h.get g.nx=.dfr true->Q .ret t [.mark g.nx] g') :
  wp C0 d none (.rng nt (.t y) [p,q] ca cb) Q t [] g:=by
 refine qz (fn:=N.af) (first:=[]) (cap:=[.tptr 0 3 [[.int .i64 c,pa,ra]] 0 0]) (s:=fU) hv EI zU (by simp[fU]) ?_;intro assign body ha hb;have e1:((g.new (.dfr true)).new (.loop nt t [p,q] assign body g.nx .ready none)).nx=g.nx+2:=by simp
 refine Kx (g0:=(g.new (.dfr true)).new (.loop nt t [p,q] assign body g.nx .ready none)) (id:=g.nx+1) hra
  (λj h=>J j h/\h.get g.nx=.dfr true/\h.get (g.nx+1)=.loop nt t [p,q] assign body g.nx .ready none)
  (λg'=>E g'.h/\g'.h.get g.nx=.dfr true/\g'.h.get (g.nx+1)=.loop nt t [p,q] assign body g.nx .done (some .ret)/\g.nx+2<=g'.nx) ?_ ?_ ?_ ?_
 ·rintro j r z g1 K' D hr hz hn ⟨a1,a2,a3⟩ kk kE;rw[e1] at hn;refine Ii a3 ha hb (t':=eV (eV t p (.int .i64 (j:Int))) q z) ?_ ?_
  ·simp only[cJ,aa,Nat.blt_eq,if_pos hp,if_pos hq];rfl
  ·refine bL _ (step j r z g1 hr hz a1 (by omega)) ?_;rintro e t1 df g1' ⟨rfl,rfl,rfl,h⟩;refine ⟨rfl,rfl,rfl,?_⟩;have hl:g.nx+1<g1'.nx:=by omega
   refine bL _ (h (g1'.put (g.nx+1) (.loop nt t [p,q] assign body g.nx .busy none)) (by simp) (λi hi=>by simp[H.get_put,hi])) ?_;rintro e t2 df g3 ⟨rfl,⟨b2,b3,b1⟩⟩;have b4:g3.h.get (g.nx+1)=.loop nt t [p,q] assign body g.nx .busy none:=by rw[b3 _ (by omega) (by simpa using hl)];simp[H.get_put]
   have b5:g3.h.get g.nx=.dfr true:=by rw[b3 _ (by omega) (by simp;omega)];simp[H.get_put,a2]
   refine ⟨rfl,b4,?_⟩;rcases b1 with ⟨rfl,b1⟩ | ⟨rfl,b1⟩
   ·refine .inl ⟨rfl,kk _ ⟨hJ _ g3.h _ (λi hi=>by simp[H.get_put,show ¬i=g.nx+1 by omega]) b1,?_,?_⟩ (by simpa using b2)⟩
    ·simp[H.get_put,b5]
    ·simp[H.get_put]
   ·refine .inr ⟨rfl,kE _ ⟨hE g3.h _ (λi hi=>by simp[H.get_put,show ¬i=g.nx+1 by omega]) b1,?_,?_,?_⟩⟩
    ·simp[H.get_put,b5]
    ·simp[H.get_put]
    ·simp at b2 ⊢;omega
 ·refine ⟨hJ 0 g.h _ (λi hi=>?_) h0,?_,?_⟩
  ·simp[H.get_put,show ¬i=g.nx+1 by omega,show ¬i=g.nx by omega]
  ·simp[H.get_put]
  ·simp[H.get_put]
 ·rintro g' ⟨a1,a2,a3⟩ hn;rw[e1] at hn;refine ⟨_,_,_,_,_,_,.inl ⟨a3,fin _ (hJ _ g'.h _ (λi hi=>by simp[H.get_put,show ¬i=g.nx+1 by omega]) a1) (by simpa using hn) ?_⟩⟩;simp[H.get_put,a2]
 ·rintro g' ⟨a1,a2,a3,hn⟩;refine ⟨_,_,_,_,_,_,.inr ⟨a3,finE _ (hE g'.h _ (λi hi=>by simp[H.get_put,show ¬i=g.nx+1 by omega]) a1) (by simpa using hn) ?_⟩⟩;simp[H.get_put,a2]
abbrev NwM:Type:=Net×List Int×List Nat×List Int
theorem wQ {P:Nat->Prop}{k:Nat}{h:H}{x:NwM}{cs:List AV}:Rp.rp P k h x cs↔∃a b c e,cs=[.int .i64 x.1.grain,a,b,c,e]/\SlR P k h x.1.nodes a/\SlR P k h x.2.1 b/\SlR P k h x.2.2.1 c/\SlR P k h x.2.2.2 e:=by
 constructor
 ·rintro ⟨c1,c2,rfl,h1,c3,c4,rfl,⟨b,rfl,hb⟩,c5,c6,rfl,⟨c,rfl,hc⟩,⟨e,rfl,he⟩⟩;obtain ⟨a,rfl,ha⟩:=ib.1 h1;exact ⟨a,b,c,e,rfl,ha,hb,hc,he⟩
 ·rintro ⟨a,b,c,e,rfl,ha,hb,hc,he⟩;exact ⟨[_,a],[b,c,e],rfl,ib.2 ⟨a,rfl,ha⟩,[b],[c,e],rfl,⟨b,rfl,hb⟩,[c],[e],rfl,⟨c,rfl,hc⟩,⟨e,rfl,he⟩⟩
theorem Cg:∀{l:List Int},(∀x∈l,0<=x)->0<=l.sum
 | [],_=>by simp
 | x::l,h=>by have:=Cg (l:=l) λy hy=>h y (by simp[hy]);have:=h x (by simp);rw[List.sum_cons];omega
theorem Ee {l:List Int}(h:∀x∈l,0<=x)(j:Nat):(l.take j).sum<=l.sum:=by
 have:=Cg (l:=l.drop j) λx hx=>h x (List.mem_of_mem_drop hx);have e:l.sum=(l.take j).sum+(l.drop j).sum:=by rw[<-List.sum_append,List.take_append_drop]
 omega
theorem y4:∀{l:List Int},(∀x∈l,0<=x)->∀x∈l,x<=l.sum
 | [],_,x,hx=>by simp at hx
 | y::l,h,x,hx=>by
  have h1:=Cg (l:=l) λz hz=>h z (by simp[hz]);have h2:=h y (by simp);rw[List.sum_cons];rcases List.mem_cons.1 hx with rfl | hx
  ·omega
  ·have:=y4 (l:=l) (λz hz=>h z (by simp[hz])) x hx;omega
def S.aZ (gr:Int)(cs:List Int)(x:Node):Bool:=decide ((x.rows.length:Int)=S.af (S.ae cs x.parents))&&x.rows.all (S.aQ gr x.card)
structure FJ (gr:Int) (r:List Int) (z:AV) (j:Nat) (t:T):Prop where
 st:St t [(2,.hptr 0 0 0 0),(3,.hptr 1 0 0 0),(4,.hptr 2 0 0 0),(9,z),(40,z),(10,.int .i64 (gr - (r.take j).sum))]
 nn:∀x∈r.take j,0<=x
 le:(r.take j).sum<=gr
theorem HO {d:Nat}{rd:Option Nat}{gr:Int}{r:List Int}{z:AV}{Q:QT}{t:T}{g:G}(hz:SlR NoP 0 .nil r z)(hg1:1<=gr/\gr<=60)
  (ht:St t [(2,.hptr 0 0 0 0),(3,.hptr 1 0 0 0),(4,.hptr 2 0 0 0),(9,z),(40,z),(10,.int .i64 gr)]) (h42:tat t 42=.int .i64 0) (h41:tat t 41=.int .i64 (r.length:Int)) (e2:g.h.get 2=.cells 1 [[.bool false]] 0 false false)
  (bad:∀t,(∀card,S.aQ gr card r=false)->Q .ret t [] (g.put 2 (.cells 1 [[.bool false]] 0 false false)))
  (fin:∀t,(∀x∈r,0<=x)->r.sum<=gr->St t [(2,.hptr 0 0 0 0),(3,.hptr 1 0 0 0),(4,.hptr 2 0 0 0),(9,z),(10,.int .i64 (gr - r.sum))]->Q (.exit 4) t [] g) :
  wpL (wp C0 d rd dM) Q t [] g:=by
 have rz:=λh=>(hz.tree (h':=h) (Nat.le_refl 0)).ints;simp only[dM];refine aK (m:=r.length) hz.1 (λj t df g'=>df=[]/\g'=g/\FJ gr r z j t) ⟨rfl,rfl,by simpa using ht,by simp,by simp;omega⟩ h42 h41 (by decide)
  (by rintro j t df g v s (rfl | rfl | rfl) ⟨a1,a2,⟨b1,b2,b3,b4,b5,b6,-⟩,b7,b8⟩<;>exact ⟨a1,a2,by simp[St,sx,b1,b2,b3,b4,b5,b6],b7,b8⟩) ?_ ?_
 ·rintro j t df g' hj ⟨rfl,rfl,⟨⟨h2,h3,h4,h9,h40,h10,-⟩,hnn,hle⟩⟩ h42 h41;obtain ⟨y,hy,htk,hm⟩:=ae hj;have u1:j<(r.map ci).length:=by simpa using hj
  have u2:(r.map ci)[j]?=some (ci y):=by rw[List.getElem?_map,hy];rfl
  have hs0:=Cg hnn
  by_cases c1:y<0
  ·simp only[sz,simprocAttr,h4,h40,h42,rz,u1,u2,ci,c1,e2];exact bad _ (λcard=>by
    rw[<-Bool.not_eq_true,S.aQ];simp only[Bool.and_eq_true,decide_eq_true_eq,List.all_eq_true];rintro ⟨⟨-,h⟩,-⟩;have:=h y hm;omega)
  ·by_cases c2:gr - (r.take j).sum<y
   ·simp only[sz,simprocAttr,h4,h40,h10,h42,rz,u1,u2,ci,c1,c2,e2];exact bad _ (λcard=>by
     rw[<-Bool.not_eq_true,S.aQ];simp only[Bool.and_eq_true,decide_eq_true_eq,List.all_eq_true];rintro ⟨⟨-,h⟩,hs⟩;have h1:=Ee (l:=r) (λx hx=>(h x hx).1) (j+1);rw[htk,zE] at h1;omega)
   ·have w1:IntKind.wrap .i64 (gr - (r.take j).sum - y)=gr - (r.take (j+1)).sum:=by rw[aq (by omega) (by omega),htk,zE];omega
    simp only[sz,simprocAttr,h40,h10,h42,h41,rz,u1,u2,ci,c1,c2,w1];refine ⟨by simp[St,sx,h2,h3,h4,h9,h40],λx hx=>?_,by rw[htk,zE];omega⟩;rw[htk] at hx;rcases List.mem_append.1 hx with h | h
    ·exact hnn x h
    ·rw[List.mem_singleton.1 h];omega
 ·rintro t df g' ⟨rfl,rfl,⟨⟨h2,h3,h4,h9,h40,h10,-⟩,hnn,hle⟩⟩;rw[List.take_length] at hnn hle h10;exact fin t hnn hle ⟨h2,h3,h4,h9,h10,trivial⟩
structure FlJ (cs1 cs2:List AV) (gr card:Int) (rws:List (List Int)) (j:Nat) (h:H):Prop where
 a0:h.get 0=.cells 5 [cs1] 0 false false
 a1:h.get 1=.cells 3 [cs2] 0 false false
 a2:h.get 2=.cells 1 [[.bool false]] 0 false false
 all:∀r∈rws.take j,S.aQ gr card r=true
structure FlE (gr card:Int) (rws:List (List Int)) (h:H):Prop where
 a2:h.get 2=.cells 1 [[.bool false]] 0 false false
 ex:∃r∈rws,S.aQ gr card r=false
theorem HP {d k1 k2:Nat}{g:G}{P1 P2:Nat->Prop}{v w:AV}{m:NwM}{x:Node}(hd:0<d)(hm:Agg m P1 k1 g.h v)(hx:Agg x P2 k2 g.h w)(hk:k2=0/\P2=NoP)(hg1:1<=m.1.grain/\m.1.grain<=60)(hc:∀c∈m.2.1,1<=c/\c<=4)
  (hp:∀p∈x.parents,0<=p/\p<m.2.1.length) (hpl:x.parents.length<=8):ap C0 d N.aN [v,w] g=.val (.bool (S.aZ m.1.grain m.2.1 x)):=by
 obtain ⟨rfl,rfl⟩:=hk;obtain ⟨v',e1,cs,rfl,hcs⟩:=rh (dj m) (by decide) d hm;obtain ⟨nb,cb,sb,ob,rfl,-,hcb,-,-⟩:=wQ.1 hcs;have e2:=j7 d hx;obtain ⟨cs2,rfl,hcs2⟩:=hx;obtain ⟨pa,ra,rfl,hpa,hra⟩:=cp.1 hcs2;have hcs2':∀h,Agg x NoP 0 h (.agg [.int .i64 x.card,pa,ra]):=λh=>⟨_,rfl,Rp.tree hcs2 (Nat.le_refl _)⟩;have hra:=hra.tree (h':=.nil) (Nat.le_refl 0);have rp:=λh=>(hpa.tree (h':=h) (Nat.le_refl 0)).ints;have rc:=λh=>(hcb.tree (h':=h) (Nat.le_refl _)).ints;have pl:=λg=>(hpa.tree (h':=.nil) (Nat.le_refl 0)).len g;have rl:=λg=>hra.len g;rw[oE];refine pC qW (xs:=[.agg [.int .i64 m.1.grain,nb,cb,sb,ob],.agg [.int .i64 x.card,pa,ra]]) (by simp only[aH,e1,e2]) (by simp[fy]) hd ?_;simp only[sz,simprocAttr,fy];obtain ⟨g0,hg0⟩:∃g0,g0=((G.empty.new (.cells 5 [[.int .i64 m.1.grain,nb,cb,sb,ob]] 0 false false)).new (.cells 3 [[.int .i64 x.card,pa,ra]] 0 false false)).new (.cells 1 [[.bool false]] 0 false false):=⟨_,rfl⟩;rw[<-hg0];have f0:g0.h.get 0=.cells 5 [[.int .i64 m.1.grain,nb,cb,sb,ob]] 0 false false:=by rw[hg0];simp[sx,H.get_put]
 have f1:g0.h.get 1=.cells 3 [[.int .i64 x.card,pa,ra]] 0 false false:=by rw[hg0];simp[sx,H.get_put]
 have f2:g0.h.get 2=.cells 1 [[.bool false]] 0 false false:=by rw[hg0];simp[sx]
 have f3:g0.nx=3:=by rw[hg0];simp[sx]
 clear hg0;simp only[sz,simprocAttr,jb,f1,pl,iB];refine aK (m:=x.parents.length) (by omega) (λj t df g=>df=[]/\g=g0/\St t [(2,.hptr 0 0 0 0),(3,.hptr 1 0 0 0),(4,.hptr 2 0 0 0),(14,pa),(5,.int .i64 (S.af (S.ae m.2.1 (x.parents.take j))))])
  ⟨rfl,rfl,by simp[St,sx,S.af,S.ae]⟩ (by simp[sx]) (by simp[sx]) (by decide) (by rintro j t df g v s (rfl | rfl | rfl)<;>simp[St,sx]) ?_ ?_
 ·rintro j t df g hj ⟨rfl,rfl,⟨h2,h3,h4,h14,h5,-⟩⟩ h16 h15;obtain ⟨p,hpj,htk,hm2⟩:=ae hj;obtain ⟨p0,p1⟩:=hp p hm2;obtain ⟨p,rfl⟩:=Int.eq_ofNat_of_zero_le p0;have hpl2:p<m.2.1.length:=by omega
  have u1:j<(x.parents.map ci).length:=by simpa using hj
  have u2:(x.parents.map ci)[j]?=some (ci (p:Int)):=by rw[List.getElem?_map,hpj];rfl
  have u3:p<(m.2.1.map ci).length:=by simpa using hpl2
  have u4:(m.2.1.map ci)[p]?=some (ci m.2.1[p]):=by rw[List.getElem?_map,List.getElem?_eq_getElem hpl2];rfl
  have e3:S.af (S.ae m.2.1 (x.parents.take (j+1)))=S.af (S.ae m.2.1 (x.parents.take j))*m.2.1[p]:=by rw[htk,cy,mM];congr 1;simp[S.ae,S.af,List.getElem?_eq_getElem hpl2]
  have hpb:=bB (l:=S.ae m.2.1 (x.parents.take (j+1))) (aM hc λq hq=>hp q (List.mem_of_mem_take hq));have hp4:=cZ (a:=(S.ae m.2.1 (x.parents.take (j+1))).length) (b:=8) (by simp[S.ae];omega);have h48:(4:Int) ^ 8=65536:=by decide
  have w1:IntKind.wrap .i64 (S.af (S.ae m.2.1 (x.parents.take j))*m.2.1[p])=S.af (S.ae m.2.1 (x.parents.take (j+1))):=by rw[<-e3,aq (by omega) (by omega)]
  simp only[sz,simprocAttr,h2,h14,h5,h16,h15,f0,rp,rc,u1,u2,u3,u4,ci,w1];simp[St,sx,h2,h3,h4,h14]
 rintro t df g ⟨rfl,rfl,⟨h2,h3,h4,h14,h5,-⟩⟩;rw[List.take_length] at h5;simp only[iE]
 by_cases c1:(x.rows.length:Int)=S.af (S.ae m.2.1 x.parents)
 ·obtain ⟨pa',ra',er,hpa',hra'⟩:=za (d:=d+1) (g:=g) (Nat.succ_pos d) (hcs2' g.h);refine gx (P:=λt' df g'=>df=[]/\g'=g/\St t' [(2,.hptr 0 0 0 0),(3,.hptr 1 0 0 0),(4,.hptr 2 0 0 0)]) ?_ ?_
  ·simp only[sz,simprocAttr,h3,h5,f1,rl,c1];simp[St,sx,h2,h3,h4]
  clear h2 h3 h4 h5 h14;rintro t df g ⟨rfl,rfl,h2,h3,h4,-⟩;rw[cj,cj];simp only[sz,simprocAttr,h3,f1,er];refine DZ (c:=x.card) (pa:=pa') hra' (by simp[sx]) (by decide) (by decide)
   (FlJ [.int .i64 m.1.grain,nb,cb,sb,ob] [.int .i64 x.card,pa,ra] m.1.grain x.card x.rows)
   (FlE m.1.grain x.card x.rows) ?_ ?_ ⟨f0,f1,f2,by simp⟩ ?_ ?_ ?_
  ·rintro j h h' hh ⟨a0,a1,a2,a3⟩;exact ⟨by rw[hh 0 (by omega),a0],by rw[hh 1 (by omega),a1],by rw[hh 2 (by omega),a2],a3⟩
  ·rintro h h' hh ⟨a2,a3⟩;exact ⟨by rw[hh 2 (by omega),a2],a3⟩
  ·rintro j r z g1 hr hz ⟨a0,a1,a2,a3⟩ hn;obtain ⟨r',hr',htk,hrm⟩:=ae (l:=x.rows) (j:=j) (List.getElem?_eq_some_iff.1 hr).1;rw[hr] at hr';injection hr' with hr';subst hr';simp only[sz,simprocAttr,iA];intro g2 hg2n hg2;have b0:g2.h.get 0=.cells 5 [[.int .i64 m.1.grain,nb,cb,sb,ob]] 0 false false:=by rw[hg2 0 (by omega),a0]
   have b1:g2.h.get 1=.cells 3 [[.int .i64 x.card,pa,ra]] 0 false false:=by rw[hg2 1 (by omega),a1]
   have b2:g2.h.get 2=.cells 1 [[.bool false]] 0 false false:=by rw[hg2 2 (by omega),a2]
   simp only[sz,simprocAttr,iC,h2,b0,hz.len];refine HO (gr:=m.1.grain) (r:=r) (z:=z) hz hg1 (by simp[St,sx,h2,h3,h4]) (by simp[sx]) (by simp[sx]) b2 ?_ ?_
   ·rintro t hrow;simp only[sx,sy];exact ⟨by simp,λi h1 h2=>by simp[H.get_put,show ¬i=2 by omega],.inr ⟨rfl,by simp[H.get_put],r,hrm,hrow _⟩⟩
   ·rintro t hnn hle ⟨h2,h3,h4,h9,h10,-⟩;have hzl:=λg=>hz.len g
    by_cases c2:(r.length:Int)=x.card
    ·by_cases c3:m.1.grain - r.sum=0
     ·simp only[sz,simprocAttr,cm,h3,h9,h10,hzl,b1,c2,c3];refine ⟨Nat.le_refl _,λi _ _=>rfl,.inl ⟨rfl,b0,b1,b2,λy hy=>?_⟩⟩;rw[htk] at hy;rcases List.mem_append.1 hy with h | h
      ·exact a3 y h
      ·rw[List.mem_singleton.1 h,S.aQ];simp only[Bool.and_eq_true,decide_eq_true_eq,List.all_eq_true];exact ⟨⟨c2,λq hq=>⟨hnn q hq,by have:=y4 hnn q hq;omega⟩⟩,by omega⟩
     ·have hro:S.aQ m.1.grain x.card r=false:=by rw[S.aQ];simp;intros;omega
      simp only[sz,simprocAttr,cm,h3,h4,h9,h10,hzl,b1,b2,c2,c3];exact ⟨by simp,λi h1 h2=>by simp[H.get_put,show ¬i=2 by omega],.inr ⟨rfl,by simp[H.get_put],r,hrm,hro⟩⟩
    ·have hro:S.aQ m.1.grain x.card r=false:=by rw[S.aQ];simp[c2]
     simp only[sz,simprocAttr,cm,h3,h4,h9,hzl,b1,b2,c2];exact ⟨by simp,λi h1 h2=>by simp[H.get_put,show ¬i=2 by omega],.inr ⟨rfl,by simp[H.get_put],r,hrm,hro⟩⟩
  ·rintro g' ⟨a0,a1,a2,a3⟩ hn hdf;rw[List.take_length] at a3;have hok:S.aZ m.1.grain m.2.1 x=true:=by rw[S.aZ,List.all_eq_true.2 a3];simp[c1]
   simp only[sz,simprocAttr,iD,h4,a2];refine ij (by simp[H.get_put,show ¬g.nx=2 by omega,hdf]) ?_;simp only[sx,sy,↓reduceIte,Nat.reduceEqDiff,h4,hok];simp[show ¬(2=g.nx) by omega]
   rfl
  ·rintro g' ⟨a2,r,hr,hro⟩ hn hdf;have hok:S.aZ m.1.grain m.2.1 x=false:=by
    rw[S.aZ];have:x.rows.all (S.aQ m.1.grain x.card)=false:=by rw[<-Bool.not_eq_true,List.all_eq_true];intro h;rw[h r hr] at hro;cases hro
    rw[this,Bool.and_false]
   simp only[sx];refine ij hdf ?_;simp only[sx,sy,↓reduceIte,Nat.reduceEqDiff,h4,hok];rw[if_neg (by omega),a2]
   rfl
 ·simp only[sz,simprocAttr,h3,h4,h5,f1,f2,rl,c1];rw[S.aZ];simp[c1]
theorem uO:∀{l:List Int} {v:Nat},(∀x∈l,0<=x/\x<64)->((S.ap l).testBit v=true↔(v:Int)∈l):=by
 have key:∀(l:List Int) (s v:Nat),(∀x∈l,0<=x/\x<64)->((l.foldl (λs x=>s ||| S.aK x.toNat) s).testBit v=true↔s.testBit v=true\/(v:Int)∈l):=by
  intro l
  induction l with
  | nil=>intro s v _;simp
  | cons x l ih =>
   intro s v h;have hx:=h x (by simp);rw[List.foldl_cons,ih _ _ λy hy=>h y (by simp[hy]),sH,xQ (show x.toNat<64 by omega),Bool.or_eq_true,decide_eq_true_eq,List.mem_cons];constructor
   ·rintro ((h | h) | h)
    ·exact .inl h
    ·exact .inr (.inl (by omega))
    ·exact .inr (.inr h)
   ·rintro (h | h | h)
    ·exact .inl (.inl h)
    ·exact .inl (.inr (by omega))
    ·exact .inr h
 intro l v h;have:=key l 0 v h;simpa [S.ap] using this
theorem J1 {l:List Int}{k:Nat}(hk:k<=64)(h:∀x∈l,0<=x/\x<k):S.ap l<2 ^ k:=by
 have hb:∀i,k<=i->(S.ap l).testBit i=false:=λi hi=>by rw[<-Bool.not_eq_true,uO λx hx=>by have:=h x hx;omega];intro hm;have:=h _ hm;omega
 exact Nat.lt_pow_two_of_testBit _ λi hi=>hb i hi
structure RdH (n:Net) (b cv sv:AV) (q:Nat) (X:List Int) (Y:List Nat) (g:G):Prop where
 h0:g.h.get 0=.cells 2 [[.int .i64 n.grain,b]] 0 false false
 h1:g.h.get 1=.cells 5 [[.int .i64 0,.nils,.nils,.nils,.nils]] 0 false false
 hq:g.h.get q=.cells 5 [[.int .i64 n.grain,b,cv,sv,.nils]] 0 false false
 hc:Own g 2 cv 1 (X.map ci)
 hs:Own g 2 sv 1 (Y.map cu)
 q2:2<=q
 qn:q<g.nx
 d1:vid cv≠some q
 d2:vid sv≠some q
 d3:∀i,vid cv=some i->vid sv≠some i
theorem RdH.fr {n:Net}{b cv sv:AV}{q:Nat}{X:List Int}{Y:List Nat}{g g':G}(h:RdH n b cv sv q X Y g)(f:Fr g g'):RdH n b cv sv q X Y g' :=
 ⟨by rw[f.2 0 (by have:=h.qn;have:=h.q2;omega),h.h0],by rw[f.2 1 (by have:=h.qn;have:=h.q2;omega),h.h1],by rw[f.2 q h.qn,h.hq],h.hc.step f,h.hs.step f,h.q2,Nat.lt_of_lt_of_le h.qn f.1,h.d1,h.d2,h.d3⟩
def S.bW (n:Net)(o:List Int):NwM:=if S.aP n then (n,S.aa n,S.aq n,o) else (⟨0,[]⟩,[],[],[])
def Cp (n:Net):VS:=λP k h v=>∃o:List Int,True/\tG (Agg (S.bW n o)) (One (if S.aP n then (0:Int) else 50)) P k h v
section
variable {d:Nat}{n:Net}{b cv sv:AV}{q:Nat}{rows:List (List AV)}
def LRd (q:Nat):List (Nat×AV):=[(1,.hptr 0 0 0 0),(2,.hptr 1 0 0 0),(4,.hptr q 0 0 0)]
theorem NY {t:T}{g:G}(hn:¬NR n)(h1:g.h.get 1=.cells 5 [[.int .i64 0,.nils,.nils,.nils,.nils]] 0 false false)(t2:tat t 2=.hptr 1 0 0 0)(t3:tat t 3=.int .i64 50) :
  fnQ C0 d me.res (λv g'=>∃P,Cp n P 0 g'.h v) .ret t [] g:=by
 have hf:S.aP n=false:=by
  cases h:S.aP n with
  | false=>rfl
  | true=>exact absurd (dw.1 h) hn
 simp only[me,sx,sy,↓reduceIte,Nat.reduceAdd,Nat.reduceLeDiff,t2,t3,h1];refine ⟨λ_=>True,[],trivial,_,_,rfl,⟨_,rfl,?_⟩,?_⟩
 ·rw[S.bW,hf];exact wQ.2 ⟨.nils,.nils,.nils,.nils,rfl,⟨by show 0<9223372036854775808;decide,rfl⟩,⟨by show 0<9223372036854775808;decide,rfl⟩,⟨by show 0<9223372036854775808;decide,rfl⟩,⟨by show 0<9223372036854775808;decide,rfl⟩⟩
 ·rw[hf];exact aF.2 rfl
structure Rd0 (n:Net) (b cv sv:AV) (q j:Nat) (t:T) (g:G):Prop where
 st:St t ((48,b)::(5,.int .i64 (S.af ((S.aa n).take j)))::LRd q)
 hp:RdH n b cv sv q ((S.aa n).take j++List.replicate (n.nodes.length - j) 0) (List.replicate n.nodes.length 0) g
 ok:∀x∈n.nodes.take j,1<=x.card/\x.card<=4
theorem Mj {Q:QT}{t:T}{g:G}(hl:n.nodes.length<=8)(hN:SlR NoP 0 .nil n.nodes b)(r1:∀h,ah h 3 b=some rows)(r2:rows.length=n.nodes.length)
  (r3:∀(i:Nat) (x:Node),n.nodes[i]?=some x->∃pa ra,rows[i]?=some [.int .i64 x.card,pa,ra]/\i<rows.length/\SlR NoP 0 .nil x.parents pa/\SlR NoP 0 .nil x.rows ra) (r4:0<n.nodes.length->ug b=true)
  (h0:Rd0 n b cv sv q 0 t g) (h50:tat t 50=.int .i64 0) (h49:tat t 49=.int .i64 (n.nodes.length:Int))
  (bad:∀t g,¬NR n->g.h.get 1=.cells 5 [[.int .i64 0,.nils,.nils,.nils,.nils]] 0 false false->tat t 2=.hptr 1 0 0 0->tat t 3=.int .i64 50->Q .ret t [] g)
  (fin:∀t g,Rd0 n b cv sv q n.nodes.length t g->Q (.exit 0) t [] g):wpL (wp C0 d none nO) Q t [] g:=by
 simp only[nO];refine aK (m:=n.nodes.length) (by omega) (λj t df g=>df=[]/\Rd0 n b cv sv q j t g) ⟨rfl,h0⟩ h50 h49 (by decide)
  (by rintro j t df g v s (rfl | rfl | rfl) ⟨a1,⟨b1,b2,b3,b4,b5,-⟩,c1,c2⟩<;>exact ⟨a1,by simp[St,LRd,sx,b1,b2,b3,b4,b5],c1,c2⟩) ?_ ?_
 ·rintro j t df g hj ⟨rfl,⟨⟨h48,h5,h1,h2,h4,-⟩,hp,hok⟩⟩ h50 h49;obtain ⟨x,hx,htk,hxm⟩:=ae hj;obtain ⟨pa,ra,q1,hlt,hpa,hra⟩:=r3 j x hx;have hry:=r4 (by omega);have q2:=hp.q2;have qn:=hp.qn;have hne1:¬(1=g.nx):=by omega
  have hneq:¬(q=g.nx):=by omega
  have f1:Fr g (g.new (.cells 3 [[.int .i64 0,.nils,.nils]] 0 false false)):=Fr.new _ _;have badn:¬(1<=x.card/\x.card<=4)->¬NR n:=λh hr=>h (hr.card x hxm)
  by_cases c1:x.card<1
  ·simp only[sz,simprocAttr,h2,h48,h50,r1,hlt,q1,hp.h1,hne1,c1];exact bad _ _ (badn (by omega)) (by simp[H.get_put]) (by simp[sx,h2]) (by simp[sx])
  ·by_cases c2:4<x.card
   ·simp only[sz,simprocAttr,h2,h48,h50,r1,hlt,q1,hp.h1,hne1,c1,c2];exact bad _ _ (badn (by omega)) (by simp[H.get_put]) (by simp[sx,h2]) (by simp[sx])
   ·have hall:∀y∈n.nodes.take (j+1),1<=y.card/\y.card<=4:=λy hy=>by
     rw[htk] at hy;rcases List.mem_append.1 hy with h | h
     ·exact hok y h
     ·rw[List.mem_singleton.1 h];omega
    have hcb:∀c∈(S.aa n).take (j+1),1<=c/\c<=4:=λc hc=>by rw[S.aa,<-List.map_take] at hc;obtain ⟨y,hy,rfl⟩:=List.mem_map.1 hc;exact hall y hy
    have hpb:=bB hcb;have hp4:=cZ (a:=((S.aa n).take (j+1)).length) (b:=8) (by rw[List.length_take];omega);have h48':(4:Int) ^ 8=65536:=by decide
    have hcj:(S.aa n)[j]?=some x.card:=by simp[S.aa,hx]
    have ets:(S.aa n).take (j+1)=(S.aa n).take j++[x.card]:=by rw[List.take_add_one,hcj];rfl
    have e1:S.af ((S.aa n).take (j+1))=S.af ((S.aa n).take j)*x.card:=by rw[ets];exact wj _ _
    have w1:IntKind.wrap .i64 (S.af ((S.aa n).take j)*x.card)=S.af ((S.aa n).take (j+1)):=by rw[<-e1,aq (by omega) (by omega)]
    have hlj:((S.aa n).take j).length=j:=by rw[List.length_take,aA];omega
    have hXr:(((S.aa n).take j++List.replicate (n.nodes.length - j) 0).map ci)[j]?=some (ci 0):=by rw[List.getElem?_map,List.getElem?_append_right (by omega),hlj,Nat.sub_self,List.getElem?_replicate,if_pos (by omega)];rfl
    have hXl:j<(((S.aa n).take j++List.replicate (n.nodes.length - j) 0).map ci).length:=by simp[aA];omega
    have hXs:((S.aa n).take j++List.replicate (n.nodes.length - j) 0).set j x.card=(S.aa n).take (j+1)++List.replicate (n.nodes.length - (j+1)) 0:=by rw[List.set_append_right _ _ (by omega),hlj,Nat.sub_self,ets,show n.nodes.length - j=(n.nodes.length - (j+1))+1 by omega,List.replicate_succ,List.set_cons_zero,List.append_assoc];rfl
    have hp2:=hp.fr f1;obtain ⟨g2,hg2⟩:∃g2,g2=(g.new (.cells 3 [[.int .i64 0,.nils,.nils]] 0 false false)).put g.nx (.cells 3 [[.int .i64 x.card,pa,ra]] 0 false false):=⟨_,rfl⟩;have f2:Fr g g2:=by rw[hg2];exact MW (by simp) λi hi=>by simp[H.get_put,show ¬i=g.nx by omega]
    have hp3:=hp.fr f2;have f7:g2.h.get g.nx=.cells 3 [[.int .i64 x.card,pa,ra]] 0 false false:=by rw[hg2];simp[H.get_put]
    refine di (P:=λt' df g'=>df=[]/\g'=g2/\St t' ((48,b)::(5,.int .i64 (S.af ((S.aa n).take j)))::LRd q)/\tat t' 6=.int .i64 (j:Int)/\tat t' 7=.hptr g.nx 0 0 0/\tat t' 50=.int .i64 (j:Int)/\tat t' 49=.int .i64 (n.nodes.length:Int)) ?_ ?_
    ·simp only[sz,simprocAttr,h48,h49,h50,r1,hlt,q1];rw[hg2];simp[St,LRd,sx,h1,h2,h4,h5,h48]
    clear h1 h2 h4 h5 h48 h49 h50;rintro t df g3 ⟨rfl,rfl,⟨h48,h5,h1,h2,h4,-⟩,h6,h7,h50,h49⟩;have hcr:=hp3.hc.rows;simp only[sz,simprocAttr,h4,h6,h7,f7,hp3.hq,hcr,hXl,c1,c2];refine bF (v:=cv) (sz:=1) (n:=1) (i:=j) (off:=0) (x:=.int .i64 x.card) (row':=ci x.card) hp3.hc hXr rfl rfl rfl λg4 hu4 n4 f4=>?_;rw[qf,hXs] at hu4;have f74:g4.h.get g.nx=.cells 3 [[.int .i64 x.card,pa,ra]] 0 false false:=by rw[f4 _ λe=>by have:=(hp.hc.lt e).2;omega,f7]
    simp only[sz,simprocAttr,h5,h7,h49,h50,f74,w1];refine ⟨by simp[St,LRd,sx,h1,h2,h4,h48],⟨?_,?_,?_,hu4,?_,q2,by rw[n4];exact hp3.qn,hp.d1,hp.d2,hp.d3⟩,hall⟩
    ·rw[f4 0 λe=>by have:=(hp.hc.lt e).1;omega,hp3.h0]
    ·rw[f4 1 λe=>by have:=(hp.hc.lt e).1;omega,hp3.h1]
    ·rw[f4 q hp.d1,hp3.hq]
    ·exact hp3.hs.fr (by omega) λi hi=>f4 i λe=>hp.d3 i e hi
 ·rintro t df g ⟨rfl,h⟩;exact fin t g h
end
end
end Hx
end
section
namespace Hx
open Go
noncomputable section
def dT (ps:List Int)(i:Nat):Int:=if i=0 then -1 else ps[i - 1]?.getD 0
theorem sE {ps:List Int}{i:Nat}{p:Int}(h:ps[i]?=some p):dT ps (i+1)=p:=by unfold dT;rw[if_neg (by omega),Nat.add_sub_cancel,h];rfl
structure PlI (ps:List Int) (k:Int) (v i:Nat):Prop where
 rng:∀(j:Nat) (p:Int),j<i->ps[j]?=some p->0<=p/\p<k/\p≠(v:Int)
 inc:∀(j:Nat) (p q:Int),j+1<i->ps[j]?=some p->ps[j+1]?=some q->p<q
theorem DG {ps:List Int}{k:Int}{v i:Nat}{p:Int}(h:PlI ps k v i)(hp:ps[i]?=some p)(h1:dT ps i<p)(h2:p<k)(h3:p≠(v:Int)):PlI ps k v (i+1):=by
 refine ⟨λj q hj hq=>?_,λj a c hj ha hc=>?_⟩
 ·by_cases e:j=i
  ·subst e;rw[hp] at hq;injection hq with hq;subst hq;refine ⟨?_,h2,h3⟩
   by_cases e0:j=0
   ·subst e0;unfold dT at h1;simp at h1;omega
   ·have hj1:j - 1<ps.length:=by have:=(List.getElem?_eq_some_iff.1 hp).1;omega
    have:=h.rng (j - 1) ps[j - 1] (by omega) (List.getElem?_eq_getElem hj1);unfold dT at h1;rw[if_neg e0,List.getElem?_eq_getElem hj1,Option.getD_some] at h1;omega
  ·exact h.rng j q (by omega) hq
 ·by_cases e:j+1=i
  ·subst e;rw[hp] at hc;injection hc with hc;subst hc;rw[sE ha] at h1;exact h1
  ·exact h.inc j a c (by omega) ha hc
theorem zl {ps:List Int}{k:Int}{v:Nat}(h:PlI ps k v ps.length):S.aw ps k=true:=by
 unfold S.aw;rw[List.all_eq_true];intro i hi;have hi:=List.mem_range.1 hi;have hp:ps[i]?=some ps[i]:=List.getElem?_eq_getElem hi;obtain ⟨r1,r2,-⟩:=h.rng i _ hi hp
 by_cases e:i=0
 ·subst e;simp only[S.a9,hp,Option.getD_some];simp;omega
 ·have hq:ps[i - 1]?=some ps[i - 1]:=List.getElem?_eq_getElem (by omega);have:=h.inc (i - 1) _ ps[i] (by omega) hq (by rw[show i - 1+1=i by omega];exact hp);simp only[S.a9,hp,hq,Option.getD_some];simp;omega
theorem NR.pl {n:Net}(h:NR n){v:Nat}{x:Node}(hx:n.nodes[v]?=some x){i:Nat}{p:Int}(hp:x.parents[i]?=some p):dT x.parents i<p/\p<n.nodes.length/\p≠(v:Int):=by
 have hm:=List.mem_of_getElem? hx;have hpl:=h.places x hm;have h1:=bm hpl p (List.mem_of_getElem? hp);have hl2:=h.l2;refine ⟨?_,h1.2,λe=>?_⟩
 ·unfold dT
  split
  ·omega
  ·rename_i e;have hil:=(List.getElem?_eq_some_iff.1 hp).1;have hq:x.parents[i - 1]?=some x.parents[i - 1]:=List.getElem?_eq_getElem (by omega);rw[hq,Option.getD_some];exact qj hpl hq (by rw[show i - 1+1=i by omega];exact hp)
 ·have hv:=(List.getElem?_eq_some_iff.1 hx).1;have ha:=ul.1 h.acyc v (by simp[S.aq];exact hv);have hpar:Par (S.aq n) v=S.ap x.parents:=by simp[Par,S.aq,hx]
  have hb:(Par (S.aq n) v).testBit v=true:=by rw[hpar,uO λy hy=>by have:=bm hpl y hy;omega,<-e];exact List.mem_of_getElem? hp
  have:=xI (p:=S.aq n) (s:=Par (S.aq n) v) (S.aq n).length v hb;rw[this] at ha;cases ha
section
variable {d:Nat}{n:Net}{b cv sv:AV}{q:Nat}{rows:List (List AV)}
def S.aM (n:Net)(j:Nat)(m:Nat):List Nat:=(S.aq n).take j++m::List.replicate (n.nodes.length - (j+1)) 0
structure Rd1 (n:Net) (x:Node) (b cv sv pa:AV) (q j p9 i:Nat) (t:T) (g:G):Prop where
 st:St t ((80,b)::(81,.int .i64 (n.nodes.length:Int))::(82,.int .i64 (j:Int))::(88,pa)::(8,.int .i64 (j:Int))::(9,.hptr p9 0 0 0)::(10,.int .i64 (dT x.parents i))::LRd q)
 hp:RdH n b cv sv q (S.aa n) (S.aM n j (S.ap (x.parents.take i))) g
 ok:PlI x.parents n.nodes.length j i
theorem Mk {Q:QT}{t:T}{g:G}{x:Node}{pa:AV}{j p9:Nat}{c9:List AV}(hl:n.nodes.length<=8)(hN:SlR NoP 0 .nil n.nodes b)(hx:n.nodes[j]?=some x)(hpa:SlR NoP 0 .nil x.parents pa)
  (h0:Rd1 n x b cv sv pa q j p9 0 t g) (h90:tat t 90=.int .i64 0) (h89:tat t 89=.int .i64 (x.parents.length:Int)) (e9:g.h.get p9=.cells 3 [c9] 0 false false) (p9s:vid sv≠some p9)
  (bad:∀t g,¬NR n->g.h.get 1=.cells 5 [[.int .i64 0,.nils,.nils,.nils,.nils]] 0 false false->tat t 2=.hptr 1 0 0 0->tat t 3=.int .i64 50->Q .ret t [] g)
  (fin:∀t g',Rd1 n x b cv sv pa q j p9 x.parents.length t g'->g'.h.get p9=.cells 3 [c9] 0 false false->g.nx<=g'.nx->Q (.exit 4) t [] g'):wpL (wp C0 d none nP) Q t [] g:=by
 have hjl:=(List.getElem?_eq_some_iff.1 hx).1;have nl:=λg=>hN.len g;have rp:=λh=>(hpa.tree (h':=h) (Nat.le_refl 0)).ints;have hpsl:(S.aq n).length=n.nodes.length:=by simp[S.aq]
 have hypl:((S.aq n).take j).length=j:=by rw[List.length_take,hpsl];omega
 simp only[nP];refine aK (m:=x.parents.length) hpa.1 (λi t df g'=>df=[]/\Rd1 n x b cv sv pa q j p9 i t g'/\g'.h.get p9=.cells 3 [c9] 0 false false/\g.nx<=g'.nx) ⟨rfl,h0,e9,Nat.le_refl _⟩ h90 h89 (by decide)
  (by rintro i t df g v s (rfl | rfl | rfl) ⟨a1,⟨⟨b1,b2,b3,b4,b5,b6,b7,b8,b9,b10,-⟩,c1,c2⟩,c3⟩<;>exact ⟨a1,⟨by simp[St,LRd,sx,b1,b2,b3,b4,b5,b6,b7,b8,b9,b10],c1,c2⟩,c3⟩) ?_ ?_
 ·rintro i t df g hi ⟨rfl,⟨⟨h80,h81,h82,h88,h8,h9,h10,h1,h2,h4,-⟩,hp,hok⟩,e9,en⟩ h90 h89;obtain ⟨p,hpi,htk,-⟩:=ae hi;have u1:i<(x.parents.map ci).length:=by simpa using hi
  have u2:(x.parents.map ci)[i]?=some (ci p):=by rw[List.getElem?_map,hpi];rfl
  have badn:¬(dT x.parents i<p/\p<n.nodes.length/\p≠(j:Int))->¬NR n:=λh hr=>h (hr.pl hx hpi);have q2:=hp.q2
  by_cases c1:p<=dT x.parents i
  ·simp only[sz,simprocAttr,h2,h10,h88,h90,rp,u1,u2,ci,hp.h1,c1];exact bad _ _ (badn (by omega)) (by simp[H.get_put]) (by simp[sx,h2]) (by simp[sx])
  by_cases c2:(n.nodes.length:Int)<=p
  ·simp only[sz,simprocAttr,h2,h4,h10,h88,h90,rp,u1,u2,ci,hp.hq,nl,hp.h1,c1,c2];exact bad _ _ (badn (by omega)) (by simp[H.get_put]) (by simp[sx,h2]) (by simp[sx])
  by_cases c3:p=(j:Int)
  ·subst c3;simp only[sz,simprocAttr,h2,h4,h8,h10,h88,h90,rp,u1,u2,ci,hp.hq,nl,hp.h1,c1,c2,eq_self];exact bad _ _ (badn (by omega)) (by simp[H.get_put]) (by simp[sx,h2]) (by simp[sx])
  have hok2:=DG hok hpi (by omega) (by omega) c3;obtain ⟨p0,-,-⟩:=hok2.rng i p (by omega) hpi;obtain ⟨p,rfl⟩:=Int.eq_ofNat_of_zero_le p0;have hYr:((S.aM n j (S.ap (x.parents.take i))).map cu)[j]?=some (cu (S.ap (x.parents.take i))):=by rw[List.getElem?_map,S.aM,List.getElem?_append_right (by omega),hypl,Nat.sub_self];rfl
  have hYl:j<((S.aM n j (S.ap (x.parents.take i))).map cu).length:=by simp[S.aM,hpsl];omega
  have hYs:(S.aM n j (S.ap (x.parents.take i))).set j (S.ap (x.parents.take (i+1)))=S.aM n j (S.ap (x.parents.take (i+1))):=by simp only[S.aM];rw[List.set_append_right _ _ (by omega),hypl,Nat.sub_self,List.set_cons_zero]
  have em:S.ap (x.parents.take (i+1))=S.ap (x.parents.take i) ||| S.aK p:=by rw[htk,AW];rfl
  have hshl:cE .shl (.int .u64 1) (.int .i64 (p:Int))=.val (.int .u64 (S.aK p:Int)):=rk .i64 p;have hor:=Es (S.ap (x.parents.take i)) (S.aK p) (sT _) (vB p);rw[<-em] at hor;have hsr:=hp.hs.rows;have hls:=sE hpi;refine gx (P:=λt' df g'=>df=[]/\g'=g/\St t' ((80,b)::(81,.int .i64 (n.nodes.length:Int))::(82,.int .i64 (j:Int))::(88,pa)::(8,.int .i64 (j:Int))::(9,.hptr p9 0 0 0)::(10,.int .i64 (dT x.parents i))::LRd q)/\tat t' 12=.int .i64 (p:Int)/\tat t' 90=.int .i64 (i:Int)/\tat t' 89=.int .i64 (x.parents.length:Int)) ?_ ?_
  ·simp only[sz,simprocAttr,h88,h90,rp,u1,u2,ci];simp[St,LRd,sx,h1,h2,h4,h8,h9,h10,h80,h81,h82,h88,h89]
  clear h1 h2 h4 h8 h9 h10 h80 h81 h82 h88 h89 h90;rintro t df g' ⟨rfl,rfl,⟨h80,h81,h82,h88,h8,h9,h10,h1,h2,h4,-⟩,h12,h90,h89⟩;refine gx (P:=λt' df g''=>df=[]/\g''=g'/\St t' ((80,b)::(81,.int .i64 (n.nodes.length:Int))::(82,.int .i64 (j:Int))::(88,pa)::(8,.int .i64 (j:Int))::(9,.hptr p9 0 0 0)::(10,.int .i64 (dT x.parents i))::LRd q)/\tat t' 12=.int .i64 (p:Int)/\tat t' 90=.int .i64 (i:Int)/\tat t' 89=.int .i64 (x.parents.length:Int)) ?_ ?_
  ·simp only[sz,simprocAttr,h4,h8,h10,h12,h89,h90,hp.hq,nl,c1,c2,c3];simp[St,LRd,sx,h1,h2,h4,h8,h9,h10,h80,h81,h82,h88]
  clear h1 h2 h4 h8 h9 h10 h12 h80 h81 h82 h88 h89 h90;rintro t df g'' ⟨rfl,rfl,⟨h80,h81,h82,h88,h8,h9,h10,h1,h2,h4,-⟩,h12,h90,h89⟩;simp only[sz,simprocAttr,sf,h4,h8,h12,hp.hq,hsr,hYl,hYr,cu,hshl,hor];refine bF (v:=sv) (sz:=1) (n:=1) (i:=j) (off:=0) (x:=.int .u64 (S.ap (x.parents.take (i+1)):Int)) (row':=cu (S.ap (x.parents.take (i+1)))) (hp.hs.fr (by simp;omega) λi _=>by simp) hYr rfl rfl rfl λg4 hu4 n4 f4=>?_;rw[show (((S.aM n j (S.ap (x.parents.take i))).map cu).set j (cu (S.ap (x.parents.take (i+1)))))=(S.aM n j (S.ap (x.parents.take (i+1)))).map cu from by rw[<-List.map_set,hYs]] at hu4;have f4':∀i,vid sv≠some i->g4.h.get i=g''.h.get i:=λi hi=>by rw[f4 i hi];simp
  have n4':g''.nx<=g4.nx:=by rw[n4];simp;omega
  simp only[sx,sy,↓reduceIte,Nat.reduceEqDiff];refine ⟨?_,⟨⟨?_,⟨?_,?_,?_,?_,?_,q2,?_,hp.d1,hp.d2,hp.d3⟩,hok2⟩,?_,?_⟩,h90,h89⟩
  ·simp only[List.reverse_cons,List.reverse_nil,List.nil_append,List.cons_append];exact aV [false,false,false,false,false,false,false,false,false,true] [] (by simp[All2,an,aD]) (by decide) (by simp)
  ·rw[hls];simp[St,LRd,sx,h1,h2,h4,h8,h9,h80,h81,h82,h88]
  ·simp only[bumpG_h];rw[f4' 0 λe=>by have:=(hp.hs.lt e).1;omega,hp.h0]
  ·simp only[bumpG_h];rw[f4' 1 λe=>by have:=(hp.hs.lt e).1;omega,hp.h1]
  ·simp only[bumpG_h];rw[f4' q hp.d2,hp.hq]
  ·exact hp.hc.fr (by simp;omega) λi hi=>by simp only[bumpG_h];exact f4' i (hp.d3 i hi)
  ·exact hu4.fr (by simp) λi _=>by simp
  ·have:=hp.qn;simp;omega
  ·rw[f4' p9 p9s,e9]
  ·omega
 ·rintro t df g' ⟨rfl,h,e9,en⟩;exact fin t g' h e9 en
end
end
end Hx
end
section
namespace Hx
open Go
noncomputable section
section
variable {d:Nat}{n:Net}{b cv sv:AV}{q:Nat}{rows:List (List AV)}
structure Rd4 (n:Net) (b cv sv:AV) (q j:Nat) (t:T) (g:G):Prop where
 st:St t ((80,b)::LRd q)
 hp:RdH n b cv sv q (S.aa n) ((S.aq n).take j++List.replicate (n.nodes.length - j) 0) g
 ok:∀x∈n.nodes.take j,S.aw x.parents n.nodes.length=true/\S.aZ n.grain (S.aa n) x=true
theorem MQ (n:Net)(j m:Nat)(hm:m<18446744073709551616):∀y∈S.aM n j m,y<18446744073709551616:=λy hy=>by
 simp only[S.aM,List.mem_append,List.mem_cons] at hy;rcases hy with hy | rfl | hy
 ·obtain ⟨x,-,rfl⟩:=List.mem_map.1 (List.mem_of_mem_take hy);exact sT _
 ·exact hm
 ·rw[(List.mem_replicate.1 hy).2];decide
theorem Own.natsV {g:G}{b:Nat}{v:AV}{l:List Nat}(h:Own g b v 1 (l.map cu))(hl:l.length<9223372036854775808)(hb:∀y∈l,y<18446744073709551616):SlR (λi=>vid v=some i) 0 g.h l v :=
 Own.sl (α:=Nat) h hl (by
  have:∀l:List Nat,(∀y∈l,y<18446744073709551616)->All2 (Rp.rp (α:=Nat) (λi=>vid v=some i) 0 g.h) l (l.map cu):=λl=>by
   induction l with
   | nil=>intro _;trivial
   | cons y l ih=>intro h;exact ⟨Fm.2 ⟨rfl,h y (by simp)⟩,ih λz hz=>h z (by simp[hz])⟩
  exact this l hb) λ_ h=>h
theorem Own.nats' {g:G}{b:Nat}{v:AV}{l:List Nat}(h:Own g b v 1 (l.map cu))(hl:l.length<9223372036854775808)(hb:∀y∈l,y<18446744073709551616):SlR (λ_=>True) 0 g.h l v :=
 (h.natsV hl hb).wd λ_ _=>⟨trivial,rfl⟩
theorem Own.intsV {g:G}{b:Nat}{v:AV}{l:List Int}(h:Own g b v 1 (l.map ci))(hl:l.length<9223372036854775808):SlR (λi=>vid v=some i) 0 g.h l v :=
 Own.sl (α:=Int) h hl (All2.of_map (λa=>aF.2 rfl) _) λ_ h=>h
theorem LO {n:Net}(h:NR n){x:Node}(hx:x∈n.nodes):S.aZ n.grain (S.aa n) x=true:=by simp only[S.aZ,S.aQ,Bool.and_eq_true,decide_eq_true_eq,List.all_eq_true];exact ⟨h.rows x hx,λr hr=>⟨⟨(h.row x hx r hr).1,(h.row x hx r hr).2.1⟩,(h.row x hx r hr).2.2⟩⟩
theorem Ml {Q:QT}{t:T}{g:G}(hd:0<d)(hl:n.nodes.length<=8)(hg1:1<=n.grain/\n.grain<=60)(hcard:∀c∈S.aa n,1<=c/\c<=4)(hN:SlR NoP 0 .nil n.nodes b)(r1:∀h,ah h 3 b=some rows)(r2:rows.length=n.nodes.length)
  (r3:∀(i:Nat) (x:Node),n.nodes[i]?=some x->∃pa ra,rows[i]?=some [.int .i64 x.card,pa,ra]/\i<rows.length/\SlR NoP 0 .nil x.parents pa/\SlR NoP 0 .nil x.rows ra) (r4:0<n.nodes.length->ug b=true)
  (h0:Rd4 n b cv sv q 0 t g) (h82:tat t 82=.int .i64 0) (h81:tat t 81=.int .i64 (n.nodes.length:Int))
  (bad:∀t g,¬NR n->g.h.get 1=.cells 5 [[.int .i64 0,.nils,.nils,.nils,.nils]] 0 false false->tat t 2=.hptr 1 0 0 0->tat t 3=.int .i64 50->Q .ret t [] g)
  (fin:∀t g,Rd4 n b cv sv q n.nodes.length t g->Q (.exit 2) t [] g):wpL (wp C0 d none nQ) Q t [] g:=by
 simp only[nQ,tu];refine aK (m:=n.nodes.length) (by omega) (λj t df g=>df=[]/\Rd4 n b cv sv q j t g) ⟨rfl,h0⟩ h82 h81 (by decide)
  (by rintro j t df g v s (rfl | rfl | rfl) ⟨a1,⟨b1,b2,b3,b4,-⟩,c1,c2⟩<;>exact ⟨a1,by simp[St,LRd,sx,b1,b2,b3,b4],c1,c2⟩) ?_ ?_
 ·rintro j t df g hj ⟨rfl,⟨⟨h80,h1,h2,h4,-⟩,hp,hok⟩⟩ h82 h81;obtain ⟨x,hx,htk,hxm⟩:=ae hj;obtain ⟨pa,ra,q1,hlt,hpa,hra⟩:=r3 j x hx;have hry:=r4 (by omega);have q2:=hp.q2;have qn:=hp.qn;have hpsl:(S.aq n).length=n.nodes.length:=by simp[S.aq]
  have hpj:(S.aq n)[j]?=some (S.ap x.parents):=by simp[S.aq,hx]
  obtain ⟨g2,hg2⟩:∃g2,g2=(g.new (.cells 3 [[.int .i64 0,.nils,.nils]] 0 false false)).put g.nx (.cells 3 [[.int .i64 x.card,pa,ra]] 0 false false):=⟨_,rfl⟩;have f2:Fr g g2:=by rw[hg2];exact MW (by simp) λi hi=>by simp[H.get_put,show ¬i=g.nx by omega]
  have n2:g.nx<g2.nx:=by rw[hg2];simp
  have hp3:=hp.fr f2;have f9:g2.h.get g.nx=.cells 3 [[.int .i64 x.card,pa,ra]] 0 false false:=by rw[hg2];simp[H.get_put]
  have eY:(S.aq n).take j++List.replicate (n.nodes.length - j) 0=S.aM n j (S.ap (x.parents.take 0)):=by rw[S.aM,show n.nodes.length - j=(n.nodes.length - (j+1))+1 by omega,List.replicate_succ];rfl
  have eY2:S.aM n j (S.ap x.parents)=(S.aq n).take (j+1)++List.replicate (n.nodes.length - (j+1)) 0:=by rw[S.aM,List.take_add_one,hpj,List.append_assoc];rfl
  rw[eY] at hp3;refine di (P:=λt' df g'=>df=[]/\g'=g2/\St t' ((80,b)::(81,.int .i64 (n.nodes.length:Int))::(82,.int .i64 (j:Int))::(8,.int .i64 (j:Int))::(9,.hptr g.nx 0 0 0)::LRd q)) ?_ ?_
  ·simp only[sz,simprocAttr,h80,h82,r1,hlt,q1];rw[hg2];simp[St,LRd,sx,h1,h2,h4,h80,h81,h82]
  clear h1 h2 h4 h80 h81 h82;rintro t df g3 ⟨rfl,rfl,⟨h80,h81,h82,h8,h9,h1,h2,h4,-⟩⟩;have pl:=λg=>hpa.len g;simp only[sz,simprocAttr,h9,f9,pl];refine Mk (j:=j) (p9:=g.nx) (x:=x) (pa:=pa) (b:=b) (cv:=cv) (sv:=sv) (q:=q) hl hN hx hpa ⟨by simp[St,LRd,sx,dT,h1,h2,h4,h8,h9,h80,h81,h82],hp3,⟨λi p hi=>by omega,λi p r hi=>by omega⟩⟩ (by simp[sx]) (by simp[sx]) f9 (λe=>by have:=(hp.hs.lt e).2;omega) ?_ ?_
  ·intro t g hn a1 a2 a3;simp only[sx,sy];exact bad t g hn a1 a2 a3
  ·rintro t g4 ⟨⟨h80,h81,h82,h88,h8,h9,h10,h1,h2,h4,-⟩,hp4,hpl⟩ f94 n4;rw[List.take_length] at hp4;have hplc:=zl hpl;have hpin:∀p∈x.parents,0<=p/\p<((S.aa n).length:Int):=λp hp=>by rw[aA];exact bm hplc p hp
   have hpll:=bV hplc (by omega);have hyl:(S.aM n j (S.ap x.parents)).length<=8:=by simp[S.aM,hpsl];omega
   have hm:Agg ((n,S.aa n,S.aM n j (S.ap x.parents),[]):NwM) (λ_=>True) 0 g4.h (.agg [.int .i64 n.grain,b,cv,sv,.nils]) :=
    ⟨_,rfl,wQ.2 ⟨b,cv,sv,.nils,rfl,hN.wide (Nat.le_refl 0),Own.sl (α:=Int) hp4.hc (by rw[aA];omega) (All2.of_map (λa=>aF.2 rfl) _) λ_ _=>trivial,hp4.hs.nats' (by omega) (MQ n j _ (sT _)),⟨by show 0<9223372036854775808;decide,rfl⟩⟩⟩
   have hxa:Agg x NoP 0 g4.h (.agg [.int .i64 x.card,pa,ra]):=⟨_,rfl,cp.2 ⟨pa,ra,rfl,hpa.tree (Nat.le_refl 0),hra.tree (Nat.le_refl 0)⟩⟩;have hfl:=HP (d:=d) (g:=g4) hd hm hxa ⟨rfl,rfl⟩ hg1 hcard hpin (by omega);have hfl:ap C0 d N.aN [.agg [.int .i64 n.grain,b,cv,sv,.nils],.agg [.int .i64 x.card,pa,ra]] g4=.val (.bool (S.aZ n.grain (S.aa n) x)):=hfl;cases hf:S.aZ n.grain (S.aa n) x with
   | false =>
    rw[hf] at hfl;simp only[sz,simprocAttr,nR,h2,h4,h9,hp4.hq,hp4.h1,f94,hfl];refine bad _ _ (λhr=>?_) (by simp[H.get_put]) (by simp[sx,h2]) (by simp[sx]);have:=LO hr hxm;rw[hf] at this;cases this
   | true =>
    rw[hf] at hfl;simp only[sz,simprocAttr,nR,h4,h9,hp4.hq,f94,hfl];rw[eY2] at hp4;refine ⟨⟨by simp[St,LRd,sx,h1,h2,h4,h80],hp4,λy hy=>?_⟩,by simp[h82],by simp[h81]⟩;rw[htk] at hy;rcases List.mem_append.1 hy with h | h
    ·exact hok y h
    ·rw[List.mem_singleton.1 h];exact ⟨hplc,hf⟩
 ·rintro t df g ⟨rfl,h⟩;exact fin t g h
end
theorem KV (n:Net):Snb (Cp n) 2:=lF λo=>dk (m:=2) (dj _) (aR _) (by decide) (by decide)
theorem GQ {d:Nat}{g:G}{v:AV}{n:Net}(hd:0<d)(hm:Agg n NoP 0 g.h v):∃r,ap C0 d N.aO [v] g=.val r/\Cp n NoP 0 .nil r:=by
 obtain ⟨b,rows,rfl,e,hm',hN,r1,r2,r3,r4⟩:=kw d hm;rw[zN];refine aW CS (xs:=[.agg [.int .i64 n.grain,b]]) (by simp only[aH,e]) (by simp[me]) (KV n) (by decide) hd ?_;have nl:=λg=>hN.len g;simp only[sz,simprocAttr,me];obtain ⟨g0,hg0⟩:∃g0,g0=(G.empty.new (.cells 2 [[.int .i64 n.grain,b]] 0 false false)).new (.cells 5 [[.int .i64 0,.nils,.nils,.nils,.nils]] 0 false false):=⟨_,rfl⟩;rw[<-hg0];have f0:g0.h.get 0=.cells 2 [[.int .i64 n.grain,b]] 0 false false:=by rw[hg0];simp[sx,H.get_put]
 have f1:g0.h.get 1=.cells 5 [[.int .i64 0,.nils,.nils,.nils,.nils]] 0 false false:=by rw[hg0];simp[sx]
 have f2:g0.nx=2:=by rw[hg0];simp[sx]
 clear hg0;obtain ⟨Qf,hQf⟩:∃Qf,Qf=fnQ C0 (d+1) [SR.cell true 5 2,SR.tm 3] (λv g'=>∃P,Cp n P 0 g'.h v):=⟨_,rfl⟩;have bad:∀(t:T) (g:G),¬NR n->g.h.get 1=.cells 5 [[.int .i64 0,.nils,.nils,.nils,.nils]] 0 false false->tat t 2=.hptr 1 0 0 0->tat t 3=.int .i64 50->Qf .ret t [] g:=λt g hn a1 a2 a3=>by rw[hQf];exact NY hn a1 a2 a3
 rw[<-hQf];simp only[uG]
 by_cases c1:n.grain<1
 ·rw[cj];simp only[sz,simprocAttr,f0,f1,c1];exact bad _ _ (λh=>by have:=h.g1;omega) (by simp[H.get_put]) (by simp[sx]) (by simp[sx])
 by_cases c2:60<n.grain
 ·rw[cj];simp only[sz,simprocAttr,f0,f1,c1,c2];exact bad _ _ (λh=>by have:=h.g2;omega) (by simp[H.get_put]) (by simp[sx]) (by simp[sx])
 by_cases c3:(n.nodes.length:Int)<1
 ·rw[cj];simp only[sz,simprocAttr,f0,f1,c1,c2,c3,nl];exact bad _ _ (λh=>by have:=h.l1;omega) (by simp[H.get_put]) (by simp[sx]) (by simp[sx])
 by_cases c4:8<(n.nodes.length:Int)
 ·rw[cj];simp only[sz,simprocAttr,f0,f1,c1,c2,c3,c4,nl];exact bad _ _ (λh=>by have:=h.l2;omega) (by simp[H.get_put]) (by simp[sx]) (by simp[sx])
 refine gx (P:=λt' df g'=>df=[]/\g'=g0/\St t' [(1,.hptr 0 0 0 0),(2,.hptr 1 0 0 0)]) ?_ ?_
 ·simp only[sz,simprocAttr,f0,c1,c2,c3,c4,nl];simp[St,sx]
 rintro t df g1 ⟨rfl,rfl,h1,h2,-⟩;have hl8:n.nodes.length<=8:=by omega
 refine gx (P:=λt' df g'=>df=[]/\∃cv sv q,St t' (LRd q)/\RdH n b cv sv q (List.replicate n.nodes.length 0) (List.replicate n.nodes.length 0) g') ?_ ?_
 ·simp only[sz,simprocAttr,sf,h1,f0,nl];refine mK (b:=2) (n:=n.nodes.length) (by unfold aP;omega) (by unfold aP;omega) (by first | (simp;done) | (simp;omega)) λcv g2 hcv n2 fr2 v2 lg2=>?_;simp only[sy] at n2 fr2 v2 lg2;have k0:g2.h.get 0=.cells 2 [[.int .i64 n.grain,b]] 0 false false:=by rw[fr2 0 (by omega),f0]
  simp only[sz,simprocAttr,sf,h1,k0,nl,lg2];refine mK (b:=2) (n:=n.nodes.length) (by unfold aP;omega) (by unfold aP;omega) (by first | (simp;done) | (simp;omega)) λsv g3 hsv n3 fr3 v3 lg3=>?_;simp only[sy] at n3 fr3 v3 lg3;simp only[sz,simprocAttr,sf,lg3,hcv.cell.1,hcv.cell.2,hsv.cell.1,hsv.cell.2];refine ⟨?_,cv,sv,g3.nx+1+1,?_,?_⟩
  ·simp only[List.reverse_cons,List.reverse_nil,List.nil_append,List.cons_append,G.new_lg,G.put_lg,setLog_lg];refine aV [false,false,false,false,true,false,false,false,true,false,true,true] [(0,4),(4,5),(4,6),(4,7),(0,8),(1,8),(2,8),(3,8),(4,8),(0,10),(1,10),(2,10),(3,10),(4,10),(5,10),(6,10),(7,10),(8,10),(9,10)] (by simp[All2,an,aD]) (by decide) ?_;rintro p hp x y hx hy;simp only[List.mem_cons,List.not_mem_nil,or_false] at hp;rcases hp with rfl | rfl | rfl | rfl | rfl | rfl | rfl | rfl | rfl | rfl | rfl | rfl | rfl | rfl | rfl | rfl | rfl | rfl | rfl<;>(simp at hx hy;subst hx;subst hy;refine eh rfl rfl rfl rfl ?_ ?_ ?_<;>simp[an,aD,ak]<;>omega)
  ·simp[St,LRd,sx,h1,h2]
  ·have fa:∀i,i<g2.nx->g3.h.get i=g2.h.get i:=λi hi=>by have:=fr3 i (by omega);simpa using this
   have fb:∀i,i<g1.nx->g2.h.get i=g1.h.get i:=λi hi=>by have:=fr2 i (by omega);simpa using this
   have hcv':Own g2 2 cv 1 ((List.replicate n.nodes.length (0:Int)).map ci):=by simpa [ci] using hcv
   have hsv':Own g3 2 sv 1 ((List.replicate n.nodes.length (0:Nat)).map cu):=by simpa [cu] using hsv
   have hne:∀i,i<g3.nx->¬i=g3.nx+1+1:=λi hi=>by omega
   refine ⟨?_,?_,?_,hcv'.fr (by simp;omega) λi hi=>?_,hsv'.fr (by simp;omega) λi hi=>?_,by omega,by first | (simp;done) | (simp;omega),λe=>?_,λe=>?_,λi hi hi2=>?_⟩
   ·simp[H.get_put];rw[fa 0 (by omega),k0]
   ·simp[H.get_put];rw[fa 1 (by omega),fb 1 (by omega),f1]
   ·simp[H.get_put]
   ·have:=eg v2 hi;simp[H.get_put,hne i (by omega)];rw[fa i (by omega)]
   ·have:=eg v3 hi;simp[H.get_put,hne i (by omega)]
   ·have:=eg v2 e;omega
   ·have:=eg v3 e;omega
   ·have:=eg v2 hi;have:=eg v3 hi2;omega
 rintro t df g ⟨rfl,cv,sv,q,⟨h1,h2,h4,-⟩,hp⟩;clear f0 f1 f2;have nlen:=nl g;simp only[sz,simprocAttr,h4,hp.hq,nl];refine Mj (b:=b) (cv:=cv) (sv:=sv) (q:=q) hl8 hN r1 r2 r3 r4 ⟨by simp[St,LRd,sx,S.af,h1,h2,h4],by simpa using hp,by simp⟩ (by simp[sx]) (by simp[sx]) ?_ ?_
 ·intro t g hn a1 a2 a3;simp only[sx];exact bad t g hn a1 a2 a3
 clear h1 h2 h4 hp nlen;rintro t g ⟨⟨h48,h5,h1,h2,h4,-⟩,hp,hok⟩;rw[List.take_of_length_le (by rw[aA];exact Nat.le_refl _)] at h5 hp;rw[Nat.sub_self,List.replicate_zero,List.append_nil] at hp;rw[List.take_length] at hok;have hcb:∀c∈S.aa n,1<=c/\c<=4:=λc hc=>by obtain ⟨y,hy,rfl⟩:=List.mem_map.1 hc;exact hok y hy
 simp only[sz,simprocAttr,tv]
 by_cases d1:1024<S.af (S.aa n)
 ·simp only[sz,simprocAttr,h2,h5,hp.h1,d1];exact bad _ _ (λh=>by have:=h.worlds;omega) (by simp[H.get_put]) (by simp[sx,h2]) (by simp[sx])
 simp only[sz,simprocAttr,h4,h5,hp.hq,nl,d1];refine Ml (b:=b) (cv:=cv) (sv:=sv) (q:=q) (Nat.succ_pos d) hl8 (by omega) hcb hN r1 r2 r3 r4 ⟨by simp[St,LRd,sx,h1,h2,h4],by simpa using hp,by simp⟩ (by simp[sx]) (by simp[sx]) ?_ ?_
 ·intro t g hn a1 a2 a3;simp only[sx];exact bad t g hn a1 a2 a3
 clear h1 h2 h4 h48 h5 hp;rintro t g ⟨⟨h80,h1,h2,h4,-⟩,hp,hok2⟩;rw[List.take_of_length_le (by simp[S.aq])] at hp;rw[Nat.sub_self,List.replicate_zero,List.append_nil] at hp;rw[List.take_length] at hok2;have hpsl:(S.aq n).length=n.nodes.length:=by simp[S.aq]
 have hplt:∀y∈S.aq n,y<18446744073709551616:=λy hy=>by obtain ⟨x,-,rfl⟩:=List.mem_map.1 hy;exact sT _
 have hplt2:∀y∈S.aq n,y<2 ^ (S.aq n).length:=λy hy=>by obtain ⟨x,hx,rfl⟩:=List.mem_map.1 hy;rw[hpsl];exact J1 (by omega) λz hz=>bm (hok2 x hx).1 z hz
 obtain ⟨z,ez,o,-,oz,az,rfl,hoz,haz⟩:=Ip (d:=d+1) (g:=g) (Nat.succ_pos d) (hp.hs.nats' (by omega) hplt) (by omega) hplt2;have haz:=fY.1 haz;injection haz with haz;subst haz;obtain ⟨_,e1,hoz⟩:=hoz;injection e1 with e1;subst e1;cases hac:S.bh (S.aq n) with
 | false =>
  rw[hac] at ez;simp only[sz,simprocAttr,nS,h2,h4,hp.hq,hp.h1,ez];exact bad _ _ (λh=>by have:=h.acyc;rw[hac] at this;cases this) (by simp[H.get_put]) (by simp[sx,h2]) (by simp[sx])
 | true =>
  rw[hac] at ez;have hnr:S.aP n=true:=dw.2 ⟨by omega,by omega,by omega,by omega,hok,λx hx=>(hok2 x hx).1,by omega,hac,λx hx=>by
   have:=(hok2 x hx).2;simp only[S.aZ,Bool.and_eq_true,decide_eq_true_eq] at this;exact this.1,λx hx r hr=>by
   have:=(hok2 x hx).2;simp only[S.aZ,S.aQ,Bool.and_eq_true,decide_eq_true_eq,List.all_eq_true] at this;have:=this.2 r hr;exact ⟨this.1.1,this.1.2,this.2⟩⟩
  have q2:=hp.q2;have hq1:¬(1=q):=by omega
  have hq0:¬(q=1):=by omega
  have oc:=hoz.cell;rw[hQf];simp only[sz,simprocAttr,nS,h2,h4,hp.hq,hp.h1,ez,hq1,oc.1,oc.2];have fh:∀i,¬i=1->¬i=q->((g.h.put q (.cells 5 [[.int .i64 n.grain,b,cv,sv,oz]] 0 false false)).put 1 (.cells 5 [[.int .i64 n.grain,b,cv,sv,oz]] 0 false false)).get i=g.h.get i:=λi hi hi2=>by simp[H.get_put,hi,hi2]
  refine ⟨λ_=>True,o,trivial,_,_,rfl,⟨_,rfl,?_⟩,?_⟩
  ·rw[S.bW,if_pos hnr];refine wQ.2 ⟨b,cv,sv,oz,rfl,hN.wide (Nat.le_refl 0),(hp.hc.intsV (by rw[aA];omega)).wd λi hi=>⟨trivial,fh i (by have:=(hp.hc.lt hi).1;omega) λe=>hp.d1 (by rw[hi,e])⟩,(hp.hs.natsV (by omega) hplt).wd λi hi=>⟨trivial,fh i (by have:=(hp.hs.lt hi).1;omega) λe=>hp.d2 (by rw[hi,e])⟩,hoz.wide (Nat.le_refl 0)⟩
  ·rw[if_pos hnr];exact aF.2 rfl
end
end Hx
end
section
namespace Hx
open Go
noncomputable section
theorem E7 {n:Net}{o:List Int}(h:S.aP n=true):S.bW n o=(n,S.aa n,S.aq n,o):=by rw[S.bW,if_pos h]
theorem wL {n:Net}{P:Nat->Prop}{k:Nat}{h:H}{v:AV}(hv:Cp n P k h v) :
  (S.aP n=false/\∃cs,v=.tup [.agg cs,.int .i64 50]/\cs.length=5) \/
  (S.aP n=true/\∃b cv sv oz o,v=.tup [.agg [.int .i64 n.grain,b,cv,sv,oz],.int .i64 0]/\SlR P k h n.nodes b/\SlR P k h (S.aa n) cv/\SlR P k h (S.aq n) sv/\SlR P k h (o:List Int) oz):=by
 obtain ⟨o,-,a,c,rfl,⟨cs,rfl,hc⟩,hi⟩:=hv;have hi:=aF.1 hi;injection hi with hi;subst hi;cases hn:S.aP n with
 | false =>
  refine .inl ⟨rfl,cs,rfl,?_⟩;obtain ⟨a,b,c,e,rfl,-⟩:=wQ.1 hc
  rfl
 | true =>
  rw[E7 hn] at hc;obtain ⟨a,b,c,e,rfl,h1,h2,h3,h4⟩:=wQ.1 hc;exact .inr ⟨rfl,a,b,c,e,o,rfl,h1,h2,h3,h4⟩
theorem CG {d k2:Nat}{g:G}{P2:Nat->Prop}{v w:AV}{n:Net}{e:List Int}(hd:0<d)(hm:Agg n NoP 0 g.h v)(he:SlR P2 k2 g.h e w):ap C0 d N.aM [v,w] g=.val (.int .i64 (S.ay n e)):=by
 obtain ⟨w',e2,hw'⟩:=bG he d;obtain ⟨b,rows,rfl,e1,hm',hN,r1,r2,r3,r4⟩:=kw d hm;have n2:=λg=>(hw' .nil).len g;have rb:=λh=>(hw' h).ints;rw[pL];refine jZ rB (xs:=[.agg [.int .i64 n.grain,b],w']) (by simp only[aH,e1,e2]) (by simp[gm]) hd ?_;have hle:=he.1;simp only[sz,simprocAttr,gm,ju,iZ];obtain ⟨z,ez,hz⟩:=GQ (d:=d+1) (g:=G.empty.new (.cells 2 [[.int .i64 n.grain,b]] 0 false false)) (Nat.succ_pos d) (n:=n) (v:=.agg [.int .i64 n.grain,b]) (hm' _);rcases wL hz with ⟨hn,cs,rfl,hcs⟩ | ⟨hn,b',cv,sv,oz,o,rfl,hb,hcv,-,-⟩
 ·have hs:S.ay n e=50:=by rw[S.ay,hn];rfl
  obtain ⟨a1,a2,a3,a4,a5,rfl⟩:∃a1 a2 a3 a4 a5,cs=[a1,a2,a3,a4,a5]:=by
   match cs,hcs with
   | [a1,a2,a3,a4,a5],_=>exact ⟨a1,a2,a3,a4,a5,rfl⟩
  simp only[sz,simprocAttr,ez,hs,show ¬((50:Int)=0) from by decide]
 ·have nb:=λg=>(hb.tree (h':=g) (Nat.le_refl 0)).len;have hbl:=hb.1;have rc:=λh=>(hcv.tree (h':=h) (Nat.le_refl 0)).ints;have hcl:=aA n
  by_cases hl:e.length=n.nodes.length
  ·have hl':(e.length:Int)=(n.nodes.length:Int):=by rw[hl]
   simp only[sz,simprocAttr,ez,n2,hb.len,hl];refine aK (m:=n.nodes.length) (by omega) (λj t df g=>df=[]/\St t [(24,w'),(5,.hptr 1 0 0 0),(4,.int .i64 0)]/\g.h.get 1=.cells 5 [[.int .i64 n.grain,b',cv,sv,oz]] 0 false false/\((List.range j).all λv=>decide (-1<=e[v]?.getD 0)&&decide (e[v]?.getD 0<(S.aa n)[v]?.getD 0))=true)
    ⟨rfl,by simp[St,sx],by simp[sx],by simp⟩ (by simp[sx]) (by simp[sx]) (by decide) (by rintro j t df g v s (rfl | rfl | rfl)<;>simp[St,sx]) ?_ ?_
   ·rintro j t df g hj ⟨rfl,⟨h24,h5,h4,-⟩,hg,ha⟩ h26 h25;obtain ⟨y,hy,-,-⟩:=ae (l:=e) (j:=j) (by omega);obtain ⟨c,hc,-,-⟩:=ae (l:=S.aa n) (j:=j) (by omega);have u1:j<(e.map ci).length:=by simp;omega
    have u2:(e.map ci)[j]?=some (ci y):=by rw[List.getElem?_map,hy];rfl
    have u3:j<((S.aa n).map ci).length:=by simp;omega
    have u4:((S.aa n).map ci)[j]?=some (ci c):=by rw[List.getElem?_map,hc];rfl
    have hst:((List.range (j+1)).all λv=>decide (-1<=e[v]?.getD 0)&&decide (e[v]?.getD 0<(S.aa n)[v]?.getD 0))=(decide (-1<=y)&&decide (y<c)):=by rw[List.range_succ,List.all_append,ha];simp[hy,hc]
    have bad:(decide (-1<=y)&&decide (y<c))=false->S.ay n e=2:=λh=>by
     have h1:S.aI n e=false:=by
      rw[S.aI];have:((List.range e.length).all λv=>decide (-1<=e[v]?.getD 0)&&decide (e[v]?.getD 0<(S.aa n)[v]?.getD 0))=false:=by rw[<-Bool.not_eq_true,List.all_eq_true];intro h2;have:=h2 j (List.mem_range.2 (by omega));rw[hy,hc,Option.getD_some,Option.getD_some,h] at this;cases this
      rw[this,Bool.and_false]
     rw[S.ay,hn,h1];rfl
    by_cases c1:y < -1
    ·have:=bad (by simp;omega);simp only[sz,simprocAttr,h24,h26,rb,u1,u2,ci,c1,this]
    ·by_cases c2:c<=y
     ·have:=bad (by simp;omega);simp only[sz,simprocAttr,h24,h5,h26,hg,rb,rc,u1,u2,u3,u4,ci,c1,c2,this]
     ·have h3:((List.range (j+1)).all λv=>decide (-1<=e[v]?.getD 0)&&decide (e[v]?.getD 0<(S.aa n)[v]?.getD 0))=true:=by rw[hst];simp;omega
      simp only[sz,simprocAttr,h24,h5,h4,h26,h25,hg,rb,rc,u1,u2,u3,u4,ci,c1,c2,St,h3]
   ·rintro t df g ⟨rfl,⟨h24,h5,h4,-⟩,hg,ha⟩;have h1:S.aI n e=true:=by rw[S.aI,hl,decide_eq_true rfl,ha];rfl
    have hs:S.ay n e=0:=by rw[S.ay,hn,h1];rfl
    simp only[sz,simprocAttr,i_,hs]
  ·have hl':¬((e.length:Int)=(n.nodes.length:Int)):=by omega
   have h1:S.aI n e=false:=by rw[S.aI,decide_eq_false hl];rfl
   have hs:S.ay n e=2:=by rw[S.ay,hn,h1];rfl
   simp only[sz,simprocAttr,ez,n2,hb.len,hl',hs]
end
end Hx
end
