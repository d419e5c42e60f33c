/- A part of the proof: an interpreter over abstract values, shown right against the model, and what the functions of the chapter compute on it. -/
import Derived.Test.YtkbieohddgjioaaHx9
set_option linter.unusedVariables false
set_option linter.unusedSimpArgs false
set_option linter.unnecessarySimpa false
section
namespace Hx
open Go
section
variable {p:List Nat}
theorem zb:Gi p 0:=⟨λv _ hb=>by simp at hb,λv _ hb=>by simp at hb⟩
theorem BR {q:Nat}(ih:Gi p q){j:Nat}(hj:j<64)(hd:Sub (Par p j) q):Gi p (q ||| S.aO j):=by
 refine ⟨λv hv hb=>?_,λv hv hb=>?_⟩
 ·intro u hu;rw[da,tQ hj,Bool.or_eq_true,decide_eq_true_eq] at hb;rw[da,Bool.or_eq_true];rcases hb with hb | hb
  ·exact .inl (ih.1 v hv hb u hu)
  ·subst hb;exact .inl (hd u hu)
 ·rw[da,tQ hj,Bool.or_eq_true,decide_eq_true_eq] at hb;cases hq:q.testBit v
  ·rw[hq] at hb;simp at hb;subst hb;rw[<-Bool.not_eq_true];intro hu;have:=Ej ih.1 hd p.length j hu;rw[hq] at this;cases this
  ·exact ih.2 v hv hq
theorem se {q:Nat}(h:Gi p q)(hf:∀v,v<p.length->q.testBit v=true):S.bF p=true :=
 vO.2 λv hv=>h.2 v hv (hf v hv)
theorem zI (hp:∀x∈p,x<2 ^ p.length)(h:S.bF p=true){T:Nat}(hst:∀v,v<p.length->T.testBit v=false->¬Sub (Par p v) T):∀v,v<p.length->T.testBit v=true:=by
 rw[vO] at h;have none:∀r v,v<p.length->T.testBit v=false->S.up p (Par p v) p.length=r->False:=by
  intro r
  induction r using Nat.strongRecOn with
  | _ r ih =>
   intro v hv hb hr;have hns:=hst v hv hb;have:∃u,(Par p v).testBit u=true/\T.testBit u=false:=by
    apply Classical.byContradiction;intro hno;apply hns;intro u hu;cases hc:T.testBit u
    ·exact absurd ⟨u,hu,hc⟩ hno
    ·rfl
   obtain ⟨u,hu,hub⟩:=this;have hul:u<p.length:=CQ (DC hp) hu;have hcl:=Hy hp (s:=Par p v) (DC hp);have hin:(S.up p (Par p v) p.length).testBit u=true:=AY _ u hu;have hsub:Sub (S.up p (Par p u) p.length) (S.up p (Par p v) p.length):=Ej hcl (hcl u hul hin) _;have hlt:S.up p (Par p u) p.length<S.up p (Par p v) p.length:=by refine Nat.lt_of_le_of_ne (N4 hsub) λe=>?_;have:=h u hul;rw[e,hin] at this;cases this
   exact ih _ (by omega) u hul hub rfl
 intro v hv;cases hc:T.testBit v
 ·exact (none _ v hv hc rfl).elim
 ·rfl
end
end Hx
end
section
namespace Hx
open Go
theorem xM:∀a b:List Int,S.ae (a++b)=S.ae a*S.ae b
 | [],b=>by simp[S.ae]
 | x::a,b=>by rw[List.cons_append,bD,bD,xM a b,Int.mul_assoc]
theorem vA:∀{a va:List Int} (b vb:List Int),a.length=va.length->S.ak (a++b) (va++vb)=S.ak a va*S.ae b+S.ak b vb
 | [],[],b,vb,_=>by simp[S.ak]
 | [],_::_,_,_,h=>by simp at h
 | _::_,[],_,_,h=>by simp at h
 | c::a,v::va,b,vb,h=>by rw[List.cons_append,List.cons_append,S.ak,S.ak,vA b vb (by simpa using h),xM,Int.add_mul,Int.mul_assoc];omega
theorem Cw:∀{cs vs:List Int} (a:Int),(∀c∈cs,1<=c)->InC cs vs->S.cg cs (a*S.ae cs+S.ak cs vs)=a
 | [],[],a,_,_=>by simp[S.cg,S.ae,S.ak]
 | [],_::_,_,_,h=>by cases h
 | _::_,[],_,_,h=>by cases h
 | c::cs,v::vs,a,hc,h=>by
  obtain ⟨⟨h1,h2⟩,h3⟩:=h;have ih:=Cw (cs:=cs) (vs:=vs) (a*c+v) (λx hx=>hc x (by simp[hx])) h3;have e:a*S.ae (c::cs)+S.ak (c::cs) (v::vs)=(a*c+v)*S.ae cs+S.ak cs vs:=by rw[bD,S.ak,Int.add_mul,Int.mul_assoc];omega
  rw[e];show S.cg cs _ / c=a;rw[ih,Int.add_comm,Int.add_mul_ediv_right _ _ (by omega),Int.ediv_eq_zero_of_lt h1 h2];omega
theorem yZ:∀{cs vs:List Int} (a:Int) (i:Nat),(∀c∈cs,1<=c)->InC cs vs->i<cs.length->S.co cs (a*S.ae cs+S.ak cs vs) i=vs[i]?.getD 0
 | [],_,_,_,_,_,hi=>by simp at hi
 | _::_,[],_,_,_,h,_=>by cases h
 | c::cs,v::vs,a,i,hc,h,hi=>by
  obtain ⟨⟨h1,h2⟩,h3⟩:=h;have hc':∀x∈cs,1<=x:=λx hx=>hc x (by simp[hx]);have e:a*S.ae (c::cs)+S.ak (c::cs) (v::vs)=(a*c+v)*S.ae cs+S.ak cs vs:=by rw[bD,S.ak,Int.add_mul,Int.mul_assoc];omega
  rw[e];cases i with
  | zero =>
   show S.cg cs _ % c=v;rw[Cw _ hc' h3,Int.add_comm,Int.add_mul_emod_self_right,Int.emod_eq_of_lt h1 h2]
  | succ i =>
   have:=yZ (a*c+v) i hc' h3 (by simpa using hi);simpa [S.co] using this
theorem xY {cs vs:List Int}(hc:∀c∈cs,1<=c)(h:InC cs vs):S.aG cs (S.ak cs vs)=vs:=by
 have hl:=h.len;refine List.ext_getElem (by simp[S.aG,hl]) λi h1 h2=>?_;have hi:i<cs.length:=by simpa [S.aG] using h1
 have:=yZ 0 i hc h hi;rw[Int.zero_mul,Int.zero_add,List.getElem?_eq_getElem h2,Option.getD_some] at this;simp[S.aG,this]
theorem rV {cs:List Int}(hc:∀c∈cs,1<=c)(h:Int):InC cs (S.aG cs h):=by refine wY (by simp[S.aG]) λi c v h1 h2=>?_;have hi:=(List.getElem?_eq_some_iff.1 h1).1;rw[S.aG,List.getElem?_map,List.getElem?_range hi,Option.map_some,Option.some.injEq] at h2;have hcc:=hc c (List.mem_of_getElem? h1);rw[<-h2,S.co,h1,Option.getD_some];exact ⟨Int.emod_nonneg _ (by omega),Int.emod_lt_of_pos _ (by omega)⟩
theorem El (cs:List Int)(h:Int):(S.aG cs h).length=cs.length:=by simp[S.aG]
theorem qC:∀{cs:List Int},(∀c∈cs,1<=c)->1<=S.ae cs
 | [],_=>by decide
 | c::cs,h=>by rw[bD];have h1:=h c (by simp);have h2:=qC (cs:=cs) λx hx=>h x (by simp[hx]);exact Int.le_trans h1 (by have:=Int.mul_le_mul_of_nonneg_left h2 (show 0<=c by omega);omega)
theorem wW:∀(cs:List Int) (n:Nat),S.ak cs (List.replicate n 0)=0
 | [],n=>by cases n<;>rfl
 | _::_,0=>rfl
 | c::cs,n+1=>by rw[List.replicate_succ,S.ak,wW cs n];simp
theorem Ag:∀{cs vs:List Int},cs.length=vs.length->(∀(i:Nat) (c:Int),cs[i]?=some c->vs[i]?.getD 0=c - 1)->S.ak cs vs=S.ae cs - 1
 | [],[],_,_=>by decide
 | [],_::_,h,_=>by simp at h
 | _::_,[],h,_=>by simp at h
 | c::cs,v::vs,hl,h=>by
  have h0:=h 0 c rfl;have ih:=Ag (cs:=cs) (vs:=vs) (by simpa using hl) λi x hx=>by have:=h (i+1) x (by simpa using hx);simpa using this
  simp at h0;rw[S.ak,ih,bD,h0,Int.sub_mul];omega
theorem IY {cs vs:List Int}(hl:cs.length=vs.length){i:Nat}{x:Int}(hi:vs[i]?=some x)(hm:∀(j:Nat) (c:Int),i<j->cs[j]?=some c->vs[j]?.getD 0=c - 1) :
  S.ak cs (vs.take i++(x+1)::List.replicate (vs.length - (i+1)) 0)=S.ak cs vs+1:=by
 have hil:=(List.getElem?_eq_some_iff.1 hi).1;obtain ⟨c,hc⟩:∃c,cs[i]?=some c:=⟨_,List.getElem?_eq_getElem (by omega)⟩;have e1:cs=cs.take i++c::cs.drop (i+1):=by have:=List.drop_eq_getElem_cons (l:=cs) (i:=i) (by omega);rw[List.getElem?_eq_getElem (by omega),Option.some.injEq] at hc;rw[<-hc,<-this,List.take_append_drop]
 have e2:vs=vs.take i++x::vs.drop (i+1):=by have:=List.drop_eq_getElem_cons (l:=vs) (i:=i) hil;rw[List.getElem?_eq_getElem hil,Option.some.injEq] at hi;rw[<-hi,<-this,List.take_append_drop]
 have hlt:(cs.take i).length=(vs.take i).length:=by simp[hl]
 have hmx:S.ak (cs.drop (i+1)) (vs.drop (i+1))=S.ae (cs.drop (i+1)) - 1:=by refine Ag (by simp[hl]) λj d hj=>?_;rw[List.getElem?_drop] at hj ⊢;exact hm _ d (by omega) hj
 have h1:S.ak cs vs=S.ak (cs.take i) (vs.take i)*S.ae (c::cs.drop (i+1))+(x*S.ae (cs.drop (i+1))+S.ak (cs.drop (i+1)) (vs.drop (i+1))):=by
  conv=>lhs;rw[e1,e2,vA _ _ hlt,S.ak]
 have h2:S.ak cs (vs.take i++(x+1)::List.replicate (vs.length - (i+1)) 0)=S.ak (cs.take i) (vs.take i)*S.ae (c::cs.drop (i+1))+((x+1)*S.ae (cs.drop (i+1))+0):=by
  conv=>lhs;rw[e1,vA _ _ hlt,S.ak,wW]
 rw[h2,h1,hmx,Int.add_mul];omega
end Hx
end
section
namespace Hx
open Go
def S.ac (n:Net):List Int:=n.nodes.map (·.card)
def S.ah (cs ps:List Int):List Int:=ps.map λp=>cs[p.toNat]?.getD 0
def S.aD (n:Net):List Nat:=n.nodes.map λx=>S.aE x.parents
def S.bf (gr card:Int)(r:List Int):Bool:=decide ((r.length:Int)=card)&&r.all (λx=>decide (0<=x)&&decide (x<=gr))&&decide (r.sum=gr)
def S.ct (k:Int)(x:Node):Bool:=decide (1<=x.card)&&decide (x.card<=4)&&S.bJ x.parents k
def S.cw (n:Net)(x:Node):Bool:=decide ((x.rows.length:Int)=S.ae (S.ah (S.ac n) x.parents))&&x.rows.all (S.bf n.grain x.card)
def S.a_ (n:Net):Bool:=decide (1<=n.grain)&&decide (n.grain<=60)&&decide (1<=n.nodes.length)&&decide (n.nodes.length<=8)&&n.nodes.all (S.ct n.nodes.length)&&decide (S.ae (S.ac n)<=1024)&&S.bF (S.aD n)&&n.nodes.all (S.cw n)
structure NR (n:Net):Prop where
 g1:1<=n.grain
 g2:n.grain<=60
 l1:1<=n.nodes.length
 l2:n.nodes.length<=8
 card:∀x∈n.nodes,1<=x.card/\x.card<=4
 places:∀x∈n.nodes,S.bJ x.parents n.nodes.length=true
 worlds:S.ae (S.ac n)<=1024
 acyc:S.bF (S.aD n)=true
 rows:∀x∈n.nodes,(x.rows.length:Int)=S.ae (S.ah (S.ac n) x.parents)
 row:∀x∈n.nodes,∀r∈x.rows,(r.length:Int)=x.card/\(∀y∈r,0<=y/\y<=n.grain)/\r.sum=n.grain
theorem li {n:Net}:S.a_ n=true↔NR n:=by
 simp only[S.a_,S.ct,S.cw,S.bf,Bool.and_eq_true,decide_eq_true_eq,List.all_eq_true];constructor
 ·rintro ⟨⟨⟨⟨⟨⟨⟨a,b⟩,c⟩,d⟩,e⟩,f⟩,g⟩,h⟩;exact ⟨a,b,c,d,λx hx=>(e x hx).1,λx hx=>(e x hx).2,f,g,λx hx=>(h x hx).1,λx hx r hr=>⟨((h x hx).2 r hr).1.1,((h x hx).2 r hr).1.2,((h x hx).2 r hr).2⟩⟩
 ·rintro ⟨a,b,c,d,e1,e2,f,g,h1,h2⟩;exact ⟨⟨⟨⟨⟨⟨⟨a,b⟩,c⟩,d⟩,λx hx=>⟨e1 x hx,e2 x hx⟩⟩,f⟩,g⟩,λx hx=>⟨h1 x hx,λr hr=>⟨⟨(h2 x hx r hr).1,(h2 x hx r hr).2.1⟩,(h2 x hx r hr).2.2⟩⟩⟩
theorem iK {l:List Int}{k:Int}(h:S.bJ l k=true):∀x∈l,0<=x/\x<k:=by
 intro x hx;obtain ⟨i,hi,he⟩:=List.mem_iff_getElem.1 hx;have:=List.all_eq_true.1 h i (List.mem_range.2 hi);have e:l[i]?.getD 0=x:=by rw[List.getElem?_eq_getElem hi,he];rfl
 simp only[S.bY,Bool.and_eq_true,decide_eq_true_eq,e] at this;omega
theorem xK {l:List Int}{k:Int}(h:S.bJ l k=true){i:Nat}{x y:Int}(hx:l[i]?=some x)(hy:l[i+1]?=some y):x<y:=by have hi:=(List.getElem?_eq_some_iff.1 hy).1;have:=List.all_eq_true.1 h (i+1) (List.mem_range.2 hi);simp only[S.bY,Bool.and_eq_true,decide_eq_true_eq,hy,Option.getD_some,Nat.add_sub_cancel,hx] at this;simp at this;omega
theorem lj {l:List Int}{k:Int}(h:S.bJ l k=true)(hk:0<=k):(l.length:Int)<=k:=by
 have key:∀(i:Nat) (x:Int),l[i]?=some x->(i:Int)<=x:=by
  intro i
  induction i with
  | zero=>intro x hx;have:=iK h x (List.mem_of_getElem? hx);omega
  | succ i ih =>
   intro x hx;have hi:=(List.getElem?_eq_some_iff.1 hx).1;have h1:=ih l[i] (List.getElem?_eq_getElem (by omega));have:=xK h (List.getElem?_eq_getElem (show i<l.length by omega)) hx;omega
 by_cases hl:l.length=0
 ·omega
 ·have h1:=key (l.length - 1) l[l.length - 1] (List.getElem?_eq_getElem (by omega));have h2:=iK h _ (List.getElem_mem (show l.length - 1<l.length by omega));omega
theorem NR.cs {n:Net}(h:NR n):∀c∈S.ac n,1<=c/\c<=4:=λc hc=>by obtain ⟨x,hx,rfl⟩:=List.mem_map.1 hc;exact h.card x hx
theorem ba (n:Net):(S.ac n).length=n.nodes.length:=by simp[S.ac]
theorem jP {cs ps:List Int}(hc:∀c∈cs,1<=c/\c<=4)(hp:∀p∈ps,0<=p/\p<cs.length):∀c∈S.ah cs ps,1<=c/\c<=4:=λc h=>by obtain ⟨p,h1,rfl⟩:=List.mem_map.1 h;have h2:=hp p h1;rw[List.getElem?_eq_getElem (by omega),Option.getD_some];exact hc _ (List.getElem_mem _)
theorem DF {cs ps vals:List Int}(h:InC cs vals)(hp:∀p∈ps,0<=p/\p<cs.length):InC (S.ah cs ps) (S.ah vals ps):=by refine wY (by simp[S.ah]) λi c v h1 h2=>?_;simp only[S.ah,List.getElem?_map,Option.map_eq_some_iff] at h1 h2;obtain ⟨p,h3,rfl⟩:=h1;obtain ⟨p',h4,rfl⟩:=h2;rw[h3] at h4;injection h4 with h4;subst h4;have h5:=hp p (List.mem_of_getElem? h3);have h6:cs[p.toNat]?=some cs[p.toNat]:=List.getElem?_eq_getElem (by omega);obtain ⟨v,h7,h8⟩:=h.get h6;rw[h6,h7,Option.getD_some,Option.getD_some];exact h8
theorem DE (cs a b:List Int):S.ah cs (a++b)=S.ah cs a++S.ah cs b:=by simp[S.ah]
def S.aH (n:Net)(vals:List Int)(v:Nat):Int:=match n.nodes[v]? with
 | none=>1
 | some x=>(x.rows[(S.ak (S.ah (S.ac n) x.parents) (S.ah vals x.parents)).toNat]?.getD [])[(vals[v]?.getD 0).toNat]?.getD 0
def S.bC (n:Net)(vals:List Int):Int:=S.ae ((List.range n.nodes.length).map (S.aH n vals))
theorem NR.pin {n:Net}(h:NR n){x:Node}(hx:x∈n.nodes):∀p∈x.parents,0<=p/\p<(S.ac n).length:=λp hp=>by rw[ba];exact iK (h.places x hx) p hp
theorem Ir {n:Net}(h:NR n){vals:List Int}(hv:InC (S.ac n) vals){v:Nat}{x:Node}(hx:n.nodes[v]?=some x) :
  ∃(i:Nat) (r:List Int) (c y:Int),S.ak (S.ah (S.ac n) x.parents) (S.ah vals x.parents)=(i:Int)/\i<x.rows.length/\x.rows[i]?=some r/\vals[v]?=some c/\0<=c/\c<x.card/\r[c.toNat]?=some y/\S.aH n vals v=y/\0<=y/\y<=n.grain:=by
 have hm:=List.mem_of_getElem? hx;have hi:=jX (jP h.cs (h.pin hm)) (DF hv (h.pin hm));rw[<-h.rows x hm] at hi;obtain ⟨i,he⟩:=Int.eq_ofNat_of_zero_le hi.1;have hil:i<x.rows.length:=by omega
 have hc:(S.ac n)[v]?=some x.card:=by simp[S.ac,hx]
 obtain ⟨c,h1,h2,h3⟩:=hv.get hc;obtain ⟨r1,r2,-⟩:=h.row x hm x.rows[i] (List.getElem_mem hil);have hcl:c.toNat<(x.rows[i]).length:=by omega
 refine ⟨i,x.rows[i],c,(x.rows[i])[c.toNat],he,hil,List.getElem?_eq_getElem hil,h1,h2,h3,List.getElem?_eq_getElem hcl,?_,r2 _ (List.getElem_mem hcl)⟩;simp only[S.aH,hx,he,h1,Int.toNat_natCast,List.getElem?_eq_getElem hil,Option.getD_some,List.getElem?_eq_getElem hcl]
theorem jQ:∀{l:List Int},(∀x∈l,0<=x/\x<=60)->0<=S.ae l/\S.ae l<=60 ^ l.length
 | [],_=>by decide
 | x::l,h=>by have h1:=jQ (l:=l) λy hy=>h y (by simp[hy]);have h2:=h x (by simp);rw[bD,List.length_cons,Int.pow_succ,Int.mul_comm x];refine ⟨Int.mul_nonneg h1.1 h2.1,Int.le_trans (Int.mul_le_mul_of_nonneg_left h2.2 h1.1) (Int.mul_le_mul_of_nonneg_right h1.2 (by decide))⟩
theorem JY {k:Nat}(h:k<=8):(60:Int) ^ k<=167961600000000:=by
 have hk:k=0\/k=1\/k=2\/k=3\/k=4\/k=5\/k=6\/k=7\/k=8:=by omega
 rcases hk with rfl | rfl | rfl | rfl | rfl | rfl | rfl | rfl | rfl<;>decide
theorem GG {n:Net}(h:NR n){vals:List Int}(hv:InC (S.ac n) vals){v:Nat}(hi:v<n.nodes.length):0<=S.aH n vals v/\S.aH n vals v<=60:=by obtain ⟨i,r,c,y,-,-,-,-,-,-,-,e,a,b⟩:=Ir h hv (List.getElem?_eq_getElem hi);have:=h.g2;omega
theorem yG {n:Net}(h:NR n){vals:List Int}(hv:InC (S.ac n) vals){j:Nat}(hj:j<=n.nodes.length):0<=S.ae ((List.range j).map (S.aH n vals))/\S.ae ((List.range j).map (S.aH n vals))<=167961600000000:=by
 have h1:=jQ (l:=(List.range j).map (S.aH n vals)) λx hx=>by obtain ⟨i,hi,rfl⟩:=List.mem_map.1 hx;exact GG h hv (by have:=List.mem_range.1 hi;omega)
 have h2:=JY (k:=((List.range j).map (S.aH n vals)).length) (by have:=h.l2;simp;omega);omega
def S.bS (n:Net)(p:Nat->Bool):Nat->Int
 | 0=>0
 | j+1=>S.bS n p j+if p j then S.bC n (S.aG (S.ac n) (j:Int)) else 0
theorem yy {n:Net}(h:NR n){vals:List Int}(hv:InC (S.ac n) vals):0<=S.bC n vals/\S.bC n vals<=167961600000000:=yG h hv (Nat.le_refl _)
theorem xV {n:Net}(h:NR n)(p:Nat->Bool):∀j:Nat,0<=S.bS n p j/\S.bS n p j<=167961600000000*j
 | 0=>by simp[S.bS]
 | j+1=>by
  have ih:=xV h p j;have hw:=yy h (rV (λc hc=>(h.cs c hc).1) (j:Int));rw[S.bS]
  split<;>omega
def S.bT (n:Net):Nat:=(S.ae (S.ac n)).toNat
def S.aV (n:Net)(e:List Int):Int:=S.bS n (λw=>S.bu (S.aG (S.ac n) (w:Int)) e) (S.bT n)
theorem NR.wl {n:Net}(h:NR n):1<=S.bT n/\S.bT n<=1024/\((S.bT n:Nat):Int)=S.ae (S.ac n):=by have h1:=qC λc hc=>(h.cs c hc).1;have h2:=h.worlds;unfold S.bT;omega
theorem ji {n:Net}(h:NR n)(e:List Int):0<=S.aV n e/\S.aV n e<=171992678400000000:=by have h1:=xV h (λw=>S.bu (S.aG (S.ac n) (w:Int)) e) (S.bT n);have h2:=h.wl;unfold S.aV;omega
def S.bQ (n:Net):Int:=S.ae (List.replicate n.nodes.length n.grain)
def S.aP (n:Net)(e:List Int):Bool:=decide (e.length=n.nodes.length)&&(List.range e.length).all λv=>decide (-1<=e[v]?.getD 0)&&decide (e[v]?.getD 0<(S.ac n)[v]?.getD 0)
def S.bh (n:Net)(e:List Int):Int:=if S.a_ n then (if S.aP n e then 0 else 2) else 50
end Hx
end
section
namespace Hx
open Go
section
variable {b card:Nat}
def S.cp (b card p:Nat):Nat:=p / (b*card)*b+p % b
def S.cq (b card p:Nat):Nat:=p / b % card
def S.cM (rows:List (List Int))(b card t:Nat):List Int:=(List.range (rows.length*card)).map λp=>if S.cp b card p*card+S.cq b card p<t then (rows[S.cp b card p]?.getD [])[S.cq b card p]?.getD 0 else 0
def S.cN (rows:List (List Int))(b card:Nat):List Int:=(List.range (rows.length*card)).map λp=>(rows[S.cp b card p]?.getD [])[S.cq b card p]?.getD 0
end
def S.cD (ps:List Int)(k:Nat)(v:Int):List Int:=ps.take k++v::ps.drop k
end Hx
end
section
namespace Hx
open Go
theorem s_ {vals e:List Int}:S.bu vals e=true↔∀i,i<e.length->e[i]?.getD 0<0\/e[i]?.getD 0=vals[i]?.getD 0:=by simp only[S.bu,List.all_eq_true,List.mem_range,S.cF,Bool.or_eq_true,decide_eq_true_eq]
end Hx
end
section
namespace Hx
open Go
def S.sm (F:Nat->Int):Nat->Int
 | 0=>0
 | j+1=>S.sm F j+F j
theorem bW {F G:Nat->Int}:∀{k:Nat},(∀i,i<k->F i=G i)->S.sm F k=S.sm G k
 | 0,_=>rfl
 | k+1,h=>by rw[S.sm,S.sm,bW λi hi=>h i (by omega),h k (by omega)]
theorem D_ (F G:Nat->Int):∀k,S.sm (λi=>F i+G i) k=S.sm F k+S.sm G k
 | 0=>rfl
 | k+1=>by rw[S.sm,S.sm,S.sm,D_ F G k];omega
theorem Ea (c:Int)(F:Nat->Int):∀k,S.sm (λi=>c*F i) k=c*S.sm F k
 | 0=>by simp[S.sm]
 | k+1=>by rw[S.sm,S.sm,Ea c F k,Int.mul_add]
theorem tx:∀k:Nat,S.sm (λ_=>0) k=0
 | 0=>rfl
 | k+1=>by rw[S.sm,tx k];rfl
theorem Kk (F:Nat->Int)(a:Nat):∀b,S.sm F (a+b)=S.sm F a+S.sm (λj=>F (a+j)) b
 | 0=>by simp[S.sm]
 | b+1=>by rw[<-Nat.add_assoc,S.sm,S.sm,Kk F a b];omega
theorem CK (F:Nat->Int)(b:Nat):∀a,S.sm F (a*b)=S.sm (λi=>S.sm (λj=>F (i*b+j)) b) a
 | 0=>by simp[S.sm]
 | a+1=>by rw[Nat.add_mul,Nat.one_mul,Kk,S.sm,CK F b a]
def S.bi:List Int->(List Int->Int)->Int
 | [],F=>F []
 | c::cs,F=>S.sm (λx=>S.bi cs λvs=>F ((x:Int)::vs)) c.toNat
theorem nO:∀{cs:List Int} {F G:List Int->Int},(∀vs,InC cs vs->F vs=G vs)->S.bi cs F=S.bi cs G
 | [],_,_,h=>h [] trivial
 | c::cs,F,G,h=>by rw[S.bi,S.bi];exact bW λi hi=>nO λvs hv=>h _ ⟨⟨by omega,by omega⟩,hv⟩
theorem Fa:∀{a va b vb:List Int},InC a va->InC b vb->InC (a++b) (va++vb)
 | [],[],_,_,_,h=>h
 | _::_,_::_,_,_,h1,h2=>⟨h1.1,Fa h1.2 h2⟩
theorem rU:∀{cs pre pv:List Int} (F:List Int->Int),(∀c∈pre++cs,1<=c)->InC pre pv ->
  S.sm (λj=>F (S.aG (pre++cs) (S.ak pre pv*S.ae cs+(j:Int)))) (S.ae cs).toNat=S.bi cs λvs=>F (pv++vs)
 | [],pre,pv,F,hc,hp=>by
  have e:S.aG pre (S.ak pre pv*S.ae []+((0:Nat):Int))=pv:=by
   have:S.ak pre pv*S.ae []+((0:Nat):Int)=S.ak pre pv:=by simp[S.ae]
   rw[this];exact xY (λc h=>hc c (by simp[h])) hp
  show S.sm _ 1=F (pv++[]);rw[S.sm,S.sm,List.append_nil,List.append_nil,e];omega
 | c::cs,pre,pv,F,hc,hp=>by
  have hcc:=hc c (by simp);have hP:1<=S.ae cs:=qC λx hx=>hc x (by simp[hx]);obtain ⟨P,hPe⟩:=Int.eq_ofNat_of_zero_le (show 0<=S.ae cs by omega);obtain ⟨C,hCe⟩:=Int.eq_ofNat_of_zero_le (show 0<=c by omega);have e1:(S.ae (c::cs)).toNat=C*P:=by rw[bD,hPe,hCe,<-Int.natCast_mul,Int.toNat_natCast]
  rw[e1,CK,S.bi,hCe,Int.toNat_natCast];refine bW λi hi=>?_;have ih:=rU (cs:=cs) (pre:=pre++[(C:Int)]) (pv:=pv++[(i:Int)]) F (by rw[<-hCe];simpa using hc) (Fa hp ⟨⟨by omega,by omega⟩,trivial⟩);rw[hPe,Int.toNat_natCast] at ih;have el:=hp.len;rw[vA _ _ el.symm] at ih;have e2:∀vs,pv++[(i:Int)]++vs=pv++(i:Int)::vs:=λvs=>by simp
  simp only[e2] at ih;rw[<-ih];refine bW λj _=>?_;have e3:pre++[(C:Int)]++cs=pre++(C:Int)::cs:=by simp
  rw[e3];congr 2;have e4:S.ak [(C:Int)] [(i:Int)]=(i:Int):=by simp[S.ak,S.ae]
  have e5:S.ae [(C:Int)]=(C:Int):=by simp[S.ae]
  rw[e4,e5,bD,hPe,Int.add_mul,Int.natCast_add,Int.natCast_mul,Int.mul_assoc];omega
def S.aB:List Int->List Nat->List Int->List Int
 | w,v::r,x::xs=>S.aB (w.set v x) r xs
 | w,_,_=>w
def S.ap (cs:List Int):List Nat->(List Int->Int)->List Int->Int
 | [],F,w=>F w
 | v::r,F,w=>S.sm (λx=>S.ap cs r F (w.set v (x:Int))) (cs[v]?.getD 0).toNat
theorem qo:∀(w:List Int) (l:List Nat) (xs:List Int),(S.aB w l xs).length=w.length
 | w,[],_=>by simp[S.aB]
 | w,v::r,[]=>by simp[S.aB]
 | w,v::r,x::xs=>by rw[S.aB,qo];simp
theorem vo {cs:List Int}{F:List Int->Int}:∀{l:List Nat} {w:List Int},S.ap cs l F w=S.bi (l.map λv=>cs[v]?.getD 0) λxs=>F (S.aB w l xs)
 | [],w=>by simp[S.ap,S.bi,S.aB]
 | v::r,w=>by
  rw[S.ap,List.map_cons,S.bi];refine bW λi _=>?_;rw[vo]
  rfl
theorem C1 {cs:List Int}{F:List Int->Int}{l:List Nat}{w:List Int}(hc:∀v∈l,1<=cs[v]?.getD 0) :
  S.sm (λj=>F (S.aB w l (S.aG (l.map λv=>cs[v]?.getD 0) (j:Int)))) (S.ae (l.map λv=>cs[v]?.getD 0)).toNat=S.ap cs l F w:=by
 have h:=rU (cs:=l.map λv=>cs[v]?.getD 0) (pre:=[]) (pv:=[]) (λxs=>F (S.aB w l xs)) (by simpa using hc) trivial;have e:∀j:Nat,S.ak [] []*S.ae (l.map λv=>cs[v]?.getD 0)+(j:Int)=(j:Int):=λj=>by simp[S.ak]
 simp only[List.nil_append,e] at h;rw[h,vo]
theorem HL {cs:List Int}:∀{l:List Nat} {G:Nat->List Int->Int} {w:List Int} (k:Nat),S.ap cs l (λw=>S.sm (λx=>G x w) k) w=S.sm (λx=>S.ap cs l (G x) w) k
 | [],_,_,_=>rfl
 | v::r,G,w,k=>by
  have key:∀m:Nat,S.sm (λi=>S.sm (λx=>S.ap cs r (G x) (w.set v (i:Int))) k) m=S.sm (λx=>S.sm (λi=>S.ap cs r (G x) (w.set v (i:Int))) m) k:=by
   intro m
   induction m with
   | zero=>simp only[S.sm];rw[tx]
   | succ m ih=>simp only[S.sm];rw[ih,<-D_]
  rw[S.ap,bW λi _=>HL k,key];exact bW λx _=>rfl
theorem zL {cs:List Int}{v:Nat}{x:Int}:∀{l:List Nat} {F:List Int->Int} {w:List Int},v ∉ l->S.ap cs l F (w.set v x)=S.ap cs l (λw=>F (w.set v x)) w
 | [],_,_,_=>rfl
 | u::r,F,w,h=>by rw[S.ap,S.ap];refine bW λi _=>?_;simp only[List.mem_cons,not_or] at h;rw[List.set_comm _ _ h.1,zL h.2]
theorem vR {cs:List Int}{p q:Nat->Bool}(hpq:∀v,p v=true->q v=false):∀{L:List Nat} {F:List Int->Int} {w:List Int},L.Nodup->S.ap cs (L.filter λv=>p v || q v) F w=S.ap cs (L.filter p) (λw=>S.ap cs (L.filter q) F w) w
 | [],_,_,_=>rfl
 | v::r,F,w,h=>by
  rw[List.nodup_cons] at h;cases hp:p v with
  | true =>
   have hq:=hpq v hp;rw[List.filter_cons_of_pos (by simp[hp]),List.filter_cons_of_pos hp,List.filter_cons_of_neg (by simp[hq]),S.ap,S.ap];exact bW λi _=>vR hpq h.2
  | false =>
   cases hq:q v with
   | true =>
    rw[List.filter_cons_of_pos (by simp[hq]),List.filter_cons_of_neg (by simp[hp]),List.filter_cons_of_pos hq,S.ap];rw[bW (G:=λi=>S.ap cs (r.filter p) (λw=>S.ap cs (r.filter q) F (w.set v (i:Int))) w) λi _=>?_,<-HL]
    ·rfl
    ·rw[vR hpq h.2,zL (λhm=>h.1 (List.mem_filter.1 hm).1)]
   | false =>
    rw[List.filter_cons_of_neg (by simp[hp,hq]),List.filter_cons_of_neg (by simp[hp]),List.filter_cons_of_neg (by simp[hq])];exact vR hpq h.2
def Ind (l:List Nat)(F:List Int->Int):Prop:=∀v∈l,∀(x:Int) (w:List Int),F (w.set v x)=F w
theorem KW {cs:List Int}{l:List Nat}{F:List Int->Int}{v:Nat}{x:Int}{w:List Int}(hv:v ∉ l)(hF:∀(x:Int) (w:List Int),F (w.set v x)=F w):S.ap cs l F (w.set v x)=S.ap cs l F w:=by rw[zL hv];congr 1;exact funext λw=>hF x w
theorem Et {cs:List Int}{G H:List Int->Int}:∀{l:List Nat} {w:List Int},Ind l G->S.ap cs l (λw=>G w*H w) w=G w*S.ap cs l H w
 | [],_,_=>rfl
 | v::r,w,h=>by rw[S.ap,S.ap,<-Ea];refine bW λi _=>?_;rw[Et λu hu=>h u (by simp[hu]),h v (by simp)]
theorem HK {cs:List Int}{a b:List Nat}{G H:List Int->Int}{w:List Int}(hab:∀v∈a,v ∉ b)(hG:Ind b G)(hH:Ind a H) :
  S.ap cs a (λw=>S.ap cs b (λw=>G w*H w) w) w=S.ap cs a G w*S.ap cs b H w:=by
 have e:(λw=>S.ap cs b (λw=>G w*H w) w)=λw=>G w*S.ap cs b H w:=funext λw=>Et hG;rw[e];have hb:Ind a (S.ap cs b H):=λv hv x w=>KW (hab v hv) (hH v hv);have key:∀{a:List Nat} {K:List Int->Int} {w:List Int},Ind a K->S.ap cs a (λw=>G w*K w) w=S.ap cs a G w*K w:=by
  intro a
  induction a with
  | nil=>intro K w _;rfl
  | cons v r ih =>
   intro K w hK;rw[S.ap,S.ap,bW (G:=λi=>K w*S.ap cs r G (w.set v (i:Int))) λi _=>?_,Ea,Int.mul_comm];rw[ih λu hu=>hK u (by simp[hu]),hK v (by simp),Int.mul_comm]
 exact key hb
theorem CU:∀cs:List Int,S.bi cs (λ_=>0)=0
 | []=>rfl
 | c::cs=>by rw[S.bi,bW (G:=λ_=>0) λi _=>CU cs,tx]
theorem Jt {v y:Int}{vs e:List Int}:S.bu (v::vs) (y::e)=((decide (y<0) || decide (y=v))&&S.bu vs e):=by
 rw[Bool.eq_iff_iff,Bool.and_eq_true,s_,s_,Bool.or_eq_true,decide_eq_true_eq,decide_eq_true_eq];constructor
 ·intro h;refine ⟨by have:=h 0 (by simp);simpa using this,λi hi=>?_⟩;have:=h (i+1) (by simp;omega);simpa using this
 ·rintro ⟨h1,h2⟩ i hi;cases i with
  | zero=>simpa using h1
  | succ i=>simpa using h2 i (by simpa using hi)
theorem Eb {G:Nat->Int}{Y:Nat}:∀{m:Nat},(∀x,x≠Y->G x=0)->Y<m->S.sm G m=G Y
 | 0,_,h=>by omega
 | m+1,hG,h=>by
  rw[S.sm]
  by_cases e1:Y=m
  ·subst e1;rw[bW (G:=λ_=>0) λi hi=>hG i (by omega),tx];omega
  ·rw[Eb hG (by omega),hG m (λe2=>e1 e2.symm)];omega
theorem CT {F:List Int->Int}:∀{cs e pc pv:List Int},e.length=cs.length->pv.length=pc.length->(∀(i:Nat) (x:Int),e[i]?=some x->x = -1\/0<=x/\x<cs[i]?.getD 0) ->
  S.bi cs (λvs=>if S.bu vs e then F (pv++vs) else 0) =
   S.ap (pc++cs) ((List.range' pc.length cs.length).filter λv=>decide ((pv++e)[v]?.getD 0 = -1)) F (pv++e)
 | [],e,pc,pv,he,hp,hv=>by have:e=[]:=List.length_eq_zero_iff.1 he;subst this;simp[S.bi,S.ap,S.bu]
 | c::cs,[],pc,pv,he,hp,hv=>by simp at he
 | c::cs,y::e,pc,pv,he,hp,hv=>by
  have he2:e.length=cs.length:=by simpa using he
  have hv2:∀(i:Nat) (x:Int),e[i]?=some x->x = -1\/0<=x/\x<cs[i]?.getD 0:=λi x h=>by simpa using hv (i+1) x (by simpa using h)
  have ih:=λ(z:Int)=>CT (F:=F) (cs:=cs) (e:=e) (pc:=pc++[c]) (pv:=pv++[z]) he2 (by simp[hp]) hv2;have ea:∀(z:Int) (vs:List Int),pv++[z]++vs=pv++z::vs:=λz vs=>by simp
  have eb:pc++[c]++cs=pc++c::cs:=by simp
  simp only[ea,eb,List.length_append,List.length_singleton] at ih;have ey:(pv++y::e)[pc.length]?.getD 0=y:=by rw[List.getElem?_append_right (by omega)];simp[hp]
  have ec:(pc++c::cs)[pc.length]?.getD 0=c:=by simp
  have hr:List.range' pc.length (c::cs).length=pc.length::List.range' (pc.length+1) cs.length:=by rw[List.length_cons,List.range'_succ]
  have hset:∀z:Int,(pv++y::e).set pc.length z=pv++z::e:=λz=>by rw[List.set_append_right _ _ (by omega)];simp[hp]
  have hfil:∀z:Int,((List.range' (pc.length+1) cs.length).filter λv=>decide ((pv++z::e)[v]?.getD 0 = -1))=(List.range' (pc.length+1) cs.length).filter λv=>decide ((pv++y::e)[v]?.getD 0 = -1):=λz=>by refine List.filter_congr λv hv=>?_;have:pc.length+1<=v:=(List.mem_range'_1.1 hv).1;rw[List.getElem?_append_right (by omega),List.getElem?_append_right (by omega)];obtain ⟨k,hk⟩:∃k,v - pv.length=k+1:=⟨v - pv.length - 1,by omega⟩;rw[hk];simp
  rw[S.bi,hr];simp only[Jt];rcases hv 0 y (by simp) with h | ⟨h1,h2⟩
  ·rw[List.filter_cons_of_pos (by rw[ey,h];rfl),S.ap,ec];refine bW λx hx=>?_;rw[hset,<-hfil (x:Int),<-ih];refine nO λvs _=>?_;rw[decide_eq_true (show y<0 by omega),Bool.true_or,Bool.true_and]
  ·rw[List.filter_cons_of_neg (by rw[ey];simp;omega)];have h2:y<c:=by simpa using h2
   obtain ⟨Y,rfl⟩:=Int.eq_ofNat_of_zero_le h1;rw[Eb (Y:=Y) (λx hx=>?_) (by omega),<-ih]
   ·refine nO λvs _=>?_;rw[decide_eq_true (rfl:((Y:Nat):Int)=(Y:Int)),Bool.or_true,Bool.true_and]
   ·rw[nO (G:=λ_=>0) λvs _=>?_,CU];rw[if_neg];rw[decide_eq_false (show ¬((Y:Nat):Int)<0 by omega),decide_eq_false (show ¬((Y:Nat):Int)=(x:Int) by omega)];simp
end Hx
end
section
namespace Hx
open Go
abbrev Sp:Type:=Int×Int×Int
def S.sp (l:List Sp)(i:Nat):Sp:=l[i]?.getD (0,0,0)
def S.ay (l:List Sp)(i:Nat)(e:Int):Bool:=(List.range i).any λj=>decide ((S.sp l j).1 = -1)&&(decide ((S.sp l j).2.1=e) || decide ((S.sp l j).2.2=e))
def S.aR (l:List Sp)(i:Nat)(v:Int):Bool:=(List.range i).any λj=>decide ((S.sp l j).1=v)
def S.bz (l:List Sp)(i:Nat):Bool:=decide (0<=(S.sp l i).2.1)&&decide ((S.sp l i).2.1<(i:Int))&&decide (0<=(S.sp l i).2.2)&&decide ((S.sp l i).2.2<(i:Int))&&!decide ((S.sp l i).2.1=(S.sp l i).2.2)
def S.bP (l:List Sp)(n:Nat)(i:Nat):Bool:=decide (0<=(S.sp l i).1)&&decide ((S.sp l i).1<(n:Int))&&decide ((S.sp l i).2.1 = -1)&&decide ((S.sp l i).2.2 = -1)
def S.bg (l:List Sp)(n:Nat)(i:Nat):Bool:=if (S.sp l i).1 = -1 then S.bz l i&&!S.ay l i (S.sp l i).2.1&&!S.ay l i (S.sp l i).2.2 else S.bP l n i&&!S.aR l i (S.sp l i).1
def S.ck (l:List Sp)(n:Nat):Bool:=decide ((l.length:Int)=2*(n:Int) - 1)&&(List.range l.length).all (S.bg l n)&&((List.range n).all λv=>S.aR l l.length (v:Int))&&((List.range (l.length - 1)).all λe=>S.ay l l.length (e:Int))
theorem iY {l:List Sp}{i:Nat}{e:Int}:S.ay l i e=true↔∃j,j<i/\(S.sp l j).1 = -1/\((S.sp l j).2.1=e\/(S.sp l j).2.2=e):=by simp[S.ay,List.any_eq_true]
theorem sY {l:List Sp}{i:Nat}{v:Int}:S.aR l i v=true↔∃j,j<i/\(S.sp l j).1=v:=by simp[S.aR,List.any_eq_true]
theorem qf {l:List Sp}{i:Nat}:S.bz l i=true↔0<=(S.sp l i).2.1/\(S.sp l i).2.1<(i:Int)/\0<=(S.sp l i).2.2/\(S.sp l i).2.2<(i:Int)/\(S.sp l i).2.1≠(S.sp l i).2.2:=by simp[S.bz,and_assoc]
theorem xn {l:List Sp}{n i:Nat}:S.bP l n i=true↔0<=(S.sp l i).1/\(S.sp l i).1<(n:Int)/\(S.sp l i).2.1 = -1/\(S.sp l i).2.2 = -1:=by simp[S.bP,and_assoc]
end Hx
end
section
namespace Hx
open Go
abbrev Br:Type:=Int×Nat
structure MkI (m:Nat) (st:List Sp×List Br):Prop where
 ln:st.1.length+st.2.length=2*m
 l1:m<=st.1.length
 lf:∀v,v<m->S.sp st.1 v=((v:Int),-1,-1)
 jn:∀i,m<=i->i<st.1.length->(S.sp st.1 i).1 = -1/\S.bz st.1 i=true
 so:st.2.Pairwise λa b=>a.1<b.1
 op:∀e,(∃b∈st.2,b.1=e)↔0<=e/\e<(st.1.length:Int)/\S.ay st.1 st.1.length e=false
 on:∀i j e,i<j->j<st.1.length->(S.sp st.1 i).1 = -1/\((S.sp st.1 i).2.1=e\/(S.sp st.1 i).2.2=e)->(S.sp st.1 j).1 = -1/\((S.sp st.1 j).2.1=e\/(S.sp st.1 j).2.2=e)->False
theorem oE {l m:List Sp}{i:Nat}(h:i<l.length):S.sp (l++m) i=S.sp l i:=by simp[S.sp,List.getElem?_append_left h]
theorem tA {l:List Sp}{x:Sp}:S.sp (l++[x]) l.length=x:=by simp[S.sp]
theorem Mo {l:List Sp}{x:Sp}{e:Int}:S.ay (l++[x]) (l++[x]).length e=(S.ay l l.length e || (decide (x.1 = -1)&&(decide (x.2.1=e) || decide (x.2.2=e)))):=by
 apply Bool.eq_iff_iff.2;rw[iY,Bool.or_eq_true,iY];simp only[List.length_append,List.length_singleton,Bool.and_eq_true,Bool.or_eq_true,decide_eq_true_eq];constructor
 ·rintro ⟨j,hj,h⟩
  by_cases c:j<l.length
  ·rw[oE c] at h;exact .inl ⟨j,c,h⟩
  ·have:j=l.length:=by omega
   subst this;rw[tA] at h;exact .inr h
 ·rintro (⟨j,hj,h⟩ | h)
  ·exact ⟨j,by omega,by rw[oE hj];exact h⟩
  ·exact ⟨l.length,by omega,by rw[tA];exact h⟩
theorem Jv {m:Nat}{l:List Sp}{o:List Br}{a b:Br}{w:Nat}(h:MkI m (l,o))(ha:a∈o)(hb:b∈o)(hab:a.1≠b.1):MkI m (l++[(-1,a.1,b.1)],(o.filter λc=>!decide (c.1=a.1)&&!decide (c.1=b.1))++[((l.length:Int),w)]):=by
 obtain ⟨h1,h2,h3,h4,h5,h6,h7⟩:=h;have ea:=(h6 a.1).1 ⟨a,ha,rfl⟩;have eb:=(h6 b.1).1 ⟨b,hb,rfl⟩;dsimp only at h1 h2 h3 h4 h5 h6 h7 ea eb;have hlen:(o.filter λc=>!decide (c.1=a.1)&&!decide (c.1=b.1)).length+2=o.length:=by
  have key:∀(o:List Br) (x:Int),o.Pairwise (λa b=>a.1<b.1)->(∃c∈o,c.1=x)->(o.filter λc=>!decide (c.1=x)).length+1=o.length:=by
   intro o x hp hx
   induction o with
   | nil=>obtain ⟨c,hc,-⟩:=hx;simp at hc
   | cons c o ih =>
    rw[List.pairwise_cons] at hp
    by_cases e:c.1=x
    ·have hno:∀d∈o,d.1≠x:=λd hd he=>by have:=hp.1 d hd;omega
     rw[List.filter_cons_of_neg (by simp[e]),List.filter_eq_self.2 (λd hd=>by simpa using hno d hd)]
     rfl
    ·obtain ⟨d,hd,hdx⟩:=hx;have hd:d∈o:=by
      rcases List.mem_cons.1 hd with h | h
      ·subst h;exact absurd hdx e
      ·exact h
     rw[List.filter_cons_of_pos (by simpa using e),List.length_cons,List.length_cons,<-ih hp.2 ⟨d,hd,hdx⟩]
  have k1:=key o b.1 h5 ⟨b,hb,rfl⟩;have k2:=key (o.filter λc=>!decide (c.1=b.1)) a.1 (h5.filter _) ⟨a,List.mem_filter.2 ⟨ha,by simpa using hab⟩,rfl⟩;rw[List.filter_filter] at k2;omega
 constructor
 ·simp;omega
 ·simp;omega
 ·intro v hv;rw[oE (by omega)];exact h3 v hv
 ·intro i hi hil;rw[List.length_append,List.length_singleton] at hil
  by_cases c:i<l.length
  ·have:=h4 i hi c;have e1:S.bz (l++[(-1,a.1,b.1)]) i=S.bz l i:=by unfold S.bz;rw[oE c]
   rw[e1,oE c];exact this
  ·have:i=l.length:=by omega
   subst this;refine ⟨by rw[tA],qf.2 ?_⟩;rw[tA];exact ⟨ea.1,ea.2.1,eb.1,eb.2.1,hab⟩
 ·rw[List.pairwise_append];refine ⟨h5.filter _,List.pairwise_singleton _ _,λc hc d hd=>?_⟩;have hd:=List.mem_singleton.1 hd;subst hd;have:=(h6 c.1).1 ⟨c,(List.mem_filter.1 hc).1,rfl⟩;exact this.2.1
 ·intro e;dsimp only;rw[Mo,Bool.or_eq_false_iff];constructor
  ·rintro ⟨c,hc,rfl⟩;rcases List.mem_append.1 hc with hc | hc
   ·obtain ⟨hc,hn⟩:=List.mem_filter.1 hc;have:=(h6 c.1).1 ⟨c,hc,rfl⟩;simp only[Bool.and_eq_true,Bool.not_eq_true',decide_eq_false_iff_not] at hn;refine ⟨this.1,by simp;omega,this.2.2,?_⟩;have n1:¬a.1=c.1:=λe=>hn.1 e.symm;have n2:¬b.1=c.1:=λe=>hn.2 e.symm;simp[n1,n2]
   ·have hc:=List.mem_singleton.1 hc;subst hc;refine ⟨by simp,by simp;omega,?_,?_⟩
    ·rw[Bool.eq_false_iff];intro h;obtain ⟨j,hj,hh⟩:=iY.1 h
     by_cases c:m<=j
     ·have:=qf.1 (h4 j c hj).2;omega
     ·have:=h3 j (by omega);rw[this] at hh;have:=hh.1;dsimp only at this;omega
    ·have n1:¬a.1=(l.length:Int):=by omega
     have n2:¬b.1=(l.length:Int):=by omega
     simp[n1,n2]
  ·rintro ⟨e0,e1,e2,e3⟩
   by_cases c:e=(l.length:Int)
   ·exact ⟨_,List.mem_append_right _ (List.mem_singleton.2 rfl),c.symm⟩
   ·obtain ⟨d,hd,hde⟩:=(h6 e).2 ⟨e0,by simp at e1;omega,e2⟩;refine ⟨d,List.mem_append_left _ (List.mem_filter.2 ⟨hd,?_⟩),hde⟩;simp only[decide_true,Bool.true_and,Bool.or_eq_false_iff,decide_eq_false_iff_not] at e3;simp only[Bool.and_eq_true,Bool.not_eq_true',decide_eq_false_iff_not];exact ⟨λh=>e3.1 (by rw[<-h,hde]),λh=>e3.2 (by rw[<-h,hde])⟩
 ·intro i j e hij hj hi' hj';dsimp only at hij hj hi' hj';rw[List.length_append,List.length_singleton] at hj;rw[oE (by omega)] at hi'
  by_cases c:j<l.length
  ·rw[oE c] at hj';exact h7 i j e hij c hi' hj'
  ·have:j=l.length:=by omega
   subst this;rw[tA] at hj';have hu:S.ay l l.length e=true:=iY.2 ⟨i,hij,hi'⟩;rcases hj'.2 with h | h
   ·dsimp only at h;rw[<-h,ea.2.2] at hu;cases hu
   ·dsimp only at h;rw[<-h,eb.2.2] at hu;cases hu
def S.bA (fam:List Nat):List Sp×List Br:=((List.range fam.length).map λv:Nat=>(((v:Int),-1,-1):Sp),(List.range fam.length).map λv:Nat=>(((v:Int),fam[v]?.getD 0):Br))
theorem Jw (fam:List Nat):MkI fam.length (S.bA fam):=by
 have hs:∀v,v<fam.length->S.sp (S.bA fam).1 v=((v:Int),-1,-1):=λv hv=>by simp[S.sp,S.bA,hv]
 have hl:(S.bA fam).1.length=fam.length:=by simp[S.bA]
 have hu:∀e,S.ay (S.bA fam).1 (S.bA fam).1.length e=false:=λe=>by rw[Bool.eq_false_iff];intro h;obtain ⟨j,hj,hh⟩:=iY.1 h;rw[hs j (by omega)] at hh;have:=hh.1;dsimp only at this;omega
 constructor
 ·simp[S.bA];omega
 ·omega
 ·exact hs
 ·intro i h1 h2;omega
 ·rw[S.bA,List.pairwise_map];exact List.pairwise_lt_range.imp λh=>by dsimp only;omega
 ·intro e;rw[hu,hl];constructor
  ·rintro ⟨b,hb,rfl⟩;obtain ⟨v,hv,rfl⟩:=List.mem_map.1 hb;have:=List.mem_range.1 hv;dsimp only;exact ⟨by omega,by omega,rfl⟩
  ·rintro ⟨h0,h1,-⟩;exact ⟨_,List.mem_map.2 ⟨e.toNat,List.mem_range.2 (by omega),rfl⟩,by dsimp only;omega⟩
 ·intro i j e _ hj hi' _;rw[hs i (by omega)] at hi';have:=hi'.1;dsimp only at this;omega
end Hx
end
section
namespace Hx
open Go
def S.aQ (e:List Int)(l:List Int):Nat:=l.foldl (λs p=>if e[p.toNat]?.getD 0 = -1 then s ||| S.aO p.toNat else s) 0
def S.aI (n:Net)(v:Nat):List Int:=((n.nodes[v]?.map (·.parents)).getD [])++[(v:Int)]
def S.aA (n:Net)(e:List Int)(v:Nat):Nat:=S.aQ e (S.aI n v)
def S.aJ (n:Net)(e:List Int)(l:List Sp):Nat->List Nat
 | 0=>[]
 | j+1=>S.aJ n e l j++[if (S.sp l j).1 = -1 then (S.aJ n e l j)[(S.sp l j).2.1.toNat]?.getD 0 ||| (S.aJ n e l j)[(S.sp l j).2.2.toNat]?.getD 0 else S.aA n e (S.sp l j).1.toNat]
def S.vr (n:Net)(e:List Int)(l:List Sp):List Nat:=S.aJ n e l l.length
abbrev NsT:Type:=List Nat×List Nat×List Nat
def S.bN (l:List Sp)(vr:List Nat)(i:Nat)(s:NsT):NsT :=
 let xs:=s.2.1.set i (vr[i]?.getD 0 &&& s.2.2[i]?.getD 0)
 if (S.sp l i).1 = -1 then
  let c:=S.am (vr[(S.sp l i).2.1.toNat]?.getD 0 &&& vr[(S.sp l i).2.2.toNat]?.getD 0) (s.2.2[i]?.getD 0)
  (s.1.set i c,xs,(s.2.2.set (S.sp l i).2.1.toNat (s.2.2[i]?.getD 0 ||| c)).set (S.sp l i).2.2.toNat (s.2.2[i]?.getD 0 ||| c))
 else (s.1,xs,s.2.2)
def S.aL (l:List Sp)(vr:List Nat):Nat->NsT
 | 0=>(List.replicate l.length 0,List.replicate l.length 0,List.replicate l.length 0)
 | j+1=>S.bN l vr (l.length - 1 - j) (S.aL l vr j)
structure Sta (l:List Sp) (vr cut ctx ab:List Nat):Prop where
 s0:ab[l.length - 1]?.getD 0=0
 s1:∀i,i<l.length->ctx[i]?.getD 0=vr[i]?.getD 0 &&& ab[i]?.getD 0
 s2:∀i,i<l.length->(S.sp l i).1 = -1->cut[i]?.getD 0=S.am (vr[(S.sp l i).2.1.toNat]?.getD 0 &&& vr[(S.sp l i).2.2.toNat]?.getD 0) (ab[i]?.getD 0)
 s3:∀i,i<l.length->(S.sp l i).1 = -1->ab[(S.sp l i).2.1.toNat]?.getD 0=ab[i]?.getD 0 ||| cut[i]?.getD 0
 s4:∀i,i<l.length->(S.sp l i).1 = -1->ab[(S.sp l i).2.2.toNat]?.getD 0=ab[i]?.getD 0 ||| cut[i]?.getD 0
def S.aN (w:List Int)(s:Nat):List Int:=(List.range 8).map λv=>if s.testBit v then w[v]?.getD 0 else -1
def S.aa (n:Net)(s:Nat):List Nat:=(List.range n.nodes.length).filter s.testBit
def S.aT (n:Net)(l:List Nat):List Int:=l.map λv=>(S.ac n)[v]?.getD 0
def S.aC (n:Net)(l:List Nat):Nat:=(S.ae (S.aT n l)).toNat
def S.aw (n:Net)(w:List Int)(l:List Nat)(j:Nat):List Int:=S.aB w l (S.aG (S.aT n l) (j:Int))
abbrev w64 (x:Int):Int:=IntKind.wrap .i64 x
def S.bX (n:Net)(w:List Int)(v:Nat):Int:=S.sm (λj=>S.aH n (S.aw n w (S.aa n (S.aA n w v)) j) v) (S.aC n (S.aa n (S.aA n w v)))
abbrev Key:Type:=Int×List Int
abbrev Mem:Type:=List (Key×Int)
abbrev MSt:Type:=Mem×Int
section
variable {α:Type} [DecidableEq α]
def eC (L:List (α×Int))(k:α):Bool:=L.any λp=>decide (k=p.1)
def mgt (L:List (α×Int))(k:α):Int:=match L with
 | []=>0
 | (a,v)::r=>if k=a then v else mgt r k
def mst (k:α)(v:Int):List (α×Int)->List (α×Int)
 | []=>[(k,v)]
 | (a,w)::r=>if k=a then (k,v)::r else (a,w)::mst k v r
end
abbrev Rec:Type:=Nat->List Int->Nat->MSt->Int×MSt
def S.bw (rec:Rec)(n:Net)(w:List Int)(cu:List Nat)(a b ab:Nat)(st:MSt):Nat->Int×MSt
 | 0=>(0,st)
 | j+1 =>
  let s:=S.bw rec n w cu a b ab st j
  let p:=rec a (S.aw n w cu j) ab s.2
  let q:=rec b (S.aw n w cu j) ab p.2
  (w64 (s.1+w64 (p.1*q.1)),q.2)
def S.ax (n:Net)(l:List Sp)(vr:List Nat)(size:Int):Nat->Rec
 | 0,_,_,_,st=>(0,st)
 | f+1,i,w,ab,st =>
  if (S.sp l i).1 = -1 then
   if eC st.1 ((i:Int),S.aN w (vr[i]?.getD 0 &&& ab)) then (mgt st.1 ((i:Int),S.aN w (vr[i]?.getD 0 &&& ab)),st)
   else
    let c:=S.am (vr[(S.sp l i).2.1.toNat]?.getD 0 &&& vr[(S.sp l i).2.2.toNat]?.getD 0) ab
    let r:=S.bw (S.ax n l vr size f) n w (S.aa n c) (S.sp l i).2.1.toNat (S.sp l i).2.2.toNat (ab ||| c) (st.1,w64 (st.2+1)) (S.aC n (S.aa n c))
    (r.1,(if (r.2.1.length:Int)<size then mst ((i:Int),S.aN w (vr[i]?.getD 0 &&& ab)) r.1 r.2.1 else r.2.1),r.2.2)
  else (S.bX n w (S.sp l i).1.toNat,st.1,w64 (st.2+1))
def S.bo (n:Net)(e:List Int)(l:List Sp)(size:Int):Int×MSt:=S.ax n l (S.vr n e l) size l.length (l.length - 1) e 0 ([],0)
end Hx
end
section
namespace Hx
open Go
noncomputable section
abbrev zF:Type:=UInt8×UInt8×List UInt8
abbrev tJ:Type:=UInt8×List zF×List UInt8
abbrev Mt:Type:=UInt8×UInt8×UInt8×Int
theorem zu {P:Nat->Prop}{k:Nat}{h:H}{x:zF}{cs:List AV}:Rp.rp P k h x cs↔∃a,cs=[u8v x.1,u8v x.2.1,a]/\SlR P k h x.2.2 a:=by
 constructor
 ·rintro ⟨c1,c2,rfl,h1,c3,c4,rfl,h2,⟨a,rfl,h4⟩⟩;rw[ic.1 h1,ic.1 h2];exact ⟨a,rfl,h4⟩
 ·rintro ⟨a,rfl,h4⟩;exact ⟨[_],[_,a],rfl,ic.2 rfl,[_],[a],rfl,ic.2 rfl,⟨a,rfl,h4⟩⟩
theorem zq {P:Nat->Prop}{k:Nat}{h:H}{x:tJ}{cs:List AV}:Rp.rp P k h x cs↔∃a b,cs=[u8v x.1,a,b]/\SlR P k h x.2.1 a/\SlR P k h x.2.2 b:=by
 constructor
 ·rintro ⟨c1,c2,rfl,h1,c3,c4,rfl,⟨a,rfl,ha⟩,⟨b,rfl,hb⟩⟩;rw[ic.1 h1];exact ⟨a,b,rfl,ha,hb⟩
 ·rintro ⟨a,b,rfl,ha,hb⟩;exact ⟨[_],[a,b],rfl,ic.2 rfl,[a],[b],rfl,⟨a,rfl,ha⟩,⟨b,rfl,hb⟩⟩
theorem NS {d k k2:Nat}{g:G}{P P2:Nat->Prop}{v w:AV}{l p:List Int}(hd:0<d)(hv:SlR P k g.h l v)(hw:SlR P2 k2 g.h p w)(hp:p.length<1073741824)(hin:∀x∈p,0<=x/\x<l.length) :
  ∃r,ax C0 d N.ba [v,w] g=.val r/\IT 0 (S.ah l p) r:=by
 obtain ⟨v',e1,r1⟩:=dV hv d;obtain ⟨w',e2,r2⟩:=dV hw d;rw[ye];refine bu BE (xs:=[v',w']) (by simp only[aI,e1,e2]) (by simp[rJ]) (bj _) (by decide) hd ?_;simp only[sz,simprocAttr,rJ];have n2:=λg=>(r2 .nil).len g;have ra:∀h',ah h' 1 v'=some (l.map ci):=λh'=>(r1 h').ints;have rb:∀h',ah h' 1 w'=some (p.map ci):=λh'=>(r2 h').ints;refine vN (v:=w') (m:=p.length) (by omega) n2 (λj t df g=>df=[]/\St t [(0,v')]/\∃u,tat t 5=u/\Own g 0 u 1 ((S.ah l (p.take j)).map ci)) ⟨rfl,by simp[St,sx],_,rfl,.inl ⟨by simp[sx],by simp[S.ah]⟩⟩ (by simp[sx]) (by simp[sx]) (by decide)
  (by rintro j t df g v s (rfl | rfl | rfl | rfl | rfl | rfl | rfl)<;>simp[sx,St]) ?_ ?_
 ·rintro j t df g1 hj ⟨rfl,⟨h0,-⟩,u,h5,hu⟩ h6 h1;obtain ⟨x,hx,htk,hm⟩:=ak hj;obtain ⟨hx0,hxl⟩:=hin x hm;obtain ⟨n,rfl⟩:=Int.eq_ofNat_of_zero_le hx0;have hn:n<l.length:=by omega
  simp only[sz,simprocAttr,ra,rb,h0,h1,h5,h6,hx,hj,hn,List.length_map,List.getElem?_map,Option.map_some,ci,List.getElem?_eq_getElem hn];refine aZ (new:=[ci l[n]]) (hu.step (Fr.new _ _)) (by simp[sx,sy,ci]) (by simp) (by simp[aW,S.ah];omega) λv2 g2 hv2 n2 f2 _ l2=>?_;simp only[sz,simprocAttr,h0,h1,h6,St];refine ⟨_,rfl,?_⟩;rw[htk];simpa [hn,ci,S.ah] using hv2
 ·rintro t df g1 ⟨rfl,⟨h0,-⟩,u,h5,hu⟩ -;rw[List.take_length] at hu;simp only[sz,simprocAttr,q7,h5];exact ⟨_,hu.ints (by simp[S.ah];omega)⟩
theorem Hg {d k:Nat}{g:G}{P:Nat->Prop}{v:AV}{n:Net}(hd:0<d)(hm:Agg n P k g.h v)(hn:n.nodes.length<1073741824) :
  ∃r,ax C0 d N.be [v] g=.val r/\IT 0 (S.ac n) r:=by
 obtain ⟨v',e,cs,rfl,hc⟩:=rm (dN n) (by decide) d hm;obtain ⟨b,rfl,hN⟩:=qm.1 hc;obtain ⟨rows,r1,r2,r3,r4⟩:=hN.all;have r1:∀h',ah h' 3 b=some rows:=r1;rw[tV];refine bu wL (xs:=[.agg [.int .i64 n.grain,b]]) (by simp only[aI,e]) (by simp[mD]) (bj _) (by decide) hd ?_;simp only[sz,simprocAttr,mD,pd,nq];refine eA n.nodes.length (by omega) (λj t df g=>df=[]/\tat t 1=.hptr 0 0 0 0/\g.h.get 0=.cells 2 [[.int .i64 n.grain,b]] 0 false false/\1<=g.nx/\∃u,tat t 3=u/\Own g 1 u 1 (((n.nodes.take j).map (·.card)).map ci))
  ⟨rfl,by simp[sx],by simp[sx],by simp[sx],_,rfl,.inl ⟨by simp[sx],rfl⟩⟩ (by simp[sx]) (by decide)
  (by rintro j t df g v s (rfl | rfl | rfl)<;>simp[sx]) ?_ ?_ ?_
 ·rintro j t df g hj ⟨rfl,h1,hg,hnx,u,h3,hu⟩ h4;simp only[sz,simprocAttr,h1,h4,hg,hN.len];exact ⟨hnx,u,h3,hu⟩
 ·rintro j t df g hj ⟨rfl,h1,hg,hnx,u,h3,hu⟩ h4;obtain ⟨x,hx,htk,hm⟩:=ak hj;obtain ⟨row,q1,q2⟩:=r3 j x hx;obtain ⟨a',b',rfl,ha',-⟩:=dh.1 q2;have hlt:j<rows.length:=by omega
  have hry:=r4 (by omega);simp only[sz,simprocAttr,h1,h3,h4,hg,r1,hlt,q1,hry];refine aZ (new:=[ci x.card]) (hu.step (Fr.new _ _)) (by simp[sx,sy,ci]) (by simp) (by simp[aW];omega) λv2 g2 hv2 n2 f2 _ l2=>?_;simp only[sz,simprocAttr,h1,h4];refine ⟨?_,?_,_,rfl,?_⟩
  ·rw[f2 0 (by simp) (λe=>by have:=(hu.lt e).1;omega),G.new_h,ae _ _ _ (by omega),hg]
  ·simp at n2;omega
  ·rw[htk];simpa [ci] using hv2
 ·rintro t df g ⟨rfl,h1,hg,hnx,u,h3,hu⟩;rw[List.take_length] at hu;simp only[sz,simprocAttr,ny,h3];exact ⟨_,hu.ints (by simp;omega)⟩
theorem Ha {d k:Nat}{g:G}{P:Nat->Prop}{v:AV}{n:Net}{i:Nat}{x:Node}(hd:0<d)(hm:Agg n P k g.h v)(hn:n.nodes.length<1073741824)(hx:n.nodes[i]?=some x)(hl:x.parents.length<1073741824)(hin:∀p∈x.parents,0<=p/\p<n.nodes.length) :
  ∃r,ax C0 d N.bh [v,.int .i64 (i:Int)] g=.val r/\IT 0 (S.ah (S.ac n) x.parents) r:=by
 obtain ⟨v',e,cs,rfl,hc⟩:=rm (dN n) (by decide) d hm;have hc':=hc;obtain ⟨b,rfl,hN⟩:=qm.1 hc;have hm':∀h,Agg n NoP (max k d) h (.agg [.int .i64 n.grain,b]):=λh=>⟨_,rfl,Rp.tree hc' (Nat.le_refl _)⟩;obtain ⟨rows,r1,r2,r3,r4⟩:=hN.all;have r1:∀h',ah h' 3 b=some rows:=r1;obtain ⟨row,q1,q2⟩:=r3 i x hx;obtain ⟨a',b',rfl,ha',-⟩:=dh.1 q2;have hil:=(List.getElem?_eq_some_iff.1 hx).1;have hlt:i<rows.length:=by omega
 have hry:=r4 (by omega);rw[nS];refine bu pE (xs:=[.agg [.int .i64 n.grain,b],.int .i64 (i:Int)]) (by simp only[aI,e,iQ 0]) (by simp[fG]) (bj _) (by decide) hd ?_;simp only[sz,simprocAttr,fG,it];refine bi (Hg (Nat.succ_pos d) (hm' _) hn) λrc hrc=>?_;have hat:=λg=>NS (d:=d+1) (g:=g) (P:=NoP) (P2:=NoP) (k:=0) (k2:=max k d) (l:=S.ac n) (p:=x.parents) (Nat.succ_pos d) (hrc.sl g.h) (ha'.tree (h':=g.h) (Nat.le_refl _)) hl (λp hp=>by rw[ba];exact hin p hp);simp only[sz,simprocAttr,r1,hlt,q1,hry];refine bi (hat _) λr hr=>?_;simp only[sz,simprocAttr];obtain ⟨w,hw,hs⟩:=hr;exact ⟨_,w,hw,hs.tree (Nat.le_refl _)⟩
theorem Kb {d k:Nat}{g:G}{P:Nat->Prop}{v:AV}{l:List Int}(hd:0<d)(hv:SlR P k g.h l v):ax C0 d N.aO [v] g=.val (.int .i64 (S.bE l)):=by have b:=Fd hv.ints;have:=Mb hd (GU hv.ints) (by rw[b];exact hv.1);rwa [b] at this
theorem qj {g:G}{v:AV}{n:Net}(d:Nat)(hm:Agg n NoP 0 g.h v):∃b rows,v=.agg [.int .i64 n.grain,b]/\Hx.snap g.h d aD v=some v/\(∀h,Agg n NoP 0 h v)/\SlR NoP 0 .nil n.nodes b/\(∀h,ah h 3 b=some rows)/\rows.length=n.nodes.length /\
  (∀(i:Nat) (x:Node),n.nodes[i]?=some x->∃pa ra,rows[i]?=some [.int .i64 x.card,pa,ra]/\i<rows.length/\SlR NoP 0 .nil x.parents pa/\SlR NoP 0 .nil x.rows ra)/\(0<n.nodes.length->yz b=true):=by
 have e:=vP d hm;obtain ⟨cs,rfl,hc⟩:=hm;have hc':=hc;obtain ⟨b,rfl,hN⟩:=qm.1 hc;have hN:=hN.tree (h':=.nil) (Nat.le_refl _);obtain ⟨rows,r1,r2,r3,r4⟩:=hN.all;refine ⟨b,rows,rfl,e,λh=>⟨_,rfl,Rp.tree hc' (Nat.le_refl _)⟩,hN,r1,r2,λi x hx=>?_,r4⟩;obtain ⟨row,q1,q2⟩:=r3 i x hx;obtain ⟨a',b',rfl,ha',hb'⟩:=dh.1 q2;exact ⟨a',b',q1,by rw[r2];exact (List.getElem?_eq_some_iff.1 hx).1,ha',hb'⟩
theorem FK {k:Nat}{l:List (List Int)}{b:AV}(hb:SlR NoP k .nil l b):∃rows:List (List AV),(∀h,ah h 1 b=some rows)/\rows.length=l.length/\(∀(i:Nat) (r:List Int),l[i]?=some r->∃z,rows[i]?=some [z]/\i<rows.length/\SlR NoP k .nil r z)/\(0<l.length->yz b=true):=by obtain ⟨rows,r1,r2,r3,r4⟩:=hb.all;refine ⟨rows,r1,r2,λi r hr=>?_,r4⟩;obtain ⟨row,q1,q2⟩:=r3 i r hr;obtain ⟨z,rfl,hz⟩:=AH.1 q2;exact ⟨z,q1,by rw[r2];exact (List.getElem?_eq_some_iff.1 hr).1,hz⟩
section
variable {d:Nat}{b pa ra z:AV}{gr card:Int}{r:List Int}
def LR5 (v:Nat)(q:Nat):List (Nat×AV):=[(1,.hptr 0 0 0 0),(6,.int .i64 (v:Int)),(7,.hptr q 0 0 0)]
structure RJ1 (gr:Int) (r:List Int) (v q i j:Nat) (t:T):Prop where
 st:St t ((8,.int .i64 (i:Int))::LR5 v q)
 s9:tat t 9=.int .i64 (r.take j).sum
 all:∀y∈r.take j,0<=y/\y<=gr
structure RJ4 (gr card:Int) (rws:List (List Int)) (v q j:Nat) (t:T):Prop where
 st:St t (LR5 v q)
 all:∀r∈rws.take j,S.bf gr card r=true
structure RJ0 (n:Net) (b:AV) (j:Nat) (t:T) (g:G):Prop where
 st:St t [(1,.hptr 0 0 0 0),(3,.int .i64 (S.ae ((S.ac n).take j)))]
 hg:g.h.get 0=.cells 2 [[.int .i64 n.grain,b]] 0 false false
 nx:1<=g.nx
 all:∀x∈n.nodes.take j,S.ct n.nodes.length x=true
structure RJ6 (n:Net) (b:AV) (j:Nat) (t:T) (g:G):Prop where
 st:St t [(1,.hptr 0 0 0 0)]
 hg:g.h.get 0=.cells 2 [[.int .i64 n.grain,b]] 0 false false
 nx:1<=g.nx
 all:∀x∈n.nodes.take j,S.cw n x=true
end
end
end Hx
end
section
namespace Hx
open Go
noncomputable section
def OwnC (g:G)(b id:Nat)(l tl:List Int):Prop:=b<=id/\id<g.nx/\g.h.get id=.cells 1 (l.map ci++tl.map ci) 0 false false
theorem OwnC.rows {g:G}{b id:Nat}{l tl:List Int}(h:OwnC g b id l tl):ah g.h 1 (.hsl id 0 0 l.length none)=some (l.map ci):=by rw[dL,h.2.2,cm,if_pos (by simp),List.drop_zero,List.take_left' (by simp)]
theorem OwnC.fr {g g':G}{b id:Nat}{l tl:List Int}(h:OwnC g b id l tl)(hn:g.nx<=g'.nx)(hf:g'.h.get id=g.h.get id):OwnC g' b id l tl:=⟨h.1,Nat.lt_of_lt_of_le h.2.1 hn,by rw[hf,h.2.2]⟩
theorem Oj {g:G}{b n:Nat}{K:AV->G->Prop}{D:ADf->Prop}(hn:n<=1000)(hb:b<=g.nx)(k:∀g',OwnC g' b g.nx [] (List.replicate n 0)->g'.nx=g.nx+1->(∀i,i<g.nx->g'.h.get i=g.h.get i)->K (.hsl g.nx 0 0 0 none) g') :
  (Dq 1 8 [.int .i64 0] (.int .i64 0) (.int .i64 (n:Int)) g).sat K g D:=by
 have h1:n<=aW:=by unfold aW;omega
 have h2:n*8<=aW:=by unfold aW;omega
 have key:Dq 1 8 [.int .i64 0] (.int .i64 0) (.int .i64 (n:Int)) g=.upd (.hsl g.nx 0 0 0 none) (g.new (.cells 1 (gH n [.int .i64 0]) 0 false false)):=by
  show (match c_ aW (.int .i64 (.ofNat n)) with
   | some cn=>match c_ cn (.int .i64 0) with
    | some ln=>ap (Nat.ble (cn*8) aW) (OR.upd (.hsl g.nx 0 0 ln none) (g.new (.cells 1 (gH cn [.int .i64 0]) 0 false false))) .fail
    | none=>.fail
   | none=>.fail)=_
  have a1:c_ aW (.int .i64 (.ofNat n))=some n:=by show ap (Nat.ble n aW) (some n) none=_;rw[aa,if_pos (by simpa using h1)]
  have a2:c_ n (.int .i64 0)=some 0:=by show ap (Nat.ble 0 n) (some 0) none=_;rw[aa,if_pos (by simp)]
  rw[a1];dsimp only;rw[a2];dsimp only;rw[aa,if_pos (by simpa using h2)]
 rw[key];refine k _ ⟨hb,by simp,?_⟩ (by simp) (λi hi=>?_)
 ·simp[aJ,gH,ci]
 ·rw[G.new_h,ae _ _ _ (by omega)]
theorem HI {g:G}{b id:Nat}{l tl:List Int}{x y:Int}{w:AV}{K:AV->G->Prop}{D:ADf->Prop}(hv:OwnC g b id l (y::tl))(hx:ah g.h 1 w=some [ci x])(hr:l.length<=1000)
  (k:∀g',OwnC g' b id (l++[x]) tl->g'.nx=g.nx->(∀i,i≠id->g'.h.get i=g.h.get i)->K (.hsl id 0 0 (l++[x]).length none) g'):(cP 1 8 (.hsl id 0 0 l.length none) w g).sat K g D:=by
 unfold cP;rw[hx];obtain ⟨h1,h2,h3⟩:=hv;simp only[aU,G.get_eq,h3,aB,aa,Nat.beq_refl,Bool.true_and,Nat.ble_eq,Bool.and_eq_true,Nat.zero_add,Option.getD_none,Nat.sub_zero,List.length_append,List.length_map,List.length_cons,List.length_nil];rw[if_pos ⟨by omega,by unfold aW;omega⟩,if_pos (by omega)];have hnb:jj false=true:=rfl;rw[if_pos ⟨by omega,hnb⟩];have e:jS (l.map ci++(y::tl).map ci) l.length [ci x]=(l++[x]).map ci++tl.map ci:=by simp only[jS,fm];rw[List.map_append,List.append_assoc,List.map_cons,List.set_append_right _ _ (by simp)];simp
 rw[e];have k:=k (g.put id (.cells 1 ((l++[x]).map ci++tl.map ci) 0 false false)) ⟨h1,by simpa using h2,by simp[aJ]⟩ (by simp) (λi hi=>by rw[G.put_h,ae _ _ _ hi]);have e3:l.length+1=(l++[x]).length:=by simp
 rw[e3];exact k
def Oc (p:List Nat):VS:=λP k h v=>∃o:List Int,True/\zG (One o) (One (S.bF p)) P k h v
theorem Ht {d k:Nat}{g:G}{P:Nat->Prop}{v:AV}{p:List Nat}(hd:0<d)(hv:SlR P k g.h p v)(hn:p.length<=8)(hp:∀x∈p,x<2 ^ p.length) :
  ∃z,ax C0 d N.aZ [v] g=.val z/\Oc p NoP 0 .nil z:=by
 obtain ⟨v',e,r1⟩:=dV hv d;have hlt:=zH hv;rw[uO];refine bu yj (xs:=[v']) (by simp only[aI,e]) (by simp[nZ]) (tz λo=>jm (m:=1) (bj _) (bj _) (by decide) (by decide)) (by decide) hd ?_;have vl:∀g,eB .slice v' g=.val (.int .i64 (p.length:Int)):=λg=>(r1 .nil).len g;simp only[sz,simprocAttr,nZ,vl];refine Oj (b:=0) (n:=p.length) (by omega) (Nat.zero_le _) λg1 hu hn1 hf1=>?_;obtain ⟨id,hid⟩:∃id,id=G.empty.nx:=⟨_,rfl⟩;rw[<-hid] at hu ⊢;clear hid hn1 hf1;simp only[sz,simprocAttr];refine fI (λn t df g=>df=[]/\∃(L:List Nat) (D:Nat) (tl:List Int),n=p.length - L.length/\L.length+tl.length=p.length/\Gk p L/\Nd D L/\Gi p D/\St t [(0,v'),(4,.hsl id 0 0 (L.map λi:Nat=>(i:Int)).length none),(5,.int .u64 (D:Int))]/\OwnC g 0 id (L.map λi:Nat=>(i:Int)) tl) p.length
  ⟨rfl,[],0,List.replicate p.length 0,by simp,by simp,⟨by simp,by simp⟩,⟨by decide,by simp⟩,zb,by simp[sx,St],hu⟩ ?_
 rintro n t df g ⟨rfl,L,D,tl,rfl,hLt,hO,hD,hG,⟨h0,h4,h5,-⟩,hu⟩;have hLl:=JO hO;have hul:∀g',eB .slice (.hsl id 0 0 (L.map λi:Nat=>(i:Int)).length none) g'=.val (.int .i64 (L.length:Int)):=λg'=>by rw[jY hu.rows];simp
 simp only[sz,simprocAttr,oT,h0,h4,vl,hul];refine eZ (λhb=>?_) (λhb=>?_)
 ·have hlt2:L.length<p.length:=by simpa using hb
  obtain ⟨y,tl,rfl⟩:∃y tl',tl=y::tl':=by
   cases tl with
   | nil=>simp at hLt;omega
   | cons y tl=>exact ⟨y,tl,rfl⟩
  simp only[sz,simprocAttr,h0,vl,oS];refine bk (m:=p.length) (by omega) (λj t df g'=>df=[]/\g'=g/\St t [(0,v'),(16,v'),(4,.hsl id 0 0 (L.map λi:Nat=>(i:Int)).length none),(5,.int .u64 (D:Int))]/\∀v,v<j->D.testBit v=true\/¬Sub (Par p v) D)
   ⟨rfl,rfl,by simp[sx,St,h0,h4,h5],λv hv=>by omega⟩ (by simp[sx]) (by simp[sx]) (by decide) (by rintro j t df g v s (rfl | rfl | rfl)<;>simp[sx,St]) ?_ ?_
  ·rintro j t df g' hj ⟨rfl,rfl,⟨h0,h16,h4,h5,-⟩,hall⟩ h18 h17;obtain ⟨x,hx,-,hxm⟩:=ak hj;have hpj:Par p j=x:=by simp[Par,hx]
   have hxl:=hlt x hxm;have hjl:j<(p.map cu).length:=by simpa using hj
   have hjr:(p.map cu)[j]?=some (cu x):=by rw[List.getElem?_map,hx];rfl
   have b1:=zM .i64 D j hD.1;have hdv:D / 2 ^ j<18446744073709551616:=Nat.lt_of_le_of_lt (Nat.div_le_self _ _) hD.1;have b2:bA .and (.int .u64 ((D / 2 ^ j:Nat):Int)) (.int .u64 1)=.val (.int .u64 ((D / 2 ^ j &&& 1:Nat):Int)):=sw _ 1 hdv (by decide);have b3:=vV x D hxl hD.1;have ra:=λh=>(r1 h).nats;have hbit:D.testBit j = !decide (((D / 2 ^ j &&& 1:Nat):Int)=0):=by
    rw[<-sX,S.bW];have h2:D / 2 ^ j &&& 1=(D / 2 ^ j) % 2:=Nat.and_one_is_mod _;rw[h2];have:=Nat.mod_lt (D / 2 ^ j) (show 0<2 by decide)
    by_cases h3:D / 2 ^ j % 2=0
    ·rw[h3];simp
    ·have h4:D / 2 ^ j % 2=1:=by omega
     rw[h4];simp
   have next:(D.testBit j=true\/¬Sub (Par p j) D)->∀v,v<j+1->D.testBit v=true\/¬Sub (Par p v) D:=λh v hv=>by
    by_cases e:v=j
    ·subst e;exact h
    ·exact hall v (by omega)
   by_cases c1:((D / 2 ^ j &&& 1:Nat):Int)=0
   ·by_cases c2:((x ^^^ (x &&& D):Nat):Int)=0
    ·have hd0:S.am x D=0:=by simpa [S.am] using c2
     have hsub:=yY.1 hd0;have hjL:j ∉ L:=λh=>by have:=(hD.2 j).2 h;rw[hbit,c1] at this;simp at this
     have hb2:D ||| S.aO j<18446744073709551616:=JN hD.1 (ro j);simp only[sz,simprocAttr,h16,h4,h5,h18,b1,b2,b3,ra,hjl,hjr,cu,c1,c2];refine HI (x:=(j:Int)) (hu.fr (by simp) (by rw[G.new_h,ae _ _ _ (by have:=hu.2.1;omega)])) (by simp[sx,sy,ci]) (by simp;omega) λg2 hu2 n2 f2=>?_;have hone:bA .shl (.int .u64 1) (.int .i64 (j:Int))=.val (.int .u64 (S.aO j:Int)):=lL .i64 j;have e1:(L.map λi:Nat=>(i:Int))++[(j:Int)]=(L++[j]).map λi:Nat=>(i:Int):=by simp
     rw[e1] at hu2 ⊢;simp only[sz,simprocAttr,h5,hone,tP _ _ hD.1 (ro j)];refine ⟨p.length - (L++[j]).length,by simp;omega,L++[j],D ||| S.aO j,tl,rfl,by simp at hLt ⊢;omega,G_ hO hjL hj λq hq=>?_,Hq hD (by omega),BR hG (by omega) (by rw[hpj];exact hsub),by simp[sx,St,h0],hu2⟩;rw[hpj] at hq;exact (hD.2 q).1 (hsub q hq)
    ·have hns:¬Sub (Par p j) D:=λh=>c2 (by
      have:=yY.2 h;rw[hpj] at this;simp[S.am] at this;simp[this])
     simp only[sz,simprocAttr,h0,h16,h4,h5,h18,h17,b1,b2,b3,ra,hjl,hjr,cu,c1,c2,St];exact next (.inr hns)
   ·simp only[sz,simprocAttr,h0,h16,h4,h5,h18,h17,b1,b2,ra,hjl,hjr,cu,c1,St];exact next (.inl (by rw[hbit,decide_eq_false c1];rfl))
  ·rintro t df g' ⟨rfl,rfl,-,hall⟩;obtain ⟨v0,hv0,hv0'⟩:=LF hO hlt2;have hac:S.bF p=false:=by
    cases hc:S.bF p with
    | false=>rfl
    | true =>
     have:=zI hp hc (T:=D) (λv hv hb=>by
      rcases hall v hv with h | h
      ·rw[h] at hb;cases hb
      ·exact h) v0 hv0
     exact absurd ((hD.2 v0).1 this) hv0'
   simp only[sz,simprocAttr,oY];exact ⟨λ_=>True,[],.nils,.bool false,rfl,⟨.nils,rfl,by show 0<9223372036854775808;decide,rfl⟩,dM.2 (by rw[hac])⟩
 ·have hge:p.length<=L.length:=by simp at hb;omega
  have htl:tl=[]:=List.eq_nil_of_length_eq_zero (by omega);subst htl;have hfull:=G9 hO hge;have hac:=se hG λv hv=>(hD.2 v).2 (hfull.1 v hv);simp only[sz,simprocAttr,oZ,h4];refine ⟨λ_=>True,L.map (λi:Nat=>(i:Int)),_,_,rfl,⟨_,rfl,by simp;omega,trivial,_,hu.rows,All2.of_map (λa=>bc.2 rfl) _⟩,dM.2 (by rw[hac])⟩
theorem Hk {C:Cfg}{d id nt:Nat}{t:T}{ps:List Nat}{assign body:Code}{a b:SC}{dfr:Nat}{args:List AV}{g:G}{K:AV->G->Prop}{D:ADf->Prop}{t':T}
  (hg:g.h.get id=.loop nt t ps assign body dfr .ready none) (ha:dQ C nt assign=a) (hb:dQ C nt body=b) (hp:cN t nt ps args=some t')
  (h:wp C d (some id) a (λe t1 df g1=>e=.norm/\df=[]/\g1=g /\
   wp C d (some id) b (λe _ df g2=>df=[]/\g2.h.get id=.loop nt t ps assign body dfr .busy none/\((e=.norm/\K (.bool true) (g2.put id (.loop nt t ps assign body dfr .ready none)))\/(e=.ret/\K (.bool false) (g2.put id (.loop nt t ps assign body dfr .done (some .ret))))))
    t1 [] (g.put id (.loop nt t ps assign body dfr .busy none))) t' [] g) :
  (cg (I C) d id args g).sat K g D:=by
 subst ha;subst hb;unfold cg;rw[show g.get id=_ from hg];dsimp only;rw[hp];dsimp only;have h1:=qv h;cases hc:(I C).code nt d (some id) assign t' [] g with
 | fail=>rw[hc] at h1;exact h1.elim
 | ok e t1 df g1 =>
  rw[hc] at h1;obtain ⟨rfl,rfl,rfl,h2⟩:=h1;dsimp only;rw[show g1.get id=_ from hg];dsimp only;have h3:=qv h2;cases hc2:(I C).code nt d (some id) body t1 [] (g1.put id (.loop nt t ps assign body dfr .busy none)) with
  | fail=>rw[hc2] at h3;exact h3.elim
  | ok e t2 df2 g2 =>
   rw[hc2] at h3;obtain ⟨rfl,h4,h5⟩:=h3;dsimp only;rw[show g2.get id=_ from h4];rcases h5 with ⟨rfl,h5⟩ | ⟨rfl,h5⟩<;>exact h5
theorem rY {C:Cfg}{d nt:Nat}{f:Od}{ps:List Nat}{a b:SC}{Q:QT}{t:T}{df:List ADf}{g:G}{fn:Nat}{first cap:List AV}{s:SF}(hv:f.get t=.clo fn first cap)(he:C.ext fn=none)(hs:nFn C fn=some s)
  (hl:(first++(.yld (g.nx+1)::cap)).length<=s.nt)
  (h:∀assign body,dQ C nt assign=a->dQ C nt body=b ->
   wp C d none s.code (fnQ C d s.res λ_ g2=>∃nt' t' ps' as' bd' dfr',(g2.h.get (g.nx+1)=.loop nt' t' ps' as' bd' dfr' .ready none/\Q .norm t (.mark g.nx::df) (g2.put (g.nx+1) (.loop nt' t' ps' as' bd' dfr' .exhausted none))) \/
     (g2.h.get (g.nx+1)=.loop nt' t' ps' as' bd' dfr' .done (some .ret)/\Q .ret t (.mark g.nx::df) (g2.put (g.nx+1) (.loop nt' t' ps' as' bd' dfr' .exhausted (some .ret)))))
    (bT 0 (first++(.yld (g.nx+1)::cap)) .nil) [] ((g.new (.dfr true)).new (.loop nt t ps assign body g.nx .ready none))) :
  wp C d none (.rng nt f ps a b) Q t df g:=by
 intro assign body ha hb;have h:=qw hs hl (h assign body ha hb);show (co C (I C) nt d none (f.get t) ps assign body t (.mark g.nx::df) g.nx (g.new (.dfr true))).sat Q;rw[hv];unfold co;dsimp only;rw[he];show (match (I C).call d fn (first++(AV.yld (g.nx+1)::cap)) ((g.new (.dfr true)).new (.loop nt t ps assign body g.nx .ready none)) with
  | .ok _ g2=>dB (I C) nt d none (g.nx+1) t (.mark g.nx::df) g2
  | .fail=>.fail).sat Q
 cases hc:(I C).call d fn (first++(AV.yld (g.nx+1)::cap)) ((g.new (.dfr true)).new (.loop nt t ps assign body g.nx .ready none)) with
 | fail=>rw[hc] at h;exact h.elim
 | ok v g2 =>
  rw[hc] at h;obtain ⟨nt',t',ps',as',bd',dfr',h⟩:=h;show (dB (I C) nt d none (g.nx+1) t (.mark g.nx::df) g2).sat Q;unfold dB;rcases h with ⟨h1,h2⟩ | ⟨h1,h2⟩
  ·rw[show g2.get (g.nx+1)=_ from h1];exact h2
  ·rw[show g2.get (g.nx+1)=_ from h1];dsimp only;rw[CY];exact h2
def RwV (x:Node):VS:=λP k h v=>∃p,v=.clo N.ak [] [p] /\
 ((∃id cs,p=.hptr id 0 0 0/\P id/\h.get id=.cells 3 [cs] 0 false false/\Rp.rp P k h x cs)\/∃t cs,p=.tptr t 3 [cs] 0 0/\t<=k/\Rp.rp NoP k .nil x cs)
theorem N1 (x:Node):Snb (RwV x) 2:=by
 refine ⟨λ{P k h v n} d r hn=>?_,λ{k h v n} r hn=>?_⟩
 ·obtain ⟨p,rfl,r⟩:=r;obtain ⟨n,rfl⟩:∃q,n=q+2:=⟨n - 2,by omega⟩;rcases r with ⟨id,cs,rfl,-,hg,r⟩ | ⟨t,cs,rfl,ht,r⟩
  ·obtain ⟨cs',e,r'⟩:=Rp.snap (n:=n) d r (by show (_:Nat)<=n;exact Nat.le_trans (show Rp.dp Node<=20 by decide) (by omega)) (by decide);obtain ⟨m,e2,l2⟩:=Rp.tag (n:=aD) r' (by decide);refine ⟨.clo N.ak [] [.tptr (Nat.max d (Nat.max m 0)) 3 [cs'] 0 0],?_,_,rfl,.inr ⟨_,cs',rfl,?_,r'⟩⟩
   ·have:Hx.snap h d (n+1) (.hptr id 0 0 0)=some (.tptr (Nat.max d (Nat.max m 0)) 3 [cs'] 0 0):=by simp only[Hx.snap,hg,show Nat.beq 0 0=true from rfl,aI,e,f_,h_,e2]
    simp only[Hx.snap,aI] at this ⊢;rw[this]
   ·show max d (max m 0)<=max k d;omega
  ·refine ⟨.clo N.ak [] [.tptr t 3 [cs] 0 0],rfl,_,rfl,.inr ⟨t,cs,rfl,by omega,Rp.mono r (λi hi=>hi.elim) (by omega)⟩⟩
 ·obtain ⟨p,rfl,r⟩:=r;obtain ⟨n,rfl⟩:∃q,n=q+2:=⟨n - 2,by omega⟩;rcases r with ⟨id,cs,rfl,hP,-⟩ | ⟨t,cs,rfl,ht,r⟩
  ·exact hP.elim
  ·exact ⟨Nat.max t 0,rfl,by show max t 0<=k;omega⟩
theorem JG {d:Nat}{g:G}{v:AV}{x:Node}(hd:0<d)(hm:Agg x NoP 0 g.h v) :
  ∃pa ra,ax C0 d N.aK [v] g=.val (.clo N.ak [] [.tptr 0 3 [[.int .i64 x.card,pa,ra]] 0 0])/\SlR NoP 0 .nil x.parents pa/\SlR NoP 0 .nil x.rows ra:=by
 have e0:=vP d hm;obtain ⟨cs,rfl,hc⟩:=hm;obtain ⟨a,b,rfl,hR,hN⟩:=dh.1 hc;have key:∃r,ax C0 d N.aK [.agg [.int .i64 x.card,a,b]] g=.val r/\RwV x NoP 0 .nil r:=by rw[yc];refine bu BB (xs:=[.agg [.int .i64 x.card,a,b]]) (by simp only[aI,e0]) (by simp[rH]) (N1 x) (by decide) hd ?_;simp only[sz,simprocAttr,rH,sP];exact ⟨λ_=>True,_,rfl,.inl ⟨0,_,rfl,trivial,by simp[sx],Rp.tree hc (Nat.le_refl _)⟩⟩
 obtain ⟨r,h1,p,rfl,h2⟩:=key;rcases h2 with ⟨id,cs,rfl,hP,-⟩ | ⟨t,cs,rfl,ht,hr⟩
 ·exact hP.elim
 ·have:t=0:=by omega
  subst this;obtain ⟨a',b',rfl,hR',hN'⟩:=dh.1 hr;exact ⟨a',b',h1,hR',hN'⟩
theorem It (fo l sz i off:Nat)(rows:List (List AV)):Is fo (.tptr l sz rows i off)=.val (.tptr l sz rows i (off+fo)):=rfl
theorem J7 {d id:Nat}{c:Int}{pa ra:AV}{rws:List (List Int)}{g0:G}{K:AV->G->Prop}(hra:SlR NoP 0 .nil rws ra)(J:Nat->H->Prop)(E:G->Prop)
  (step:∀(j:Nat) (r:List Int) (z:AV) (g:G) (K':AV->G->Prop) (D:ADf->Prop),rws[j]?=some r->SlR NoP 0 .nil r z->g0.nx<=g.nx->J j g.h ->
   (∀g',J (j+1) g'.h->g.nx<=g'.nx->K' (.bool true) g')->(∀g',E g'->K' (.bool false) g')->(cg (I C0) d id [.int .i64 (j:Int),z] g).sat K' g D)
  (h0:J 0 g0.h) (fin:∀g',J rws.length g'.h->g0.nx<=g'.nx->K (.tup []) g') (finE:∀g',E g'->K (.tup []) g') :
  wp C0 d none fc.code (fnQ C0 d fc.res K) (bT 0 [.yld id,.tptr 0 3 [[.int .i64 c,pa,ra]] 0 0] .nil) [] g0:=by
 obtain ⟨rr,s1,s2,s3,s4⟩:=FK hra;simp only[sz,simprocAttr,fc,oR,It,GZ,hra.len];refine bk (m:=rws.length) hra.1 (λj t df g=>df=[]/\St t [(0,.yld id),(6,ra)]/\J j g.h/\g0.nx<=g.nx) ⟨rfl,by simp[St,sx],h0,Nat.le_refl _⟩ (by simp[sx]) (by simp[sx]) (by decide) (by rintro j t df g v s (rfl | rfl | rfl)<;>simp[St,sx]) ?_ ?_
 ·rintro j t df g hj ⟨rfl,⟨h0,h6,-⟩,hJ,hn⟩ h8 h7;obtain ⟨r,hr,-,-⟩:=ak hj;obtain ⟨z,q2,q3,hz⟩:=s3 j r hr;have hry:=s4 (by omega);simp only[sz,simprocAttr,h0,h6,h8,s1,q2,q3];show (cg (I C0) d id [.int .i64 (j:Int),z] g).sat _ _ _;refine step j r z g _ _ hr hz hn hJ (λg' hJ' hn'=>?_) λg' hE=>?_
  ·simp only[sz,simprocAttr,h7,h8];simp[St,sx,h0,h6,hJ',Nat.le_trans hn hn']
  ·simp only[sz,simprocAttr];exact finE g' hE
 ·rintro t df g ⟨rfl,-,hJ,hn⟩;simp only[sx,↓reduceIte];exact fin g hJ hn
theorem De:C0.ext N.ak=none:=by kernel_rfl
structure RowQ (b:Nat) (g2 g3:G) (e:Ex) (A B:Prop):Prop where
 nx:g2.nx<=g3.nx
 fr:∀i,b<=i->i<g2.nx->g3.h.get i=g2.h.get i
 st:(e=.norm/\A)\/(e=.ret/\B)
theorem J6 {d nt y p q:Nat}{c:Int}{pa ra:AV}{rws:List (List Int)}{ca cb:SC}{Q:QT}{t:T}{g:G}(hra:SlR NoP 0 .nil rws ra)(hv:tat t y=.clo N.ak [] [.tptr 0 3 [[.int .i64 c,pa,ra]] 0 0])(hp:p<nt)(hq:q<nt)
  (J:Nat->H->Prop) (E:H->Prop) (hJ:∀j h h',(∀i,i<g.nx->h'.get i=h.get i)->J j h->J j h') (hE:∀h h',(∀i,i<g.nx->h'.get i=h.get i)->E h->E h') (h0:J 0 g.h)
  (step:∀(j:Nat) (r:List Int) (z:AV) (g1:G),rws[j]?=some r->SlR NoP 0 .nil r z->J j g1.h->g.nx+2<=g1.nx ->
   wp C0 d (some (g.nx+1)) ca (λe t1 df g1'=>e=.norm/\df=[]/\g1'=g1/\∀g2:G,g2.nx=g1.nx->(∀i,i≠g.nx+1->g2.h.get i=g1.h.get i) ->
    wp C0 d (some (g.nx+1)) cb (λe _ df g3=>df=[]/\RowQ g.nx g2 g3 e (J (j+1) g3.h) (E g3.h)) t1 [] g2)
    (eV (eV t p (.int .i64 (j:Int))) q z) [] g1)
  (fin:∀g',J rws.length g'.h->g.nx+2<=g'.nx->g'.h.get g.nx=.dfr true->Q .norm t [.mark g.nx] g')
  (finE:∀g',E g'.h->g.nx+2<=g'.nx->g'.h.get g.nx=.dfr true->Q .ret t [.mark g.nx] g') :
  wp C0 d none (.rng nt (.t y) [p,q] ca cb) Q t [] g:=by
 refine rY (fn:=N.ak) (first:=[]) (cap:=[.tptr 0 3 [[.int .i64 c,pa,ra]] 0 0]) (s:=fc) hv De yh (by simp[fc]) ?_;intro assign body ha hb;have e1:((g.new (.dfr true)).new (.loop nt t [p,q] assign body g.nx .ready none)).nx=g.nx+2:=by simp
 refine J7 (g0:=(g.new (.dfr true)).new (.loop nt t [p,q] assign body g.nx .ready none)) (id:=g.nx+1) hra
  (λj h=>J j h/\h.get g.nx=.dfr true/\h.get (g.nx+1)=.loop nt t [p,q] assign body g.nx .ready none)
  (λg'=>E g'.h/\g'.h.get g.nx=.dfr true/\g'.h.get (g.nx+1)=.loop nt t [p,q] assign body g.nx .done (some .ret)/\g.nx+2<=g'.nx) ?_ ?_ ?_ ?_
 ·rintro j r z g1 K' D hr hz hn ⟨a1,a2,a3⟩ kk kE;rw[e1] at hn;refine Hk a3 ha hb (t':=eV (eV t p (.int .i64 (j:Int))) q z) ?_ ?_
  ·simp only[cN,aa,Nat.blt_eq,if_pos hp,if_pos hq];rfl
  ·refine bP _ (step j r z g1 hr hz a1 (by omega)) ?_;rintro e t1 df g1' ⟨rfl,rfl,rfl,h⟩;refine ⟨rfl,rfl,rfl,?_⟩;have hl:g.nx+1<g1'.nx:=by omega
   refine bP _ (h (g1'.put (g.nx+1) (.loop nt t [p,q] assign body g.nx .busy none)) (by simp) (λi hi=>by simp[H.get_put,hi])) ?_;rintro e t2 df g3 ⟨rfl,⟨b2,b3,b1⟩⟩;have b4:g3.h.get (g.nx+1)=.loop nt t [p,q] assign body g.nx .busy none:=by rw[b3 _ (by omega) (by simpa using hl)];simp[H.get_put]
   have b5:g3.h.get g.nx=.dfr true:=by rw[b3 _ (by omega) (by simp;omega)];simp[H.get_put,a2]
   refine ⟨rfl,b4,?_⟩;rcases b1 with ⟨rfl,b1⟩ | ⟨rfl,b1⟩
   ·refine .inl ⟨rfl,kk _ ⟨hJ _ g3.h _ (λi hi=>by simp[H.get_put,show ¬i=g.nx+1 by omega]) b1,?_,?_⟩ (by simpa using b2)⟩
    ·simp[H.get_put,b5]
    ·simp[H.get_put]
   ·refine .inr ⟨rfl,kE _ ⟨hE g3.h _ (λi hi=>by simp[H.get_put,show ¬i=g.nx+1 by omega]) b1,?_,?_,?_⟩⟩
    ·simp[H.get_put,b5]
    ·simp[H.get_put]
    ·simp at b2 ⊢;omega
 ·refine ⟨hJ 0 g.h _ (λi hi=>?_) h0,?_,?_⟩
  ·simp[H.get_put,show ¬i=g.nx+1 by omega,show ¬i=g.nx by omega]
  ·simp[H.get_put]
  ·simp[H.get_put]
 ·rintro g' ⟨a1,a2,a3⟩ hn;rw[e1] at hn;refine ⟨_,_,_,_,_,_,.inl ⟨a3,fin _ (hJ _ g'.h _ (λi hi=>by simp[H.get_put,show ¬i=g.nx+1 by omega]) a1) (by simpa using hn) ?_⟩⟩;simp[H.get_put,a2]
 ·rintro g' ⟨a1,a2,a3,hn⟩;refine ⟨_,_,_,_,_,_,.inr ⟨a3,finE _ (hE g'.h _ (λi hi=>by simp[H.get_put,show ¬i=g.nx+1 by omega]) a1) (by simpa using hn) ?_⟩⟩;simp[H.get_put,a2]
abbrev NwM:Type:=Net×List Int×List Nat×List Int
theorem zt {P:Nat->Prop}{k:Nat}{h:H}{x:NwM}{cs:List AV}:Rp.rp P k h x cs↔∃a b c e,cs=[.int .i64 x.1.grain,a,b,c,e]/\SlR P k h x.1.nodes a/\SlR P k h x.2.1 b/\SlR P k h x.2.2.1 c/\SlR P k h x.2.2.2 e:=by
 constructor
 ·rintro ⟨c1,c2,rfl,h1,c3,c4,rfl,⟨b,rfl,hb⟩,c5,c6,rfl,⟨c,rfl,hc⟩,⟨e,rfl,he⟩⟩;obtain ⟨a,rfl,ha⟩:=qm.1 h1;exact ⟨a,b,c,e,rfl,ha,hb,hc,he⟩
 ·rintro ⟨a,b,c,e,rfl,ha,hb,hc,he⟩;exact ⟨[_,a],[b,c,e],rfl,qm.2 ⟨a,rfl,ha⟩,[b],[c,e],rfl,⟨b,rfl,hb⟩,[c],[e],rfl,⟨c,rfl,hc⟩,⟨e,rfl,he⟩⟩
theorem AT:∀{l:List Int},(∀x∈l,0<=x)->0<=l.sum
 | [],_=>by simp
 | x::l,h=>by have:=AT (l:=l) λy hy=>h y (by simp[hy]);have:=h x (by simp);rw[List.sum_cons];omega
theorem CO {l:List Int}(h:∀x∈l,0<=x)(j:Nat):(l.take j).sum<=l.sum:=by
 have:=AT (l:=l.drop j) λx hx=>h x (List.mem_of_mem_drop hx);have e:l.sum=(l.take j).sum+(l.drop j).sum:=by rw[<-List.sum_append,List.take_append_drop]
 omega
theorem xu:∀{l:List Int},(∀x∈l,0<=x)->∀x∈l,x<=l.sum
 | [],_,x,hx=>by simp at hx
 | y::l,h,x,hx=>by
  have h1:=AT (l:=l) λz hz=>h z (by simp[hz]);have h2:=h y (by simp);rw[List.sum_cons];rcases List.mem_cons.1 hx with rfl | hx
  ·omega
  ·have:=xu (l:=l) (λz hz=>h z (by simp[hz])) x hx;omega
def S.br (gr:Int)(cs:List Int)(x:Node):Bool:=decide ((x.rows.length:Int)=S.ae (S.ah cs x.parents))&&x.rows.all (S.bf gr x.card)
structure FJ (gr:Int) (r:List Int) (z:AV) (j:Nat) (t:T):Prop where
 st:St t [(2,.hptr 0 0 0 0),(3,.hptr 1 0 0 0),(4,.hptr 2 0 0 0),(9,z),(40,z),(10,.int .i64 (gr - (r.take j).sum))]
 nn:∀x∈r.take j,0<=x
 le:(r.take j).sum<=gr
theorem GK {d:Nat}{rd:Option Nat}{gr:Int}{r:List Int}{z:AV}{Q:QT}{t:T}{g:G}(hz:SlR NoP 0 .nil r z)(hg1:1<=gr/\gr<=60)
  (ht:St t [(2,.hptr 0 0 0 0),(3,.hptr 1 0 0 0),(4,.hptr 2 0 0 0),(9,z),(40,z),(10,.int .i64 gr)]) (h42:tat t 42=.int .i64 0) (h41:tat t 41=.int .i64 (r.length:Int)) (e2:g.h.get 2=.cells 1 [[.bool false]] 0 false false)
  (bad:∀t,(∀card,S.bf gr card r=false)->Q .ret t [] (g.put 2 (.cells 1 [[.bool false]] 0 false false)))
  (fin:∀t,(∀x∈r,0<=x)->r.sum<=gr->St t [(2,.hptr 0 0 0 0),(3,.hptr 1 0 0 0),(4,.hptr 2 0 0 0),(9,z),(10,.int .i64 (gr - r.sum))]->Q (.exit 4) t [] g) :
  wpL (wp C0 d rd dw) Q t [] g:=by
 have rz:=λh=>(hz.tree (h':=h) (Nat.le_refl 0)).ints;simp only[dw];refine bk (m:=r.length) hz.1 (λj t df g'=>df=[]/\g'=g/\FJ gr r z j t) ⟨rfl,rfl,by simpa using ht,by simp,by simp;omega⟩ h42 h41 (by decide)
  (by rintro j t df g v s (rfl | rfl | rfl) ⟨a1,a2,⟨b1,b2,b3,b4,b5,b6,-⟩,b7,b8⟩<;>exact ⟨a1,a2,by simp[St,sx,b1,b2,b3,b4,b5,b6],b7,b8⟩) ?_ ?_
 ·rintro j t df g' hj ⟨rfl,rfl,⟨⟨h2,h3,h4,h9,h40,h10,-⟩,hnn,hle⟩⟩ h42 h41;obtain ⟨y,hy,htk,hm⟩:=ak hj;have u1:j<(r.map ci).length:=by simpa using hj
  have u2:(r.map ci)[j]?=some (ci y):=by rw[List.getElem?_map,hy];rfl
  have hs0:=AT hnn
  by_cases c1:y<0
  ·simp only[sz,simprocAttr,h4,h40,h42,rz,u1,u2,ci,c1,e2];exact bad _ (λcard=>by
    rw[<-Bool.not_eq_true,S.bf];simp only[Bool.and_eq_true,decide_eq_true_eq,List.all_eq_true];rintro ⟨⟨-,h⟩,-⟩;have:=h y hm;omega)
  ·by_cases c2:gr - (r.take j).sum<y
   ·simp only[sz,simprocAttr,h4,h40,h10,h42,rz,u1,u2,ci,c1,c2,e2];exact bad _ (λcard=>by
     rw[<-Bool.not_eq_true,S.bf];simp only[Bool.and_eq_true,decide_eq_true_eq,List.all_eq_true];rintro ⟨⟨-,h⟩,hs⟩;have h1:=CO (l:=r) (λx hx=>(h x hx).1) (j+1);rw[htk,xW] at h1;omega)
   ·have w1:IntKind.wrap .i64 (gr - (r.take j).sum - y)=gr - (r.take (j+1)).sum:=by rw[an (by omega) (by omega),htk,xW];omega
    simp only[sz,simprocAttr,h40,h10,h42,h41,rz,u1,u2,ci,c1,c2,w1];refine ⟨by simp[St,sx,h2,h3,h4,h9,h40],λx hx=>?_,by rw[htk,xW];omega⟩;rw[htk] at hx;rcases List.mem_append.1 hx with h | h
    ·exact hnn x h
    ·rw[List.mem_singleton.1 h];omega
 ·rintro t df g' ⟨rfl,rfl,⟨⟨h2,h3,h4,h9,h40,h10,-⟩,hnn,hle⟩⟩;rw[List.take_length] at hnn hle h10;exact fin t hnn hle ⟨h2,h3,h4,h9,h10,trivial⟩
structure FlJ (cs1 cs2:List AV) (gr card:Int) (rws:List (List Int)) (j:Nat) (h:H):Prop where
 a0:h.get 0=.cells 5 [cs1] 0 false false
 a1:h.get 1=.cells 3 [cs2] 0 false false
 a2:h.get 2=.cells 1 [[.bool false]] 0 false false
 all:∀r∈rws.take j,S.bf gr card r=true
structure FlE (gr card:Int) (rws:List (List Int)) (h:H):Prop where
 a2:h.get 2=.cells 1 [[.bool false]] 0 false false
 ex:∃r∈rws,S.bf gr card r=false
theorem GL {d k1 k2:Nat}{g:G}{P1 P2:Nat->Prop}{v w:AV}{m:NwM}{x:Node}(hd:0<d)(hm:Agg m P1 k1 g.h v)(hx:Agg x P2 k2 g.h w)(hk:k2=0/\P2=NoP)(hg1:1<=m.1.grain/\m.1.grain<=60)(hc:∀c∈m.2.1,1<=c/\c<=4)
  (hp:∀p∈x.parents,0<=p/\p<m.2.1.length) (hpl:x.parents.length<=8):ax C0 d N.aI [v,w] g=.val (.bool (S.br m.1.grain m.2.1 x)):=by
 obtain ⟨rfl,rfl⟩:=hk;obtain ⟨v',e1,cs,rfl,hcs⟩:=rm (dN m) (by decide) d hm;obtain ⟨nb,cb,sb,ob,rfl,-,hcb,-,-⟩:=zt.1 hcs;have e2:=vP d hx;obtain ⟨cs2,rfl,hcs2⟩:=hx;obtain ⟨pa,ra,rfl,hpa,hra⟩:=dh.1 hcs2;have hcs2':∀h,Agg x NoP 0 h (.agg [.int .i64 x.card,pa,ra]):=λh=>⟨_,rfl,Rp.tree hcs2 (Nat.le_refl _)⟩;have hra:=hra.tree (h':=.nil) (Nat.le_refl 0);have rp:=λh=>(hpa.tree (h':=h) (Nat.le_refl 0)).ints;have rc:=λh=>(hcb.tree (h':=h) (Nat.le_refl _)).ints;have pl:=λg=>(hpa.tree (h':=.nil) (Nat.le_refl 0)).len g;have rl:=λg=>hra.len g;rw[mT];refine xg pi (xs:=[.agg [.int .i64 m.1.grain,nb,cb,sb,ob],.agg [.int .i64 x.card,pa,ra]]) (by simp only[aI,e1,e2]) (by simp[eK]) hd ?_;simp only[sz,simprocAttr,eK];obtain ⟨g0,hg0⟩:∃g0,g0=((G.empty.new (.cells 5 [[.int .i64 m.1.grain,nb,cb,sb,ob]] 0 false false)).new (.cells 3 [[.int .i64 x.card,pa,ra]] 0 false false)).new (.cells 1 [[.bool false]] 0 false false):=⟨_,rfl⟩;rw[<-hg0];have f0:g0.h.get 0=.cells 5 [[.int .i64 m.1.grain,nb,cb,sb,ob]] 0 false false:=by rw[hg0];simp[sx,H.get_put]
 have f1:g0.h.get 1=.cells 3 [[.int .i64 x.card,pa,ra]] 0 false false:=by rw[hg0];simp[sx,H.get_put]
 have f2:g0.h.get 2=.cells 1 [[.bool false]] 0 false false:=by rw[hg0];simp[sx]
 have f3:g0.nx=3:=by rw[hg0];simp[sx]
 clear hg0;simp only[sz,simprocAttr,gR,f1,pl,gv];refine bk (m:=x.parents.length) (by omega) (λj t df g=>df=[]/\g=g0/\St t [(2,.hptr 0 0 0 0),(3,.hptr 1 0 0 0),(4,.hptr 2 0 0 0),(14,pa),(5,.int .i64 (S.ae (S.ah m.2.1 (x.parents.take j))))])
  ⟨rfl,rfl,by simp[St,sx,S.ae,S.ah]⟩ (by simp[sx]) (by simp[sx]) (by decide) (by rintro j t df g v s (rfl | rfl | rfl)<;>simp[St,sx]) ?_ ?_
 ·rintro j t df g hj ⟨rfl,rfl,⟨h2,h3,h4,h14,h5,-⟩⟩ h16 h15;obtain ⟨p,hpj,htk,hm2⟩:=ak hj;obtain ⟨p0,p1⟩:=hp p hm2;obtain ⟨p,rfl⟩:=Int.eq_ofNat_of_zero_le p0;have hpl2:p<m.2.1.length:=by omega
  have u1:j<(x.parents.map ci).length:=by simpa using hj
  have u2:(x.parents.map ci)[j]?=some (ci (p:Int)):=by rw[List.getElem?_map,hpj];rfl
  have u3:p<(m.2.1.map ci).length:=by simpa using hpl2
  have u4:(m.2.1.map ci)[p]?=some (ci m.2.1[p]):=by rw[List.getElem?_map,List.getElem?_eq_getElem hpl2];rfl
  have e3:S.ae (S.ah m.2.1 (x.parents.take (j+1)))=S.ae (S.ah m.2.1 (x.parents.take j))*m.2.1[p]:=by rw[htk,DE,xM];congr 1;simp[S.ah,S.ae,List.getElem?_eq_getElem hpl2]
  have hpb:=dK (l:=S.ah m.2.1 (x.parents.take (j+1))) (jP hc λq hq=>hp q (List.mem_of_mem_take hq));have hp4:=nI (a:=(S.ah m.2.1 (x.parents.take (j+1))).length) (b:=8) (by simp[S.ah];omega);have h48:(4:Int) ^ 8=65536:=by decide
  have w1:IntKind.wrap .i64 (S.ae (S.ah m.2.1 (x.parents.take j))*m.2.1[p])=S.ae (S.ah m.2.1 (x.parents.take (j+1))):=by rw[<-e3,an (by omega) (by omega)]
  simp only[sz,simprocAttr,h2,h14,h5,h16,h15,f0,rp,rc,u1,u2,u3,u4,ci,w1];simp[St,sx,h2,h3,h4,h14]
 rintro t df g ⟨rfl,rfl,⟨h2,h3,h4,h14,h5,-⟩⟩;rw[List.take_length] at h5;simp only[gB]
 by_cases c1:(x.rows.length:Int)=S.ae (S.ah m.2.1 x.parents)
 ·obtain ⟨pa',ra',er,hpa',hra'⟩:=JG (d:=d+1) (g:=g) (Nat.succ_pos d) (hcs2' g.h);refine bM (P:=λt' df g'=>df=[]/\g'=g/\St t' [(2,.hptr 0 0 0 0),(3,.hptr 1 0 0 0),(4,.hptr 2 0 0 0)]) ?_ ?_
  ·simp only[sz,simprocAttr,h3,h5,f1,rl,c1];simp[St,sx,h2,h3,h4]
  clear h2 h3 h4 h5 h14;rintro t df g ⟨rfl,rfl,h2,h3,h4,-⟩;rw[iP,iP];simp only[sz,simprocAttr,h3,f1,er];refine J6 (c:=x.card) (pa:=pa') hra' (by simp[sx]) (by decide) (by decide)
   (FlJ [.int .i64 m.1.grain,nb,cb,sb,ob] [.int .i64 x.card,pa,ra] m.1.grain x.card x.rows)
   (FlE m.1.grain x.card x.rows) ?_ ?_ ⟨f0,f1,f2,by simp⟩ ?_ ?_ ?_
  ·rintro j h h' hh ⟨a0,a1,a2,a3⟩;exact ⟨by rw[hh 0 (by omega),a0],by rw[hh 1 (by omega),a1],by rw[hh 2 (by omega),a2],a3⟩
  ·rintro h h' hh ⟨a2,a3⟩;exact ⟨by rw[hh 2 (by omega),a2],a3⟩
  ·rintro j r z g1 hr hz ⟨a0,a1,a2,a3⟩ hn;obtain ⟨r',hr',htk,hrm⟩:=ak (l:=x.rows) (j:=j) (List.getElem?_eq_some_iff.1 hr).1;rw[hr] at hr';injection hr' with hr';subst hr';simp only[sz,simprocAttr,gu];intro g2 hg2n hg2;have b0:g2.h.get 0=.cells 5 [[.int .i64 m.1.grain,nb,cb,sb,ob]] 0 false false:=by rw[hg2 0 (by omega),a0]
   have b1:g2.h.get 1=.cells 3 [[.int .i64 x.card,pa,ra]] 0 false false:=by rw[hg2 1 (by omega),a1]
   have b2:g2.h.get 2=.cells 1 [[.bool false]] 0 false false:=by rw[hg2 2 (by omega),a2]
   simp only[sz,simprocAttr,gz,h2,b0,hz.len];refine GK (gr:=m.1.grain) (r:=r) (z:=z) hz hg1 (by simp[St,sx,h2,h3,h4]) (by simp[sx]) (by simp[sx]) b2 ?_ ?_
   ·rintro t hrow;simp only[sx,sy];exact ⟨by simp,λi h1 h2=>by simp[H.get_put,show ¬i=2 by omega],.inr ⟨rfl,by simp[H.get_put],r,hrm,hrow _⟩⟩
   ·rintro t hnn hle ⟨h2,h3,h4,h9,h10,-⟩;have hzl:=λg=>hz.len g
    by_cases c2:(r.length:Int)=x.card
    ·by_cases c3:m.1.grain - r.sum=0
     ·simp only[sz,simprocAttr,bN,h3,h9,h10,hzl,b1,c2,c3];refine ⟨Nat.le_refl _,λi _ _=>rfl,.inl ⟨rfl,b0,b1,b2,λy hy=>?_⟩⟩;rw[htk] at hy;rcases List.mem_append.1 hy with h | h
      ·exact a3 y h
      ·rw[List.mem_singleton.1 h,S.bf];simp only[Bool.and_eq_true,decide_eq_true_eq,List.all_eq_true];exact ⟨⟨c2,λq hq=>⟨hnn q hq,by have:=xu hnn q hq;omega⟩⟩,by omega⟩
     ·have hro:S.bf m.1.grain x.card r=false:=by rw[S.bf];simp;intros;omega
      simp only[sz,simprocAttr,bN,h3,h4,h9,h10,hzl,b1,b2,c2,c3];exact ⟨by simp,λi h1 h2=>by simp[H.get_put,show ¬i=2 by omega],.inr ⟨rfl,by simp[H.get_put],r,hrm,hro⟩⟩
    ·have hro:S.bf m.1.grain x.card r=false:=by rw[S.bf];simp[c2]
     simp only[sz,simprocAttr,bN,h3,h4,h9,hzl,b1,b2,c2];exact ⟨by simp,λi h1 h2=>by simp[H.get_put,show ¬i=2 by omega],.inr ⟨rfl,by simp[H.get_put],r,hrm,hro⟩⟩
  ·rintro g' ⟨a0,a1,a2,a3⟩ hn hdf;rw[List.take_length] at a3;have hok:S.br m.1.grain m.2.1 x=true:=by rw[S.br,List.all_eq_true.2 a3];simp[c1]
   simp only[sz,simprocAttr,gA,h4,a2];refine mZ (by simp[H.get_put,show ¬g.nx=2 by omega,hdf]) ?_;simp only[sx,sy,↓reduceIte,Nat.reduceEqDiff,h4,hok];simp[show ¬(2=g.nx) by omega]
   rfl
  ·rintro g' ⟨a2,r,hr,hro⟩ hn hdf;have hok:S.br m.1.grain m.2.1 x=false:=by
    rw[S.br];have:x.rows.all (S.bf m.1.grain x.card)=false:=by rw[<-Bool.not_eq_true,List.all_eq_true];intro h;rw[h r hr] at hro;cases hro
    rw[this,Bool.and_false]
   simp only[sx];refine mZ hdf ?_;simp only[sx,sy,↓reduceIte,Nat.reduceEqDiff,h4,hok];rw[if_neg (by omega),a2]
   rfl
 ·simp only[sz,simprocAttr,h3,h4,h5,f1,f2,rl,c1];rw[S.br];simp[c1]
theorem Aq:∀{l:List Int} {v:Nat},(∀x∈l,0<=x/\x<64)->((S.aE l).testBit v=true↔(v:Int)∈l):=by
 have key:∀(l:List Int) (s v:Nat),(∀x∈l,0<=x/\x<64)->((l.foldl (λs x=>s ||| S.aO x.toNat) s).testBit v=true↔s.testBit v=true\/(v:Int)∈l):=by
  intro l
  induction l with
  | nil=>intro s v _;simp
  | cons x l ih =>
   intro s v h;have hx:=h x (by simp);rw[List.foldl_cons,ih _ _ λy hy=>h y (by simp[hy]),da,tQ (show x.toNat<64 by omega),Bool.or_eq_true,decide_eq_true_eq,List.mem_cons];constructor
   ·rintro ((h | h) | h)
    ·exact .inl h
    ·exact .inr (.inl (by omega))
    ·exact .inr (.inr h)
   ·rintro (h | h | h)
    ·exact .inl (.inl h)
    ·exact .inl (.inr (by omega))
    ·exact .inr h
 intro l v h;have:=key l 0 v h;simpa [S.aE] using this
theorem Jr {l:List Int}{k:Nat}(hk:k<=64)(h:∀x∈l,0<=x/\x<k):S.aE l<2 ^ k:=by
 have hb:∀i,k<=i->(S.aE l).testBit i=false:=λi hi=>by rw[<-Bool.not_eq_true,Aq λx hx=>by have:=h x hx;omega];intro hm;have:=h _ hm;omega
 exact Nat.lt_pow_two_of_testBit _ λi hi=>hb i hi
structure RdH (n:Net) (b cv sv:AV) (q:Nat) (X:List Int) (Y:List Nat) (g:G):Prop where
 h0:g.h.get 0=.cells 2 [[.int .i64 n.grain,b]] 0 false false
 h1:g.h.get 1=.cells 5 [[.int .i64 0,.nils,.nils,.nils,.nils]] 0 false false
 hq:g.h.get q=.cells 5 [[.int .i64 n.grain,b,cv,sv,.nils]] 0 false false
 hc:Own g 2 cv 1 (X.map ci)
 hs:Own g 2 sv 1 (Y.map cu)
 q2:2<=q
 qn:q<g.nx
 d1:vid cv≠some q
 d2:vid sv≠some q
 d3:∀i,vid cv=some i->vid sv≠some i
theorem RdH.fr {n:Net}{b cv sv:AV}{q:Nat}{X:List Int}{Y:List Nat}{g g':G}(h:RdH n b cv sv q X Y g)(f:Fr g g'):RdH n b cv sv q X Y g' :=
 ⟨by rw[f.2 0 (by have:=h.qn;have:=h.q2;omega),h.h0],by rw[f.2 1 (by have:=h.qn;have:=h.q2;omega),h.h1],by rw[f.2 q h.qn,h.hq],h.hc.step f,h.hs.step f,h.q2,Nat.lt_of_lt_of_le h.qn f.1,h.d1,h.d2,h.d3⟩
def S.b_ (n:Net)(o:List Int):NwM:=if S.a_ n then (n,S.ac n,S.aD n,o) else (⟨0,[]⟩,[],[],[])
def A8 (n:Net):VS:=λP k h v=>∃o:List Int,True/\zG (Agg (S.b_ n o)) (One (if S.a_ n then (0:Int) else 50)) P k h v
section
variable {d:Nat}{n:Net}{b cv sv:AV}{q:Nat}{rows:List (List AV)}
def LRd (q:Nat):List (Nat×AV):=[(1,.hptr 0 0 0 0),(2,.hptr 1 0 0 0),(4,.hptr q 0 0 0)]
theorem NT {t:T}{g:G}(hn:¬NR n)(h1:g.h.get 1=.cells 5 [[.int .i64 0,.nils,.nils,.nils,.nils]] 0 false false)(t2:tat t 2=.hptr 1 0 0 0)(t3:tat t 3=.int .i64 50) :
  fnQ C0 d ky.res (λv g'=>∃P,A8 n P 0 g'.h v) .ret t [] g:=by
 have hf:S.a_ n=false:=by
  cases h:S.a_ n with
  | false=>rfl
  | true=>exact absurd (li.1 h) hn
 simp only[ky,sx,sy,↓reduceIte,Nat.reduceAdd,Nat.reduceLeDiff,t2,t3,h1];refine ⟨λ_=>True,[],trivial,_,_,rfl,⟨_,rfl,?_⟩,?_⟩
 ·rw[S.b_,hf];exact zt.2 ⟨.nils,.nils,.nils,.nils,rfl,⟨by show 0<9223372036854775808;decide,rfl⟩,⟨by show 0<9223372036854775808;decide,rfl⟩,⟨by show 0<9223372036854775808;decide,rfl⟩,⟨by show 0<9223372036854775808;decide,rfl⟩⟩
 ·rw[hf];exact bc.2 rfl
structure Rd0 (n:Net) (b cv sv:AV) (q j:Nat) (t:T) (g:G):Prop where
 st:St t ((48,b)::(5,.int .i64 (S.ae ((S.ac n).take j)))::LRd q)
 hp:RdH n b cv sv q ((S.ac n).take j++List.replicate (n.nodes.length - j) 0) (List.replicate n.nodes.length 0) g
 ok:∀x∈n.nodes.take j,1<=x.card/\x.card<=4
theorem LZ {Q:QT}{t:T}{g:G}(hl:n.nodes.length<=8)(hN:SlR NoP 0 .nil n.nodes b)(r1:∀h,ah h 3 b=some rows)(r2:rows.length=n.nodes.length)
  (r3:∀(i:Nat) (x:Node),n.nodes[i]?=some x->∃pa ra,rows[i]?=some [.int .i64 x.card,pa,ra]/\i<rows.length/\SlR NoP 0 .nil x.parents pa/\SlR NoP 0 .nil x.rows ra) (r4:0<n.nodes.length->yz b=true)
  (h0:Rd0 n b cv sv q 0 t g) (h50:tat t 50=.int .i64 0) (h49:tat t 49=.int .i64 (n.nodes.length:Int))
  (bad:∀t g,¬NR n->g.h.get 1=.cells 5 [[.int .i64 0,.nils,.nils,.nils,.nils]] 0 false false->tat t 2=.hptr 1 0 0 0->tat t 3=.int .i64 50->Q .ret t [] g)
  (fin:∀t g,Rd0 n b cv sv q n.nodes.length t g->Q (.exit 0) t [] g):wpL (wp C0 d none mo) Q t [] g:=by
 simp only[mo];refine bk (m:=n.nodes.length) (by omega) (λj t df g=>df=[]/\Rd0 n b cv sv q j t g) ⟨rfl,h0⟩ h50 h49 (by decide)
  (by rintro j t df g v s (rfl | rfl | rfl) ⟨a1,⟨b1,b2,b3,b4,b5,-⟩,c1,c2⟩<;>exact ⟨a1,by simp[St,LRd,sx,b1,b2,b3,b4,b5],c1,c2⟩) ?_ ?_
 ·rintro j t df g hj ⟨rfl,⟨⟨h48,h5,h1,h2,h4,-⟩,hp,hok⟩⟩ h50 h49;obtain ⟨x,hx,htk,hxm⟩:=ak hj;obtain ⟨pa,ra,q1,hlt,hpa,hra⟩:=r3 j x hx;have hry:=r4 (by omega);have q2:=hp.q2;have qn:=hp.qn;have hne1:¬(1=g.nx):=by omega
  have hneq:¬(q=g.nx):=by omega
  have f1:Fr g (g.new (.cells 3 [[.int .i64 0,.nils,.nils]] 0 false false)):=Fr.new _ _;have badn:¬(1<=x.card/\x.card<=4)->¬NR n:=λh hr=>h (hr.card x hxm)
  by_cases c1:x.card<1
  ·simp only[sz,simprocAttr,h2,h48,h50,r1,hlt,q1,hp.h1,hne1,c1];exact bad _ _ (badn (by omega)) (by simp[H.get_put]) (by simp[sx,h2]) (by simp[sx])
  ·by_cases c2:4<x.card
   ·simp only[sz,simprocAttr,h2,h48,h50,r1,hlt,q1,hp.h1,hne1,c1,c2];exact bad _ _ (badn (by omega)) (by simp[H.get_put]) (by simp[sx,h2]) (by simp[sx])
   ·have hall:∀y∈n.nodes.take (j+1),1<=y.card/\y.card<=4:=λy hy=>by
     rw[htk] at hy;rcases List.mem_append.1 hy with h | h
     ·exact hok y h
     ·rw[List.mem_singleton.1 h];omega
    have hcb:∀c∈(S.ac n).take (j+1),1<=c/\c<=4:=λc hc=>by rw[S.ac,<-List.map_take] at hc;obtain ⟨y,hy,rfl⟩:=List.mem_map.1 hc;exact hall y hy
    have hpb:=dK hcb;have hp4:=nI (a:=((S.ac n).take (j+1)).length) (b:=8) (by rw[List.length_take];omega);have h48':(4:Int) ^ 8=65536:=by decide
    have hcj:(S.ac n)[j]?=some x.card:=by simp[S.ac,hx]
    have ets:(S.ac n).take (j+1)=(S.ac n).take j++[x.card]:=by rw[List.take_add_one,hcj];rfl
    have e1:S.ae ((S.ac n).take (j+1))=S.ae ((S.ac n).take j)*x.card:=by rw[ets];exact qD _ _
    have w1:IntKind.wrap .i64 (S.ae ((S.ac n).take j)*x.card)=S.ae ((S.ac n).take (j+1)):=by rw[<-e1,an (by omega) (by omega)]
    have hlj:((S.ac n).take j).length=j:=by rw[List.length_take,ba];omega
    have hXr:(((S.ac n).take j++List.replicate (n.nodes.length - j) 0).map ci)[j]?=some (ci 0):=by rw[List.getElem?_map,List.getElem?_append_right (by omega),hlj,Nat.sub_self,List.getElem?_replicate,if_pos (by omega)];rfl
    have hXl:j<(((S.ac n).take j++List.replicate (n.nodes.length - j) 0).map ci).length:=by simp[ba];omega
    have hXs:((S.ac n).take j++List.replicate (n.nodes.length - j) 0).set j x.card=(S.ac n).take (j+1)++List.replicate (n.nodes.length - (j+1)) 0:=by rw[List.set_append_right _ _ (by omega),hlj,Nat.sub_self,ets,show n.nodes.length - j=(n.nodes.length - (j+1))+1 by omega,List.replicate_succ,List.set_cons_zero,List.append_assoc];rfl
    have hp2:=hp.fr f1;obtain ⟨g2,hg2⟩:∃g2,g2=(g.new (.cells 3 [[.int .i64 0,.nils,.nils]] 0 false false)).put g.nx (.cells 3 [[.int .i64 x.card,pa,ra]] 0 false false):=⟨_,rfl⟩;have f2:Fr g g2:=by rw[hg2];exact MC (by simp) λi hi=>by simp[H.get_put,show ¬i=g.nx by omega]
    have hp3:=hp.fr f2;have f7:g2.h.get g.nx=.cells 3 [[.int .i64 x.card,pa,ra]] 0 false false:=by rw[hg2];simp[H.get_put]
    refine be (P:=λt' df g'=>df=[]/\g'=g2/\St t' ((48,b)::(5,.int .i64 (S.ae ((S.ac n).take j)))::LRd q)/\tat t' 6=.int .i64 (j:Int)/\tat t' 7=.hptr g.nx 0 0 0/\tat t' 50=.int .i64 (j:Int)/\tat t' 49=.int .i64 (n.nodes.length:Int)) ?_ ?_
    ·simp only[sz,simprocAttr,h48,h49,h50,r1,hlt,q1];rw[hg2];simp[St,LRd,sx,h1,h2,h4,h5,h48]
    clear h1 h2 h4 h5 h48 h49 h50;rintro t df g3 ⟨rfl,rfl,⟨h48,h5,h1,h2,h4,-⟩,h6,h7,h50,h49⟩;have hcr:=hp3.hc.rows;simp only[sz,simprocAttr,h4,h6,h7,f7,hp3.hq,hcr,hXl,c1,c2];refine cO (v:=cv) (sz:=1) (n:=1) (i:=j) (off:=0) (x:=.int .i64 x.card) (row':=ci x.card) hp3.hc hXr rfl rfl rfl λg4 hu4 n4 f4=>?_;rw[om,hXs] at hu4;have f74:g4.h.get g.nx=.cells 3 [[.int .i64 x.card,pa,ra]] 0 false false:=by rw[f4 _ λe=>by have:=(hp.hc.lt e).2;omega,f7]
    simp only[sz,simprocAttr,h5,h7,h49,h50,f74,w1];refine ⟨by simp[St,LRd,sx,h1,h2,h4,h48],⟨?_,?_,?_,hu4,?_,q2,by rw[n4];exact hp3.qn,hp.d1,hp.d2,hp.d3⟩,hall⟩
    ·rw[f4 0 λe=>by have:=(hp.hc.lt e).1;omega,hp3.h0]
    ·rw[f4 1 λe=>by have:=(hp.hc.lt e).1;omega,hp3.h1]
    ·rw[f4 q hp.d1,hp3.hq]
    ·exact hp3.hs.fr (by omega) λi hi=>f4 i λe=>hp.d3 i e hi
 ·rintro t df g ⟨rfl,h⟩;exact fin t g h
end
end
end Hx
end
section
namespace Hx
open Go
noncomputable section
def iJ (ps:List Int)(i:Nat):Int:=if i=0 then -1 else ps[i - 1]?.getD 0
theorem uC {ps:List Int}{i:Nat}{p:Int}(h:ps[i]?=some p):iJ ps (i+1)=p:=by unfold iJ;rw[if_neg (by omega),Nat.add_sub_cancel,h];rfl
structure PlI (ps:List Int) (k:Int) (v i:Nat):Prop where
 rng:∀(j:Nat) (p:Int),j<i->ps[j]?=some p->0<=p/\p<k/\p≠(v:Int)
 inc:∀(j:Nat) (p q:Int),j+1<i->ps[j]?=some p->ps[j+1]?=some q->p<q
theorem JX {ps:List Int}{k:Int}{v i:Nat}{p:Int}(h:PlI ps k v i)(hp:ps[i]?=some p)(h1:iJ ps i<p)(h2:p<k)(h3:p≠(v:Int)):PlI ps k v (i+1):=by
 refine ⟨λj q hj hq=>?_,λj a c hj ha hc=>?_⟩
 ·by_cases e:j=i
  ·subst e;rw[hp] at hq;injection hq with hq;subst hq;refine ⟨?_,h2,h3⟩
   by_cases e0:j=0
   ·subst e0;unfold iJ at h1;simp at h1;omega
   ·have hj1:j - 1<ps.length:=by have:=(List.getElem?_eq_some_iff.1 hp).1;omega
    have:=h.rng (j - 1) ps[j - 1] (by omega) (List.getElem?_eq_getElem hj1);unfold iJ at h1;rw[if_neg e0,List.getElem?_eq_getElem hj1,Option.getD_some] at h1;omega
  ·exact h.rng j q (by omega) hq
 ·by_cases e:j+1=i
  ·subst e;rw[hp] at hc;injection hc with hc;subst hc;rw[uC ha] at h1;exact h1
  ·exact h.inc j a c (by omega) ha hc
theorem DG {ps:List Int}{k:Int}{v:Nat}(h:PlI ps k v ps.length):S.bJ ps k=true:=by
 unfold S.bJ;rw[List.all_eq_true];intro i hi;have hi:=List.mem_range.1 hi;have hp:ps[i]?=some ps[i]:=List.getElem?_eq_getElem hi;obtain ⟨r1,r2,-⟩:=h.rng i _ hi hp
 by_cases e:i=0
 ·subst e;simp only[S.bY,hp,Option.getD_some];simp;omega
 ·have hq:ps[i - 1]?=some ps[i - 1]:=List.getElem?_eq_getElem (by omega);have:=h.inc (i - 1) _ ps[i] (by omega) hq (by rw[show i - 1+1=i by omega];exact hp);simp only[S.bY,hp,hq,Option.getD_some];simp;omega
theorem NR.pl {n:Net}(h:NR n){v:Nat}{x:Node}(hx:n.nodes[v]?=some x){i:Nat}{p:Int}(hp:x.parents[i]?=some p):iJ x.parents i<p/\p<n.nodes.length/\p≠(v:Int):=by
 have hm:=List.mem_of_getElem? hx;have hpl:=h.places x hm;have h1:=iK hpl p (List.mem_of_getElem? hp);have hl2:=h.l2;refine ⟨?_,h1.2,λe=>?_⟩
 ·unfold iJ
  split
  ·omega
  ·rename_i e;have hil:=(List.getElem?_eq_some_iff.1 hp).1;have hq:x.parents[i - 1]?=some x.parents[i - 1]:=List.getElem?_eq_getElem (by omega);rw[hq,Option.getD_some];exact xK hpl hq (by rw[show i - 1+1=i by omega];exact hp)
 ·have hv:=(List.getElem?_eq_some_iff.1 hx).1;have ha:=vO.1 h.acyc v (by simp[S.aD];exact hv);have hpar:Par (S.aD n) v=S.aE x.parents:=by simp[Par,S.aD,hx]
  have hb:(Par (S.aD n) v).testBit v=true:=by rw[hpar,Aq λy hy=>by have:=iK hpl y hy;omega,<-e];exact List.mem_of_getElem? hp
  have:=AY (p:=S.aD n) (s:=Par (S.aD n) v) (S.aD n).length v hb;rw[this] at ha;cases ha
section
variable {d:Nat}{n:Net}{b cv sv:AV}{q:Nat}{rows:List (List AV)}
def S.aW (n:Net)(j:Nat)(m:Nat):List Nat:=(S.aD n).take j++m::List.replicate (n.nodes.length - (j+1)) 0
structure Rd1 (n:Net) (x:Node) (b cv sv pa:AV) (q j p9 i:Nat) (t:T) (g:G):Prop where
 st:St t ((80,b)::(81,.int .i64 (n.nodes.length:Int))::(82,.int .i64 (j:Int))::(88,pa)::(8,.int .i64 (j:Int))::(9,.hptr p9 0 0 0)::(10,.int .i64 (iJ x.parents i))::LRd q)
 hp:RdH n b cv sv q (S.ac n) (S.aW n j (S.aE (x.parents.take i))) g
 ok:PlI x.parents n.nodes.length j i
theorem L0 {Q:QT}{t:T}{g:G}{x:Node}{pa:AV}{j p9:Nat}{c9:List AV}(hl:n.nodes.length<=8)(hN:SlR NoP 0 .nil n.nodes b)(hx:n.nodes[j]?=some x)(hpa:SlR NoP 0 .nil x.parents pa)
  (h0:Rd1 n x b cv sv pa q j p9 0 t g) (h90:tat t 90=.int .i64 0) (h89:tat t 89=.int .i64 (x.parents.length:Int)) (e9:g.h.get p9=.cells 3 [c9] 0 false false) (p9s:vid sv≠some p9)
  (bad:∀t g,¬NR n->g.h.get 1=.cells 5 [[.int .i64 0,.nils,.nils,.nils,.nils]] 0 false false->tat t 2=.hptr 1 0 0 0->tat t 3=.int .i64 50->Q .ret t [] g)
  (fin:∀t g',Rd1 n x b cv sv pa q j p9 x.parents.length t g'->g'.h.get p9=.cells 3 [c9] 0 false false->g.nx<=g'.nx->Q (.exit 4) t [] g'):wpL (wp C0 d none mq) Q t [] g:=by
 have hjl:=(List.getElem?_eq_some_iff.1 hx).1;have nl:=λg=>hN.len g;have rp:=λh=>(hpa.tree (h':=h) (Nat.le_refl 0)).ints;have hpsl:(S.aD n).length=n.nodes.length:=by simp[S.aD]
 have hypl:((S.aD n).take j).length=j:=by rw[List.length_take,hpsl];omega
 simp only[mq];refine bk (m:=x.parents.length) hpa.1 (λi t df g'=>df=[]/\Rd1 n x b cv sv pa q j p9 i t g'/\g'.h.get p9=.cells 3 [c9] 0 false false/\g.nx<=g'.nx) ⟨rfl,h0,e9,Nat.le_refl _⟩ h90 h89 (by decide)
  (by rintro i t df g v s (rfl | rfl | rfl) ⟨a1,⟨⟨b1,b2,b3,b4,b5,b6,b7,b8,b9,b10,-⟩,c1,c2⟩,c3⟩<;>exact ⟨a1,⟨by simp[St,LRd,sx,b1,b2,b3,b4,b5,b6,b7,b8,b9,b10],c1,c2⟩,c3⟩) ?_ ?_
 ·rintro i t df g hi ⟨rfl,⟨⟨h80,h81,h82,h88,h8,h9,h10,h1,h2,h4,-⟩,hp,hok⟩,e9,en⟩ h90 h89;obtain ⟨p,hpi,htk,-⟩:=ak hi;have u1:i<(x.parents.map ci).length:=by simpa using hi
  have u2:(x.parents.map ci)[i]?=some (ci p):=by rw[List.getElem?_map,hpi];rfl
  have badn:¬(iJ x.parents i<p/\p<n.nodes.length/\p≠(j:Int))->¬NR n:=λh hr=>h (hr.pl hx hpi);have q2:=hp.q2
  by_cases c1:p<=iJ x.parents i
  ·simp only[sz,simprocAttr,h2,h10,h88,h90,rp,u1,u2,ci,hp.h1,c1];exact bad _ _ (badn (by omega)) (by simp[H.get_put]) (by simp[sx,h2]) (by simp[sx])
  by_cases c2:(n.nodes.length:Int)<=p
  ·simp only[sz,simprocAttr,h2,h4,h10,h88,h90,rp,u1,u2,ci,hp.hq,nl,hp.h1,c1,c2];exact bad _ _ (badn (by omega)) (by simp[H.get_put]) (by simp[sx,h2]) (by simp[sx])
  by_cases c3:p=(j:Int)
  ·subst c3;simp only[sz,simprocAttr,h2,h4,h8,h10,h88,h90,rp,u1,u2,ci,hp.hq,nl,hp.h1,c1,c2,eq_self];exact bad _ _ (badn (by omega)) (by simp[H.get_put]) (by simp[sx,h2]) (by simp[sx])
  have hok2:=JX hok hpi (by omega) (by omega) c3;obtain ⟨p0,-,-⟩:=hok2.rng i p (by omega) hpi;obtain ⟨p,rfl⟩:=Int.eq_ofNat_of_zero_le p0;have hYr:((S.aW n j (S.aE (x.parents.take i))).map cu)[j]?=some (cu (S.aE (x.parents.take i))):=by rw[List.getElem?_map,S.aW,List.getElem?_append_right (by omega),hypl,Nat.sub_self];rfl
  have hYl:j<((S.aW n j (S.aE (x.parents.take i))).map cu).length:=by simp[S.aW,hpsl];omega
  have hYs:(S.aW n j (S.aE (x.parents.take i))).set j (S.aE (x.parents.take (i+1)))=S.aW n j (S.aE (x.parents.take (i+1))):=by simp only[S.aW];rw[List.set_append_right _ _ (by omega),hypl,Nat.sub_self,List.set_cons_zero]
  have em:S.aE (x.parents.take (i+1))=S.aE (x.parents.take i) ||| S.aO p:=by rw[htk,G2];rfl
  have hshl:bA .shl (.int .u64 1) (.int .i64 (p:Int))=.val (.int .u64 (S.aO p:Int)):=lL .i64 p;have hor:=tP (S.aE (x.parents.take i)) (S.aO p) (vB _) (ro p);rw[<-em] at hor;have hsr:=hp.hs.rows;have hls:=uC hpi;refine bM (P:=λt' df g'=>df=[]/\g'=g/\St t' ((80,b)::(81,.int .i64 (n.nodes.length:Int))::(82,.int .i64 (j:Int))::(88,pa)::(8,.int .i64 (j:Int))::(9,.hptr p9 0 0 0)::(10,.int .i64 (iJ x.parents i))::LRd q)/\tat t' 12=.int .i64 (p:Int)/\tat t' 90=.int .i64 (i:Int)/\tat t' 89=.int .i64 (x.parents.length:Int)) ?_ ?_
  ·simp only[sz,simprocAttr,h88,h90,rp,u1,u2,ci];simp[St,LRd,sx,h1,h2,h4,h8,h9,h10,h80,h81,h82,h88,h89]
  clear h1 h2 h4 h8 h9 h10 h80 h81 h82 h88 h89 h90;rintro t df g' ⟨rfl,rfl,⟨h80,h81,h82,h88,h8,h9,h10,h1,h2,h4,-⟩,h12,h90,h89⟩;refine bM (P:=λt' df g''=>df=[]/\g''=g'/\St t' ((80,b)::(81,.int .i64 (n.nodes.length:Int))::(82,.int .i64 (j:Int))::(88,pa)::(8,.int .i64 (j:Int))::(9,.hptr p9 0 0 0)::(10,.int .i64 (iJ x.parents i))::LRd q)/\tat t' 12=.int .i64 (p:Int)/\tat t' 90=.int .i64 (i:Int)/\tat t' 89=.int .i64 (x.parents.length:Int)) ?_ ?_
  ·simp only[sz,simprocAttr,h4,h8,h10,h12,h89,h90,hp.hq,nl,c1,c2,c3];simp[St,LRd,sx,h1,h2,h4,h8,h9,h10,h80,h81,h82,h88]
  clear h1 h2 h4 h8 h9 h10 h12 h80 h81 h82 h88 h89 h90;rintro t df g'' ⟨rfl,rfl,⟨h80,h81,h82,h88,h8,h9,h10,h1,h2,h4,-⟩,h12,h90,h89⟩;simp only[sz,simprocAttr,sf,h4,h8,h12,hp.hq,hsr,hYl,hYr,cu,hshl,hor];refine cO (v:=sv) (sz:=1) (n:=1) (i:=j) (off:=0) (x:=.int .u64 (S.aE (x.parents.take (i+1)):Int)) (row':=cu (S.aE (x.parents.take (i+1)))) (hp.hs.fr (by simp;omega) λi _=>by simp) hYr rfl rfl rfl λg4 hu4 n4 f4=>?_;rw[show (((S.aW n j (S.aE (x.parents.take i))).map cu).set j (cu (S.aE (x.parents.take (i+1)))))=(S.aW n j (S.aE (x.parents.take (i+1)))).map cu from by rw[<-List.map_set,hYs]] at hu4;have f4':∀i,vid sv≠some i->g4.h.get i=g''.h.get i:=λi hi=>by rw[f4 i hi];simp
  have n4':g''.nx<=g4.nx:=by rw[n4];simp;omega
  simp only[sx,sy,↓reduceIte,Nat.reduceEqDiff];refine ⟨?_,⟨⟨?_,⟨?_,?_,?_,?_,?_,q2,?_,hp.d1,hp.d2,hp.d3⟩,hok2⟩,?_,?_⟩,h90,h89⟩
  ·simp only[List.reverse_cons,List.reverse_nil,List.nil_append,List.cons_append];exact aF [false,false,false,false,false,false,false,false,false,true] [] (by simp[All2,ac,ay]) (by decide) (by simp)
  ·rw[hls];simp[St,LRd,sx,h1,h2,h4,h8,h9,h80,h81,h82,h88]
  ·simp only[bumpG_h];rw[f4' 0 λe=>by have:=(hp.hs.lt e).1;omega,hp.h0]
  ·simp only[bumpG_h];rw[f4' 1 λe=>by have:=(hp.hs.lt e).1;omega,hp.h1]
  ·simp only[bumpG_h];rw[f4' q hp.d2,hp.hq]
  ·exact hp.hc.fr (by simp;omega) λi hi=>by simp only[bumpG_h];exact f4' i (hp.d3 i hi)
  ·exact hu4.fr (by simp) λi _=>by simp
  ·have:=hp.qn;simp;omega
  ·rw[f4' p9 p9s,e9]
  ·omega
 ·rintro t df g' ⟨rfl,h,e9,en⟩;exact fin t g' h e9 en
end
end
end Hx
end
