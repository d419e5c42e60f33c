/- A part of the proof: an interpreter over abstract values, shown right against the model, and what the functions of the chapter compute on it. -/
import Derived.Test.YtjddchnjpobmkaaGreatHx11
set_option linter.unusedVariables false
set_option linter.unusedSimpArgs false
set_option linter.unnecessarySimpa false
section
namespace Hx
open Go
section
variable {p:List Nat}
theorem GJ:HW p 0:=⟨fun v _ hb=>by simp at hb,fun v _ hb=>by simp at hb⟩
theorem Jg {q:Nat}(ih:HW p q){j:Nat}(hj:j<64)(hd:Sub (Par p j) q):HW p (q ||| S.aP j):=by
 refine ⟨fun v hv hb=>?_,fun v hv hb=>?_⟩
 ·intro u hu
  rw[rN,Bz hj,Bool.or_eq_true,decide_eq_true_eq] at hb
  rw[rN,Bool.or_eq_true]
  rcases hb with hb | hb
  ·exact .inl (ih.1 v hv hb u hu)
  ·subst hb;exact .inl (hd u hu)
 ·rw[rN,Bz hj,Bool.or_eq_true,decide_eq_true_eq] at hb
  cases hq:q.testBit v
  ·rw[hq] at hb
   simp at hb
   subst hb
   rw[<-Bool.not_eq_true]
   intro hu
   have:=Ew ih.1 hd p.length j hu
   rw[hq] at this;cases this
  ·exact ih.2 v hv hq
theorem A5 {q:Nat}(h:HW p q)(hf:∀v,v<p.length->q.testBit v=true):S.aQ p=true :=
 ux.2 fun v hv=>h.2 v hv (hf v hv)
theorem BK (hp:∀x∈p,x<2 ^ p.length)(h:S.aQ p=true){T:Nat}(hst:∀v,v<p.length->T.testBit v=false->¬Sub (Par p v) T):∀v,v<p.length->T.testBit v=true:=by
 rw[ux] at h
 have none:∀r v,v<p.length->T.testBit v=false->S.up p (Par p v) p.length=r->False:=by
  intro r
  induction r using Nat.strongRecOn with
  | _ r ih =>
   intro v hv hb hr
   have hns:=hst v hv hb
   have:∃u,(Par p v).testBit u=true/\T.testBit u=false:=by
    apply Classical.byContradiction
    intro hno
    apply hns
    intro u hu
    cases hc:T.testBit u
    ·exact absurd ⟨u,hu,hc⟩ hno
    ·rfl
   obtain ⟨u,hu,hub⟩:=this
   have hul:u<p.length:=JL (D2 hp) hu
   have hcl:=Gw hp (s:=Par p v) (D2 hp)
   have hin:(S.up p (Par p v) p.length).testBit u=true:=wP _ u hu
   have hsub:Sub (S.up p (Par p u) p.length) (S.up p (Par p v) p.length):=Ew hcl (hcl u hul hin) _
   have hlt:S.up p (Par p u) p.length<S.up p (Par p v) p.length:=by
    refine Nat.lt_of_le_of_ne (My hsub) fun e=>?_
    have:=h u hul
    rw[e,hin] at this;cases this
   exact ih _ (by omega) u hul hub rfl
 intro v hv
 cases hc:T.testBit v
 ·exact (none _ v hv hc rfl).elim
 ·rfl
end
end Hx
end
section
namespace Hx
open Go
theorem nU:∀a b:List Int,S.ae (a++b)=S.ae a*S.ae b
 | [],b=>by simp[S.ae]
 | x::a,b=>by rw[List.cons_append,cB,cB,nU a b,Int.mul_assoc]
theorem tR:∀{a va:List Int} (b vb:List Int),a.length=va.length->S.ah (a++b) (va++vb)=S.ah a va*S.ae b+S.ah b vb
 | [],[],b,vb,_=>by simp[S.ah]
 | [],_::_,_,_,h=>by simp at h
 | _::_,[],_,_,h=>by simp at h
 | c::a,v::va,b,vb,h=>by
  rw[List.cons_append,List.cons_append,S.ah,S.ah,tR b vb (by simpa using h),nU,Int.add_mul,Int.mul_assoc]
  omega
theorem CQ:∀{cs vs:List Int} (a:Int),(∀c∈cs,1<=c)->InC cs vs->S.aT cs (a*S.ae cs+S.ah cs vs)=a
 | [],[],a,_,_=>by simp[S.aT,S.ae,S.ah]
 | [],_::_,_,_,h=>by cases h
 | _::_,[],_,_,h=>by cases h
 | c::cs,v::vs,a,hc,h=>by
  obtain ⟨⟨h1,h2⟩,h3⟩:=h
  have ih:=CQ (cs:=cs) (vs:=vs) (a*c+v) (fun x hx=>hc x (by simp[hx])) h3
  have e:a*S.ae (c::cs)+S.ah (c::cs) (v::vs)=(a*c+v)*S.ae cs+S.ah cs vs:=by
   rw[cB,S.ah,Int.add_mul,Int.mul_assoc];omega
  rw[e]
  show S.aT cs _ / c=a
  rw[ih,Int.add_comm,Int.add_mul_ediv_right _ _ (by omega),Int.ediv_eq_zero_of_lt h1 h2];omega
theorem Ar:∀{cs vs:List Int} (a:Int) (i:Nat),(∀c∈cs,1<=c)->InC cs vs->i<cs.length->S.aR cs (a*S.ae cs+S.ah cs vs) i=vs[i]?.getD 0
 | [],_,_,_,_,_,hi=>by simp at hi
 | _::_,[],_,_,_,h,_=>by cases h
 | c::cs,v::vs,a,i,hc,h,hi=>by
  obtain ⟨⟨h1,h2⟩,h3⟩:=h
  have hc':∀x∈cs,1<=x:=fun x hx=>hc x (by simp[hx])
  have e:a*S.ae (c::cs)+S.ah (c::cs) (v::vs)=(a*c+v)*S.ae cs+S.ah cs vs:=by
   rw[cB,S.ah,Int.add_mul,Int.mul_assoc];omega
  rw[e]
  cases i with
  | zero =>
   show S.aT cs _ % c=v
   rw[CQ _ hc' h3,Int.add_comm,Int.add_mul_emod_self_right,Int.emod_eq_of_lt h1 h2]
  | succ i =>
   have:=Ar (a*c+v) i hc' h3 (by simpa using hi)
   simpa [S.aR] using this
theorem Eg {cs vs:List Int}(hc:∀c∈cs,1<=c)(h:InC cs vs):S.ak cs (S.ah cs vs)=vs:=by
 have hl:=h.len
 refine List.ext_getElem (by simp[S.ak,hl]) fun i h1 h2=>?_
 have hi:i<cs.length:=by simpa [S.ak] using h1
 have:=Ar 0 i hc h hi
 rw[Int.zero_mul,Int.zero_add,List.getElem?_eq_getElem h2,Option.getD_some] at this
 simp[S.ak,this]
theorem xd {cs:List Int}(hc:∀c∈cs,1<=c)(h:Int):InC cs (S.ak cs h):=by
 refine Bh (by simp[S.ak]) fun i c v h1 h2=>?_
 have hi:=(List.getElem?_eq_some_iff.1 h1).1
 rw[S.ak,List.getElem?_map,List.getElem?_range hi,Option.map_some,Option.some.injEq] at h2
 have hcc:=hc c (List.mem_of_getElem? h1)
 rw[<-h2,S.aR,h1,Option.getD_some]
 exact ⟨Int.emod_nonneg _ (by omega),Int.emod_lt_of_pos _ (by omega)⟩
theorem oG (cs:List Int)(h:Int):(S.ak cs h).length=cs.length:=by simp[S.ak]
theorem ki:∀{cs:List Int},(∀c∈cs,1<=c)->1<=S.ae cs
 | [],_=>by decide
 | c::cs,h=>by
  rw[cB]
  have h1:=h c (by simp)
  have h2:=ki (cs:=cs) fun x hx=>h x (by simp[hx])
  exact Int.le_trans h1 (by have:=Int.mul_le_mul_of_nonneg_left h2 (show 0<=c by omega);omega)
theorem yM:∀(cs:List Int) (n:Nat),S.ah cs (List.replicate n 0)=0
 | [],n=>by cases n<;>rfl
 | _::_,0=>rfl
 | c::cs,n+1=>by rw[List.replicate_succ,S.ah,yM cs n];simp
theorem AQ:∀{cs vs:List Int},cs.length=vs.length->(∀(i:Nat) (c:Int),cs[i]?=some c->vs[i]?.getD 0=c - 1)->S.ah cs vs=S.ae cs - 1
 | [],[],_,_=>by decide
 | [],_::_,h,_=>by simp at h
 | _::_,[],h,_=>by simp at h
 | c::cs,v::vs,hl,h=>by
  have h0:=h 0 c rfl
  have ih:=AQ (cs:=cs) (vs:=vs) (by simpa using hl) fun i x hx=>by have:=h (i+1) x (by simpa using hx);simpa using this
  simp at h0
  rw[S.ah,ih,cB,h0,Int.sub_mul];omega
theorem Jw {cs vs:List Int}(hl:cs.length=vs.length){i:Nat}{x:Int}(hi:vs[i]?=some x)(hm:∀(j:Nat) (c:Int),i<j->cs[j]?=some c->vs[j]?.getD 0=c - 1) :
  S.ah cs (vs.take i++(x+1)::List.replicate (vs.length - (i+1)) 0)=S.ah cs vs+1:=by
 have hil:=(List.getElem?_eq_some_iff.1 hi).1
 obtain ⟨c,hc⟩:∃c,cs[i]?=some c:=⟨_,List.getElem?_eq_getElem (by omega)⟩
 have e1:cs=cs.take i++c::cs.drop (i+1):=by
  have:=List.drop_eq_getElem_cons (l:=cs) (i:=i) (by omega)
  rw[List.getElem?_eq_getElem (by omega),Option.some.injEq] at hc
  rw[<-hc,<-this,List.take_append_drop]
 have e2:vs=vs.take i++x::vs.drop (i+1):=by
  have:=List.drop_eq_getElem_cons (l:=vs) (i:=i) hil
  rw[List.getElem?_eq_getElem hil,Option.some.injEq] at hi
  rw[<-hi,<-this,List.take_append_drop]
 have hlt:(cs.take i).length=(vs.take i).length:=by simp[hl]
 have hmx:S.ah (cs.drop (i+1)) (vs.drop (i+1))=S.ae (cs.drop (i+1)) - 1:=by
  refine AQ (by simp[hl]) fun j d hj=>?_
  rw[List.getElem?_drop] at hj ⊢
  exact hm _ d (by omega) hj
 have h1:S.ah cs vs=S.ah (cs.take i) (vs.take i)*S.ae (c::cs.drop (i+1))+(x*S.ae (cs.drop (i+1))+S.ah (cs.drop (i+1)) (vs.drop (i+1))):=by
  conv=>lhs;rw[e1,e2,tR _ _ hlt,S.ah]
 have h2:S.ah cs (vs.take i++(x+1)::List.replicate (vs.length - (i+1)) 0)=S.ah (cs.take i) (vs.take i)*S.ae (c::cs.drop (i+1))+((x+1)*S.ae (cs.drop (i+1))+0):=by
  conv=>lhs;rw[e1,tR _ _ hlt,S.ah,yM]
 rw[h2,h1,hmx,Int.add_mul]
 omega
end Hx
end
section
namespace Hx
open Go
def S.aa (n:Net):List Int:=n.nodes.map (·.card)
def S.ac (cs ps:List Int):List Int:=ps.map fun p=>cs[p.toNat]?.getD 0
def S.ap (n:Net):List Nat:=n.nodes.map fun x=>S.au x.parents
def S.aD (gr card:Int)(r:List Int):Bool:=decide ((r.length:Int)=card)&&r.all (fun x=>decide (0<=x)&&decide (x<=gr))&&decide (r.sum=gr)
def S.aV (k:Int)(x:Node):Bool:=decide (1<=x.card)&&decide (x.card<=4)&&S.aS x.parents k
def S.bh (n:Net)(x:Node):Bool:=decide ((x.rows.length:Int)=S.ae (S.ac (S.aa n) x.parents))&&x.rows.all (S.aD n.grain x.card)
def S.aA (n:Net):Bool:=decide (1<=n.grain)&&decide (n.grain<=60)&&decide (1<=n.nodes.length)&&decide (n.nodes.length<=8)&&n.nodes.all (S.aV n.nodes.length)&&decide (S.ae (S.aa n)<=1024)&&S.aQ (S.ap n)&&n.nodes.all (S.bh n)
structure NR (n:Net):Prop where
 g1:1<=n.grain
 g2:n.grain<=60
 l1:1<=n.nodes.length
 l2:n.nodes.length<=8
 card:∀x∈n.nodes,1<=x.card/\x.card<=4
 places:∀x∈n.nodes,S.aS x.parents n.nodes.length=true
 worlds:S.ae (S.aa n)<=1024
 acyc:S.aQ (S.ap n)=true
 rows:∀x∈n.nodes,(x.rows.length:Int)=S.ae (S.ac (S.aa n) x.parents)
 row:∀x∈n.nodes,∀r∈x.rows,(r.length:Int)=x.card/\(∀y∈r,0<=y/\y<=n.grain)/\r.sum=n.grain
theorem di {n:Net}:S.aA n=true↔NR n:=by
 simp only[S.aA,S.aV,S.bh,S.aD,Bool.and_eq_true,decide_eq_true_eq,List.all_eq_true]
 constructor
 ·rintro ⟨⟨⟨⟨⟨⟨⟨a,b⟩,c⟩,d⟩,e⟩,f⟩,g⟩,h⟩
  exact ⟨a,b,c,d,fun x hx=>(e x hx).1,fun x hx=>(e x hx).2,f,g,fun x hx=>(h x hx).1,fun x hx r hr=>⟨((h x hx).2 r hr).1.1,((h x hx).2 r hr).1.2,((h x hx).2 r hr).2⟩⟩
 ·rintro ⟨a,b,c,d,e1,e2,f,g,h1,h2⟩
  exact ⟨⟨⟨⟨⟨⟨⟨a,b⟩,c⟩,d⟩,fun x hx=>⟨e1 x hx,e2 x hx⟩⟩,f⟩,g⟩,fun x hx=>⟨h1 x hx,fun r hr=>⟨⟨(h2 x hx r hr).1,(h2 x hx r hr).2.1⟩,(h2 x hx r hr).2.2⟩⟩⟩
theorem dz {l:List Int}{k:Int}(h:S.aS l k=true):∀x∈l,0<=x/\x<k:=by
 intro x hx
 obtain ⟨i,hi,he⟩:=List.mem_iff_getElem.1 hx
 have:=List.all_eq_true.1 h i (List.mem_range.2 hi)
 have e:l[i]?.getD 0=x:=by rw[List.getElem?_eq_getElem hi,he];rfl
 simp only[S.aZ,Bool.and_eq_true,decide_eq_true_eq,e] at this
 omega
theorem sW {l:List Int}{k:Int}(h:S.aS l k=true){i:Nat}{x y:Int}(hx:l[i]?=some x)(hy:l[i+1]?=some y):x<y:=by
 have hi:=(List.getElem?_eq_some_iff.1 hy).1
 have:=List.all_eq_true.1 h (i+1) (List.mem_range.2 hi)
 simp only[S.aZ,Bool.and_eq_true,decide_eq_true_eq,hy,Option.getD_some,Nat.add_sub_cancel,hx] at this
 simp at this
 omega
theorem GE {l:List Int}{k:Int}(h:S.aS l k=true):∀{i j:Nat} {x y:Int},l[i]?=some x->l[j]?=some y->i<j->x<y:=by
 intro i j
 induction j with
 | zero=>intro x y _ _ h;omega
 | succ j ih =>
  intro x y hx hy hij
  have hj:=(List.getElem?_eq_some_iff.1 hy).1
  have hz:l[j]?=some l[j]:=List.getElem?_eq_getElem (by omega)
  have h1:=sW h hz hy
  by_cases e:i=j
  ·subst e
   rw[hx] at hz
   injection hz with hz
   omega
  ·have:=ih hx hz (by omega)
   omega
theorem iQ {l:List Int}{k:Int}(h:S.aS l k=true)(hk:0<=k):(l.length:Int)<=k:=by
 have key:∀(i:Nat) (x:Int),l[i]?=some x->(i:Int)<=x:=by
  intro i
  induction i with
  | zero=>intro x hx;have:=dz h x (List.mem_of_getElem? hx);omega
  | succ i ih =>
   intro x hx
   have hi:=(List.getElem?_eq_some_iff.1 hx).1
   have h1:=ih l[i] (List.getElem?_eq_getElem (by omega))
   have:=sW h (List.getElem?_eq_getElem (show i<l.length by omega)) hx
   omega
 by_cases hl:l.length=0
 ·omega
 ·have h1:=key (l.length - 1) l[l.length - 1] (List.getElem?_eq_getElem (by omega))
  have h2:=dz h _ (List.getElem_mem (show l.length - 1<l.length by omega))
  omega
theorem NR.cs {n:Net}(h:NR n):∀c∈S.aa n,1<=c/\c<=4:=fun c hc=>by
 obtain ⟨x,hx,rfl⟩:=List.mem_map.1 hc
 exact h.card x hx
theorem aL (n:Net):(S.aa n).length=n.nodes.length:=by simp[S.aa]
theorem bC {cs ps:List Int}(hc:∀c∈cs,1<=c/\c<=4)(hp:∀p∈ps,0<=p/\p<cs.length):∀c∈S.ac cs ps,1<=c/\c<=4:=fun c h=>by
 obtain ⟨p,h1,rfl⟩:=List.mem_map.1 h
 have h2:=hp p h1
 rw[List.getElem?_eq_getElem (by omega),Option.getD_some]
 exact hc _ (List.getElem_mem _)
theorem iK {cs ps vals:List Int}(h:InC cs vals)(hp:∀p∈ps,0<=p/\p<cs.length):InC (S.ac cs ps) (S.ac vals ps):=by
 refine Bh (by simp[S.ac]) fun i c v h1 h2=>?_
 simp only[S.ac,List.getElem?_map,Option.map_eq_some_iff] at h1 h2
 obtain ⟨p,h3,rfl⟩:=h1
 obtain ⟨p',h4,rfl⟩:=h2
 rw[h3] at h4
 injection h4 with h4
 subst h4
 have h5:=hp p (List.mem_of_getElem? h3)
 have h6:cs[p.toNat]?=some cs[p.toNat]:=List.getElem?_eq_getElem (by omega)
 obtain ⟨v,h7,h8⟩:=h.get h6
 rw[h6,h7,Option.getD_some,Option.getD_some]
 exact h8
theorem dV (cs a b:List Int):S.ac cs (a++b)=S.ac cs a++S.ac cs b:=by simp[S.ac]
def S.aF (n:Net)(vals:List Int)(v:Nat):Int:=match n.nodes[v]? with
 | none=>1
 | some x=>(x.rows[(S.ah (S.ac (S.aa n) x.parents) (S.ac vals x.parents)).toNat]?.getD [])[(vals[v]?.getD 0).toNat]?.getD 0
def S.aX (n:Net)(vals:List Int):Int:=S.ae ((List.range n.nodes.length).map (S.aF n vals))
theorem NR.pin {n:Net}(h:NR n){x:Node}(hx:x∈n.nodes):∀p∈x.parents,0<=p/\p<(S.aa n).length:=fun p hp=>by rw[aL];exact dz (h.places x hx) p hp
theorem yg {n:Net}(h:NR n){vals:List Int}(hv:InC (S.aa n) vals){v:Nat}{x:Node}(hx:n.nodes[v]?=some x) :
  ∃(i:Nat) (r:List Int) (c y:Int),S.ah (S.ac (S.aa n) x.parents) (S.ac vals x.parents)=(i:Int)/\i<x.rows.length/\x.rows[i]?=some r/\vals[v]?=some c/\0<=c/\c<x.card/\r[c.toNat]?=some y/\S.aF n vals v=y/\0<=y/\y<=n.grain:=by
 have hm:=List.mem_of_getElem? hx
 have hi:=d9 (bC h.cs (h.pin hm)) (iK hv (h.pin hm))
 rw[<-h.rows x hm] at hi
 obtain ⟨i,he⟩:=Int.eq_ofNat_of_zero_le hi.1
 have hil:i<x.rows.length:=by omega
 have hc:(S.aa n)[v]?=some x.card:=by simp[S.aa,hx]
 obtain ⟨c,h1,h2,h3⟩:=hv.get hc
 obtain ⟨r1,r2,-⟩:=h.row x hm x.rows[i] (List.getElem_mem hil)
 have hcl:c.toNat<(x.rows[i]).length:=by omega
 refine ⟨i,x.rows[i],c,(x.rows[i])[c.toNat],he,hil,List.getElem?_eq_getElem hil,h1,h2,h3,List.getElem?_eq_getElem hcl,?_,r2 _ (List.getElem_mem hcl)⟩
 simp only[S.aF,hx,he,h1,Int.toNat_natCast,List.getElem?_eq_getElem hil,Option.getD_some,List.getElem?_eq_getElem hcl]
theorem tZ:∀{l:List Int},(∀x∈l,0<=x/\x<=60)->0<=S.ae l/\S.ae l<=60 ^ l.length
 | [],_=>by decide
 | x::l,h=>by
  have h1:=tZ (l:=l) fun y hy=>h y (by simp[hy])
  have h2:=h x (by simp)
  rw[cB,List.length_cons,Int.pow_succ,Int.mul_comm x]
  refine ⟨Int.mul_nonneg h1.1 h2.1,Int.le_trans (Int.mul_le_mul_of_nonneg_left h2.2 h1.1) (Int.mul_le_mul_of_nonneg_right h1.2 (by decide))⟩
theorem Nm {k:Nat}(h:k<=8):(60:Int) ^ k<=167961600000000:=by
 have hk:k=0\/k=1\/k=2\/k=3\/k=4\/k=5\/k=6\/k=7\/k=8:=by omega
 rcases hk with rfl | rfl | rfl | rfl | rfl | rfl | rfl | rfl | rfl<;>decide
theorem Hk {n:Net}(h:NR n){vals:List Int}(hv:InC (S.aa n) vals){v:Nat}(hi:v<n.nodes.length):0<=S.aF n vals v/\S.aF n vals v<=60:=by
 obtain ⟨i,r,c,y,-,-,-,-,-,-,-,e,a,b⟩:=yg h hv (List.getElem?_eq_getElem hi)
 have:=h.g2
 omega
theorem mO {n:Net}(h:NR n){vals:List Int}(hv:InC (S.aa n) vals){j:Nat}(hj:j<=n.nodes.length):0<=S.ae ((List.range j).map (S.aF n vals))/\S.ae ((List.range j).map (S.aF n vals))<=167961600000000:=by
 have h1:=tZ (l:=(List.range j).map (S.aF n vals)) fun x hx=>by
  obtain ⟨i,hi,rfl⟩:=List.mem_map.1 hx
  exact Hk h hv (by have:=List.mem_range.1 hi;omega)
 have h2:=Nm (k:=((List.range j).map (S.aF n vals)).length) (by have:=h.l2;simp;omega)
 omega
theorem th (n:Net)(vals:List Int)(j:Nat):S.ae ((List.range (j+1)).map (S.aF n vals))=S.ae ((List.range j).map (S.aF n vals))*S.aF n vals j:=by
 rw[List.range_succ,List.map_append,List.map_singleton,rh]
def S.am (n:Net)(p:Nat->Bool):Nat->Int
 | 0=>0
 | j+1=>S.am n p j+if p j then S.aX n (S.ak (S.aa n) (j:Int)) else 0
theorem zu {n:Net}(h:NR n){vals:List Int}(hv:InC (S.aa n) vals):0<=S.aX n vals/\S.aX n vals<=167961600000000:=mO h hv (Nat.le_refl _)
theorem gA {n:Net}(h:NR n)(p:Nat->Bool):∀j:Nat,0<=S.am n p j/\S.am n p j<=167961600000000*j
 | 0=>by simp[S.am]
 | j+1=>by
  have ih:=gA h p j
  have hw:=zu h (xd (fun c hc=>(h.cs c hc).1) (j:Int))
  rw[S.am]
  split<;>omega
theorem xF {n:Net}{p q:Nat->Bool}:∀{j:Nat},(∀i,i<j->p i=q i)->S.am n p j=S.am n q j
 | 0,_=>rfl
 | j+1,h=>by rw[S.am,S.am,xF fun i hi=>h i (by omega),h j (by omega)]
def S.ax (n:Net):Nat:=(S.ae (S.aa n)).toNat
def S.aC (n:Net)(e:List Int):Int:=S.am n (fun w=>S.aI (S.ak (S.aa n) (w:Int)) e) (S.ax n)
theorem NR.wl {n:Net}(h:NR n):1<=S.ax n/\S.ax n<=1024/\((S.ax n:Nat):Int)=S.ae (S.aa n):=by
 have h1:=ki fun c hc=>(h.cs c hc).1
 have h2:=h.worlds
 unfold S.ax
 omega
theorem wc {n:Net}(h:NR n)(e:List Int):0<=S.aC n e/\S.aC n e<=171992678400000000:=by
 have h1:=gA h (fun w=>S.aI (S.ak (S.aa n) (w:Int)) e) (S.ax n)
 have h2:=h.wl
 unfold S.aC
 omega
def S.aB (n:Net)(e:List Int):Bool:=decide (e.length=n.nodes.length)&&(List.range e.length).all fun v=>decide (-1<=e[v]?.getD 0)&&decide (e[v]?.getD 0<(S.aa n)[v]?.getD 0)
def S.an (n:Net)(e:List Int):Int:=if S.aA n then (if S.aB n e then 0 else 2) else 50
end Hx
end
section
namespace Hx
open Go
section
variable {b card:Nat}
def S.ay (b card i x:Nat):Nat:=(i / b*card+x)*b+i % b
def S.aN (b card p:Nat):Nat:=p / (b*card)*b+p % b
def S.a9 (b card p:Nat):Nat:=p / b % card
theorem Gr (hb:0<b){i x:Nat}(hx:x<card):S.aN b card (S.ay b card i x)=i/\S.a9 b card (S.ay b card i x)=x:=by
 have hm:=Nat.mod_lt i hb
 have h1:S.ay b card i x / b=i / b*card+x:=by
  unfold S.ay
  rw[Nat.add_comm,Nat.add_mul_div_right _ _ hb,Nat.div_eq_of_lt hm,Nat.zero_add]
 have h2:S.ay b card i x % b=i % b:=by
  unfold S.ay
  rw[Nat.add_comm,Nat.add_mul_mod_self_right,Nat.mod_mod]
 have h3:(i / b*card+x) / card=i / b:=by rw[Nat.add_comm,Nat.add_mul_div_right _ _ (by omega),Nat.div_eq_of_lt hx,Nat.zero_add]
 have h4:(i / b*card+x) % card=x:=by rw[Nat.add_comm,Nat.add_mul_mod_self_right,Nat.mod_eq_of_lt hx]
 refine ⟨?_,?_⟩
 ·unfold S.aN
  rw[<-Nat.div_div_eq_div_mul,h1,h2,h3,Nat.mul_comm]
  exact Nat.div_add_mod i b
 ·unfold S.a9
  rw[h1,h4]
theorem MU (hb:0<b)(p:Nat):S.ay b card (S.aN b card p) (S.a9 b card p)=p:=by
 have hm:=Nat.mod_lt p hb
 have h1:S.aN b card p / b=p / (b*card):=by
  unfold S.aN
  rw[Nat.add_comm,Nat.add_mul_div_right _ _ hb,Nat.div_eq_of_lt hm,Nat.zero_add]
 have h2:S.aN b card p % b=p % b:=by
  unfold S.aN
  rw[Nat.add_comm,Nat.add_mul_mod_self_right,Nat.mod_mod]
 unfold S.ay S.a9
 rw[h1,h2,<-Nat.div_div_eq_div_mul,Nat.mul_comm (p / b / card) card,Nat.div_add_mod,Nat.mul_comm]
 exact Nat.div_add_mod p b
theorem Gp (hc:0<card)(p:Nat):S.a9 b card p<card:=Nat.mod_lt _ hc
theorem Kn {A p:Nat}(hb:0<b)(hp:p<A*b*card):S.aN b card p<A*b:=by
 have h1:p / (b*card)<A:=Nat.div_lt_of_lt_mul (by rw[Nat.mul_comm (b*card),<-Nat.mul_assoc];exact hp)
 have hm:=Nat.mod_lt p hb
 unfold S.aN
 have:(p / (b*card)+1)*b<=A*b:=Nat.mul_le_mul_right _ h1
 rw[Nat.add_mul,Nat.one_mul] at this
 omega
theorem A_ {A i x:Nat}(hb:0<b)(hi:i<A*b)(hx:x<card):S.ay b card i x<A*b*card:=by
 have h1:i / b<A:=Nat.div_lt_of_lt_mul (by rw[Nat.mul_comm];exact hi)
 have hm:=Nat.mod_lt i hb
 unfold S.ay
 have h2:(i / b+1)*card<=A*card:=Nat.mul_le_mul_right _ h1
 rw[Nat.add_mul,Nat.one_mul] at h2
 have h3:(i / b*card+x+1)*b<=A*card*b:=Nat.mul_le_mul_right _ (by omega)
 rw[Nat.add_mul (i / b*card+x),Nat.one_mul,Nat.mul_assoc A,Nat.mul_comm card b,<-Nat.mul_assoc] at h3
 omega
def S.aH (rows:List (List Int))(b card t:Nat):List Int:=(List.range (rows.length*card)).map fun p=>if S.aN b card p*card+S.a9 b card p<t then (rows[S.aN b card p]?.getD [])[S.a9 b card p]?.getD 0 else 0
def S.bu (rows:List (List Int))(b card:Nat):List Int:=(List.range (rows.length*card)).map fun p=>(rows[S.aN b card p]?.getD [])[S.a9 b card p]?.getD 0
theorem Cg (rows:List (List Int))(b card t:Nat):(S.aH rows b card t).length=rows.length*card:=by simp[S.aH]
theorem Hi (rows:List (List Int))(b card:Nat):S.aH rows b card 0=List.replicate (rows.length*card) 0:=by
 refine List.ext_getElem (by simp[S.aH]) fun i h1 h2=>?_
 simp[S.aH]
theorem Hs {rows:List (List Int)}{A i x:Nat}{r:List Int}{w:Int}(hb:0<b)(hA:rows.length=A*b)(hr:rows[i]?=some r)(hx:x<card)(hw:r[x]?=some w) :
  (S.aH rows b card (i*card+x)).set (S.ay b card i x) w=S.aH rows b card (i*card+x+1):=by
 have hi:=(List.getElem?_eq_some_iff.1 hr).1
 refine List.ext_getElem (by simp[S.aH]) fun p h1 h2=>?_
 have hp:p<rows.length*card:=by simpa [S.aH] using h2
 obtain ⟨q1,q2⟩:=Gr hb (i:=i) hx
 rw[List.getElem_set]
 by_cases e:S.ay b card i x=p
 ·subst e
  rw[if_pos rfl]
  simp only[S.aH,List.getElem_map,List.getElem_range,q1,q2]
  rw[if_pos (by omega),hr,Option.getD_some,hw,Option.getD_some]
 ·rw[if_neg e]
  simp only[S.aH,List.getElem_map,List.getElem_range]
  have hf:=Gp (b:=b) (card:=card) (by omega) p
  have hne:S.aN b card p*card+S.a9 b card p≠i*card+x:=fun h=>e (by
   have e1:S.aN b card p=i:=by
    have h1:(S.aN b card p*card+S.a9 b card p) / card=S.aN b card p:=by rw[Nat.add_comm,Nat.add_mul_div_right _ _ (by omega),Nat.div_eq_of_lt hf,Nat.zero_add]
    have h2:(i*card+x) / card=i:=by rw[Nat.add_comm,Nat.add_mul_div_right _ _ (by omega),Nat.div_eq_of_lt hx,Nat.zero_add]
    rw[<-h1,h,h2]
   have e2:S.a9 b card p=x:=by rw[e1] at h;omega
   rw[<-MU hb p (card:=card),e1,e2])
  by_cases h:S.aN b card p*card+S.a9 b card p<i*card+x
  ·rw[if_pos h,if_pos (by omega)]
  ·rw[if_neg h,if_neg (by omega)]
theorem Ik {rows:List (List Int)}{A:Nat}(hb:0<b)(hA:rows.length=A*b):S.aH rows b card (rows.length*card)=S.bu rows b card:=by
 unfold S.aH S.bu
 refine List.map_congr_left fun p hp=>?_
 have hp:=List.mem_range.1 hp
 have hc:0<card:=Nat.pos_of_ne_zero fun e=>by subst e;simp at hp
 have h1:=Kn (A:=A) hb (by rw[<-hA];exact hp)
 have h2:=Gp (b:=b) hc p
 rw[if_pos]
 rw[<-hA] at h1
 have:(S.aN b card p+1)*card<=rows.length*card:=Nat.mul_le_mul_right _ h1
 rw[Nat.add_mul,Nat.one_mul] at this
 omega
theorem Lw {rows:List (List Int)}{A i x:Nat}(hb:0<b)(hA:rows.length=A*b)(hi:i<rows.length)(hx:x<card):(S.bu rows b card)[S.ay b card i x]?=some ((rows[i]?.getD [])[x]?.getD 0):=by
 obtain ⟨q1,q2⟩:=Gr hb (i:=i) hx
 have hp:=A_ (A:=A) (i:=i) hb (by rw[<-hA];exact hi) hx
 simp only[S.bu,List.getElem?_map]
 rw[List.getElem?_range (by rw[hA];exact hp)]
 simp only[Option.map_some,q1,q2]
end
def S.aw (ps:List Int)(k:Nat)(v:Int):List Int:=ps.take k++v::ps.drop k
theorem MF {n:Net}(h:NR n){vals:List Int}(hv:InC (S.aa n) vals){v:Nat}{x:Node}(hx:n.nodes[v]?=some x)(k:Nat) :
  ∃p:Nat,S.ah (S.ac (S.aa n) (S.aw x.parents k (v:Int))) (S.ac vals (S.aw x.parents k (v:Int)))=(p:Int)/\p<x.rows.length*x.card.toNat /\
   (S.bu x.rows (S.ae (S.ac (S.aa n) (x.parents.drop k))).toNat x.card.toNat)[p]?=some (S.aF n vals v):=by
 have hm:=List.mem_of_getElem? hx
 obtain ⟨i,r,c,y,e1,e2,e3,e4,e5,e6,e7,e8,-,-⟩:=yg h hv hx
 have hpin:=h.pin hm
 have hcb:=bC h.cs hpin
 have hin:=iK hv hpin
 have hcx:(S.aa n)[v]?=some x.card:=by simp[S.aa,hx]
 have ps:x.parents=x.parents.take k++x.parents.drop k:=(List.take_append_drop k _).symm
 have hd1:∀c∈S.ac (S.aa n) (x.parents.drop k),1<=c/\c<=4:=bC h.cs fun p hp=>hpin p (List.mem_of_mem_drop hp)
 have hd2:InC (S.ac (S.aa n) (x.parents.drop k)) (S.ac vals (x.parents.drop k)):=iK hv fun p hp=>hpin p (List.mem_of_mem_drop hp)
 have ht1:∀c∈S.ac (S.aa n) (x.parents.take k),1<=c/\c<=4:=bC h.cs fun p hp=>hpin p (List.mem_of_mem_take hp)
 have ht2:InC (S.ac (S.aa n) (x.parents.take k)) (S.ac vals (x.parents.take k)):=iK hv fun p hp=>hpin p (List.mem_of_mem_take hp)
 obtain ⟨b1,b2⟩:=d9 hd1 hd2
 obtain ⟨a1,a2⟩:=d9 ht1 ht2
 have hlt:(S.ac (S.aa n) (x.parents.take k)).length=(S.ac vals (x.parents.take k)).length:=by simp[S.ac]
 have ei:S.ah (S.ac (S.aa n) x.parents) (S.ac vals x.parents)=S.ah (S.ac (S.aa n) (x.parents.take k)) (S.ac vals (x.parents.take k))*S.ae (S.ac (S.aa n) (x.parents.drop k))+S.ah (S.ac (S.aa n) (x.parents.drop k)) (S.ac vals (x.parents.drop k)):=by
  conv=>lhs;rw[ps,dV,dV,tR _ _ hlt]
 have er:(x.rows.length:Int)=S.ae (S.ac (S.aa n) (x.parents.take k))*S.ae (S.ac (S.aa n) (x.parents.drop k)):=by
  rw[h.rows x hm]
  conv=>lhs;rw[ps,dV,nU]
 have ef:S.ah (S.ac (S.aa n) (S.aw x.parents k (v:Int))) (S.ac vals (S.aw x.parents k (v:Int))) =
   S.ah (S.ac (S.aa n) (x.parents.take k)) (S.ac vals (x.parents.take k))*(x.card*S.ae (S.ac (S.aa n) (x.parents.drop k)))+(c*S.ae (S.ac (S.aa n) (x.parents.drop k))+S.ah (S.ac (S.aa n) (x.parents.drop k)) (S.ac vals (x.parents.drop k))):=by
  rw[S.aw,dV,dV,tR _ _ hlt]
  have:S.ac (S.aa n) ((v:Int)::x.parents.drop k)=x.card::S.ac (S.aa n) (x.parents.drop k):=by simp[S.ac,hcx]
  have h2:S.ac vals ((v:Int)::x.parents.drop k)=c::S.ac vals (x.parents.drop k):=by simp[S.ac,e4]
  rw[this,h2,cB,S.ah]
 have hpp:=ki fun c hc=>(hd1 c hc).1
 generalize S.ae (S.ac (S.aa n) (x.parents.drop k))=B at *
 generalize S.ae (S.ac (S.aa n) (x.parents.take k))=A at *
 generalize S.ah (S.ac (S.aa n) (x.parents.drop k)) (S.ac vals (x.parents.drop k))=q at *
 generalize S.ah (S.ac (S.aa n) (x.parents.take k)) (S.ac vals (x.parents.take k))=a at *
 obtain ⟨B,rfl⟩:=Int.eq_ofNat_of_zero_le (show 0<=B by omega)
 obtain ⟨A,rfl⟩:=Int.eq_ofNat_of_zero_le (show 0<=A by omega)
 obtain ⟨q,rfl⟩:=Int.eq_ofNat_of_zero_le b1
 obtain ⟨a,rfl⟩:=Int.eq_ofNat_of_zero_le a1
 obtain ⟨c,rfl⟩:=Int.eq_ofNat_of_zero_le e5
 obtain ⟨C,hC⟩:=Int.eq_ofNat_of_zero_le (show 0<=x.card by omega)
 rw[hC] at ef e6 ⊢
 have hB:0<B:=by omega
 have hq:q<B:=by omega
 have hc:c<C:=by omega
 rw[e1] at ei
 have hi:i=a*B+q:=by
  have:(i:Int)=((a*B+q:Nat):Int):=by rw[ei,Int.natCast_add,Int.natCast_mul]
  omega
 have hiB:i / B=a:=by rw[hi,Nat.add_comm,Nat.add_mul_div_right _ _ hB,Nat.div_eq_of_lt hq,Nat.zero_add]
 have hiM:i % B=q:=by rw[hi,Nat.add_comm,Nat.add_mul_mod_self_right,Nat.mod_eq_of_lt hq]
 have hrl:x.rows.length=A*B:=by
  have:((x.rows.length:Nat):Int)=((A*B:Nat):Int):=by rw[er,Int.natCast_mul]
  omega
 refine ⟨S.ay B C i c,?_,?_,?_⟩
 ·rw[ef,S.ay,hiB,hiM,Nat.add_mul,Int.natCast_add,Int.natCast_add,Int.natCast_mul,Int.natCast_mul,Int.natCast_mul,Int.mul_assoc]
  omega
 ·rw[Int.toNat_natCast,hrl]
  exact A_ hB (by rw[<-hrl];exact e2) hc
 ·rw[Int.toNat_natCast,Int.toNat_natCast,Lw hB hrl e2 hc,e3,Option.getD_some]
  rw[Int.toNat_natCast] at e7
  rw[e7,e8];rfl
end Hx
end
section
namespace Hx
open Go
theorem A8 {vals e:List Int}:S.aI vals e=true↔∀i,i<e.length->e[i]?.getD 0<0\/e[i]?.getD 0=vals[i]?.getD 0:=by
 simp only[S.aI,List.all_eq_true,List.mem_range,S.bo,Bool.or_eq_true,decide_eq_true_eq]
end Hx
end
section
namespace Hx
open Go
noncomputable section
abbrev Bv:Type:=UInt8×UInt8×List UInt8
abbrev sX:Type:=UInt8×List Bv×List UInt8
abbrev jO:Type:=UInt8×UInt8×UInt8×Int
theorem Ah {P:Nat->Prop}{k:Nat}{h:H}{x:Bv}{cs:List AV}:Rp.rp P k h x cs↔∃a,cs=[u8v x.1,u8v x.2.1,a]/\SlR P k h x.2.2 a:=by
 constructor
 ·rintro ⟨c1,c2,rfl,h1,c3,c4,rfl,h2,⟨a,rfl,h4⟩⟩
  rw[dS.1 h1,dS.1 h2];exact ⟨a,rfl,h4⟩
 ·rintro ⟨a,rfl,h4⟩
  exact ⟨[_],[_,a],rfl,dS.2 rfl,[_],[a],rfl,dS.2 rfl,⟨a,rfl,h4⟩⟩
theorem uV {P:Nat->Prop}{k:Nat}{h:H}{x:sX}{cs:List AV}:Rp.rp P k h x cs↔∃a b,cs=[u8v x.1,a,b]/\SlR P k h x.2.1 a/\SlR P k h x.2.2 b:=by
 constructor
 ·rintro ⟨c1,c2,rfl,h1,c3,c4,rfl,⟨a,rfl,ha⟩,⟨b,rfl,hb⟩⟩
  rw[dS.1 h1];exact ⟨a,b,rfl,ha,hb⟩
 ·rintro ⟨a,b,rfl,ha,hb⟩
  exact ⟨[_],[a,b],rfl,dS.2 rfl,[a],[b],rfl,⟨a,rfl,ha⟩,⟨b,rfl,hb⟩⟩
theorem x_ {P:Nat->Prop}{k:Nat}{h:H}{x:jO}{cs:List AV}:Rp.rp P k h x cs↔cs=[u8v x.1,u8v x.2.1,u8v x.2.2.1,.int .i64 x.2.2.2]:=by
 constructor
 ·rintro ⟨c1,c2,rfl,h1,c3,c4,rfl,h2,c5,c6,rfl,h3,h4⟩
  rw[dS.1 h1,dS.1 h2,dS.1 h3,aI.1 h4];rfl
 ·rintro rfl
  exact ⟨[_],[_,_,_],rfl,dS.2 rfl,[_],[_,_],rfl,dS.2 rfl,[_],[_],rfl,dS.2 rfl,aI.2 rfl⟩
theorem HO {d k k2:Nat}{g:G}{P P2:Nat->Prop}{v w:AV}{l p:List Int}(hd:0<d)(hv:SlR P k g.h l v)(hw:SlR P2 k2 g.h p w)(hp:p.length<1073741824)(hin:∀x∈p,0<=x/\x<l.length) :
  ∃r,ah C0 d N.aW [v,w] g=.val r/\IT 0 (S.ac l p) r:=by
 obtain ⟨v',e1,r1⟩:=bH hv d
 obtain ⟨w',e2,r2⟩:=bH hw d
 rw[zd]
 refine aN B1 (xs:=[v',w']) (by simp only[aB,e1,e2]) (by simp[sZ]) (aK _) (by decide) hd ?_
 simp only[sz,simprocAttr,sZ]
 have n2:=fun g=>(r2 .nil).len g
 have ra:∀h',af h' 1 v'=some (l.map ci):=fun h'=>(r1 h').ints
 have rb:∀h',af h' 1 w'=some (p.map ci):=fun h'=>(r2 h').ints
 refine l9 (v:=w') (m:=p.length) (by omega) n2 (fun j t df g=>df=[]/\St t [(0,v')]/\∃u,tat t 5=u/\Own g 0 u 1 ((S.ac l (p.take j)).map ci)) ⟨rfl,by simp[St,sx],_,rfl,.inl ⟨by simp[sx],by simp[S.ac]⟩⟩ (by simp[sx]) (by simp[sx]) (by decide)
  (by rintro j t df g v s (rfl | rfl | rfl | rfl | rfl | rfl | rfl)<;>simp[sx,St]) ?_ ?_
 ·rintro j t df g1 hj ⟨rfl,⟨h0,-⟩,u,h5,hu⟩ h6 h1
  obtain ⟨x,hx,htk,hm⟩:=ae hj
  obtain ⟨hx0,hxl⟩:=hin x hm
  obtain ⟨n,rfl⟩:=Int.eq_ofNat_of_zero_le hx0
  have hn:n<l.length:=by omega
  simp only[sz,simprocAttr,ra,rb,h0,h1,h5,h6,hx,hj,hn,List.length_map,List.getElem?_map,Option.map_some,ci,List.getElem?_eq_getElem hn]
  refine ba (new:=[ci l[n]]) (hu.step (Fr.new _ _)) (by simp[sx,sy,ci]) (by simp) (by simp[aR,S.ac];omega) fun v2 g2 hv2 n2 f2 _ l2=>?_
  simp only[sz,simprocAttr,h0,h1,h6,St]
  refine ⟨_,rfl,?_⟩
  rw[htk]
  simpa [hn,ci,S.ac] using hv2
 ·rintro t df g1 ⟨rfl,⟨h0,-⟩,u,h5,hu⟩ -
  rw[List.take_length] at hu
  simp only[sz,simprocAttr,rL,h5]
  exact ⟨_,hu.ints (by simp[S.ac];omega)⟩
theorem vq {d k:Nat}{g:G}{P:Nat->Prop}{v:AV}{n:Net}(hd:0<d)(hm:Agg n P k g.h v)(hn:n.nodes.length<1073741824) :
  ∃r,ah C0 d N.aF [v] g=.val r/\IT 0 (S.aa n) r:=by
 obtain ⟨v',e,cs,rfl,hc⟩:=jD (bE n) (by decide) d hm
 obtain ⟨b,rfl,hN⟩:=dh.1 hc
 obtain ⟨rows,r1,r2,r3,r4⟩:=hN.all
 have r1:∀h',af h' 3 b=some rows:=r1
 rw[u7]
 refine aN xW (xs:=[.agg [.int .i64 n.grain,b]]) (by simp only[aB,e]) (by simp[m6]) (aK _) (by decide) hd ?_
 simp only[sz,simprocAttr,m6,pi,nw]
 refine bh n.nodes.length (by omega) (fun j t df g=>df=[]/\tat t 1=.hptr 0 0 0 0/\g.h.get 0=.cells 2 [[.int .i64 n.grain,b]] 0 false false/\1<=g.nx/\∃u,tat t 3=u/\Own g 1 u 1 (((n.nodes.take j).map (·.card)).map ci))
  ⟨rfl,by simp[sx],by simp[sx],by simp[sx],_,rfl,.inl ⟨by simp[sx],rfl⟩⟩ (by simp[sx]) (by decide)
  (by rintro j t df g v s (rfl | rfl | rfl)<;>simp[sx]) ?_ ?_ ?_
 ·rintro j t df g hj ⟨rfl,h1,hg,hnx,u,h3,hu⟩ h4
  simp only[sz,simprocAttr,h1,h4,hg,hN.len]
  exact ⟨hnx,u,h3,hu⟩
 ·rintro j t df g hj ⟨rfl,h1,hg,hnx,u,h3,hu⟩ h4
  obtain ⟨x,hx,htk,hm⟩:=ae hj
  obtain ⟨row,q1,q2⟩:=r3 j x hx
  obtain ⟨a',b',rfl,ha',-⟩:=bM.1 q2
  have hlt:j<rows.length:=by omega
  have hry:=r4 (by omega)
  simp only[sz,simprocAttr,h1,h3,h4,hg,r1,hlt,q1,hry]
  refine ba (new:=[ci x.card]) (hu.step (Fr.new _ _)) (by simp[sx,sy,ci]) (by simp) (by simp[aR];omega) fun v2 g2 hv2 n2 f2 _ l2=>?_
  simp only[sz,simprocAttr,h1,h4]
  refine ⟨?_,?_,_,rfl,?_⟩
  ·rw[f2 0 (by simp) (fun e=>by have:=(hu.lt e).1;omega),G.new_h,aD _ _ _ (by omega),hg]
  ·simp at n2;omega
  ·rw[htk]
   simpa [ci] using hv2
 ·rintro t df g ⟨rfl,h1,hg,hnx,u,h3,hu⟩
  rw[List.take_length] at hu
  simp only[sz,simprocAttr,nF,h3]
  exact ⟨_,hu.ints (by simp;omega)⟩
theorem IY {d k:Nat}{g:G}{P:Nat->Prop}{v:AV}{n:Net}(hd:0<d)(hm:Agg n P k g.h v)(hn:n.nodes.length<1073741824)(hp:∀x∈n.nodes,∀y∈x.parents,0<=y/\y<18446744073709551616) :
  ∃r,ah C0 d N.bN [v] g=.val r/\UT 0 (S.ap n) r:=by
 obtain ⟨v',e,cs,rfl,hc⟩:=jD (bE n) (by decide) d hm
 obtain ⟨b,rfl,hN⟩:=dh.1 hc
 obtain ⟨rows,r1,r2,r3,r4⟩:=hN.all
 have r1:∀h',af h' 3 b=some rows:=r1
 rw[pH]
 refine aN rE (xs:=[.agg [.int .i64 n.grain,b]]) (by simp only[aB,e]) (by simp[gt]) (aK _) (by decide) hd ?_
 simp only[sz,simprocAttr,gt,jd]
 refine bh n.nodes.length (by omega) (fun j t df g=>df=[]/\tat t 1=.hptr 0 0 0 0/\g.h.get 0=.cells 2 [[.int .i64 n.grain,b]] 0 false false/\1<=g.nx/\∃u,tat t 3=u/\Own g 1 u 1 (((n.nodes.take j).map fun x=>S.au x.parents).map cu))
  ⟨rfl,by simp[sx],by simp[sx],by simp[sx],_,rfl,.inl ⟨by simp[sx],rfl⟩⟩ (by simp[sx]) (by decide)
  (by rintro j t df g v s (rfl | rfl | rfl)<;>simp[sx]) ?_ ?_ ?_
 ·rintro j t df g hj ⟨rfl,h1,hg,hnx,u,h3,hu⟩ h4
  simp only[sz,simprocAttr,h1,h4,hg,hN.len]
  exact ⟨hnx,u,h3,hu⟩
 ·rintro j t df g hj ⟨rfl,h1,hg,hnx,u,h3,hu⟩ h4
  obtain ⟨x,hx,htk,hm⟩:=ae hj
  obtain ⟨row,q1,q2⟩:=r3 j x hx
  obtain ⟨a',b',rfl,ha',-⟩:=bM.1 q2
  have hlt:j<rows.length:=by omega
  have hry:=r4 (by omega)
  simp only[sz,simprocAttr]
  refine bh x.parents.length ha'.1 (fun i t df g'=>df=[]/\St t [(1,.hptr 0 0 0 0),(4,.int .i64 j),(3,u),(5,.int .u64 (S.au (x.parents.take i):Int))]/\g'=g)
   ⟨rfl,by simp[sx,St,S.au,h1,h3,h4],rfl⟩ (by simp[sx]) (by decide)
   (by rintro j t df g v s (rfl | rfl | rfl)<;>simp[sx,St]) ?_ ?_ ?_
  ·rintro i t df g' hi ⟨rfl,⟨h1,h4,h3,h5,-⟩,rfl⟩ h6
   simp only[sz,simprocAttr,h1,h3,h4,h5,h6,hg,r1,hlt,q1,hry,ha'.len,St]
  ·rintro i t df g' hi ⟨rfl,⟨h1,h4,h3,h5,-⟩,rfl⟩ h6
   obtain ⟨y,hy,htk2,hm2⟩:=ae hi
   obtain ⟨hy0,hy1⟩:=hp x hm y hm2
   obtain ⟨n,rfl⟩:=Int.eq_ofNat_of_zero_le hy0
   simp only[sz,simprocAttr,h1,h3,h4,h5,h6,hg,r1,hlt,q1,hry,(ha'.tree (h':=g'.h) (Nat.le_refl _)).ints,hi,hy,List.length_map,List.getElem?_map,Option.map_some,ci,mq hy0 hy1,qQ,BA _ _ (q_ _) (uS _),St]
   rw[htk2,zM];rfl
  ·rintro t df g' ⟨rfl,⟨h1,h4,h3,h5,-⟩,rfl⟩
   rw[List.take_length] at h5
   simp only[sz,simprocAttr,iv,h3,h5]
   refine ba (new:=[cu (S.au x.parents)]) (hu.step (Fr.new _ _)) (by simp[sx,sy,cu]) (by simp) (by simp[aR];omega) fun v2 g2 hv2 n2 f2 _ l2=>?_
   simp only[sz,simprocAttr,h1,h4]
   refine ⟨?_,?_,_,rfl,?_⟩
   ·rw[f2 0 (by simp) (fun e=>by have:=(hu.lt e).1;omega),G.new_h,aD _ _ _ (by omega),hg]
   ·simp at n2;omega
   ·rw[htk]
    simpa [cu] using hv2
 ·rintro t df g ⟨rfl,h1,hg,hnx,u,h3,hu⟩
  rw[List.take_length] at hu
  simp only[sz,simprocAttr,iy,h3]
  exact ⟨_,hu.nats (by simp;omega) (by simp only[List.mem_map];rintro x ⟨y,-,rfl⟩;exact q_ _)⟩
theorem vG {d k:Nat}{g:G}{P:Nat->Prop}{v:AV}{n:Net}{i:Nat}{x:Node}(hd:0<d)(hm:Agg n P k g.h v)(hn:n.nodes.length<1073741824)(hx:n.nodes[i]?=some x)(hl:x.parents.length<1073741824)(hin:∀p∈x.parents,0<=p/\p<n.nodes.length) :
  ∃r,ah C0 d N.aC [v,.int .i64 (i:Int)] g=.val r/\IT 0 (S.ac (S.aa n) x.parents) r:=by
 obtain ⟨v',e,cs,rfl,hc⟩:=jD (bE n) (by decide) d hm
 have hc':=hc
 obtain ⟨b,rfl,hN⟩:=dh.1 hc
 have hm':∀h,Agg n NoP (max k d) h (.agg [.int .i64 n.grain,b]):=fun h=>⟨_,rfl,Rp.tree hc' (Nat.le_refl _)⟩
 obtain ⟨rows,r1,r2,r3,r4⟩:=hN.all
 have r1:∀h',af h' 3 b=some rows:=r1
 obtain ⟨row,q1,q2⟩:=r3 i x hx
 obtain ⟨a',b',rfl,ha',-⟩:=bM.1 q2
 have hil:=(List.getElem?_eq_some_iff.1 hx).1
 have hlt:i<rows.length:=by omega
 have hry:=r4 (by omega)
 rw[oy]
 refine aN qb (xs:=[.agg [.int .i64 n.grain,b],.int .i64 (i:Int)]) (by simp only[aB,e,bG 0]) (by simp[fL]) (aK _) (by decide) hd ?_
 simp only[sz,simprocAttr,fL,it]
 refine bi (vq (Nat.succ_pos d) (hm' _) hn) fun rc hrc=>?_
 have hat:=fun g=>HO (d:=d+1) (g:=g) (P:=NoP) (P2:=NoP) (k:=0) (k2:=max k d) (l:=S.aa n) (p:=x.parents) (Nat.succ_pos d) (hrc.sl g.h) (ha'.tree (h':=g.h) (Nat.le_refl _)) hl (fun p hp=>by rw[aL];exact hin p hp)
 simp only[sz,simprocAttr,r1,hlt,q1,hry]
 refine bi (hat _) fun r hr=>?_
 simp only[sz,simprocAttr]
 obtain ⟨w,hw,hs⟩:=hr
 exact ⟨_,w,hw,hs.tree (Nat.le_refl _)⟩
theorem xQ {d k:Nat}{g:G}{P:Nat->Prop}{v:AV}{l:List Int}(hd:0<d)(hv:SlR P k g.h l v):ah C0 d N.am [v] g=.val (.int .i64 (S.a_ l)):=by
 have b:=F6 hv.ints
 have:=KV hd (GS hv.ints) (by rw[b];exact hv.1)
 rwa [b] at this
theorem EJ {d k:Nat}{g:G}{P:Nat->Prop}{v:AV}{n:Net}(hd:0<d)(hm:Agg n P k g.h v)(hr:NR n):ah C0 d N.bz [v] g=.val (.int .i64 (S.ax n:Int)):=by
 have hl2:=hr.l2
 obtain ⟨v',e,cs,rfl,hc⟩:=jD (bE n) (by decide) d hm
 have hm':∀h,Agg n NoP (max k d) h (.agg cs):=fun h=>⟨_,rfl,Rp.tree hc (Nat.le_refl _)⟩
 obtain ⟨b,rfl,hN⟩:=dh.1 hc
 rw[tS]
 refine fF wB (xs:=[.agg [.int .i64 n.grain,b]]) (by simp only[aB,e]) (by simp[lB]) hd ?_
 simp only[sz,simprocAttr,lB,nE]
 refine bi (vq (Nat.succ_pos d) (hm' _) (by omega)) fun rc hrc=>?_
 have hs:=fun g=>xQ (d:=d+1) (g:=g) (P:=NoP) (k:=0) (Nat.succ_pos d) (hrc.sl g.h)
 rw[uK hr.cs (by rw[aL];omega),<-hr.wl.2.2] at hs
 simp only[sz,simprocAttr,hs]
theorem yp {d k:Nat}{g:G}{P:Nat->Prop}{v:AV}{n:Net}{w:Nat}(hd:0<d)(hm:Agg n P k g.h v)(hr:NR n)(hw:w<9223372036854775808):∃r,ah C0 d N.aX [v,.int .i64 (w:Int)] g=.val r/\IT 0 (S.ak (S.aa n) (w:Int)) r:=by
 have hl2:=hr.l2
 obtain ⟨v',e,cs,rfl,hc⟩:=jD (bE n) (by decide) d hm
 have hm':∀h,Agg n NoP (max k d) h (.agg cs):=fun h=>⟨_,rfl,Rp.tree hc (Nat.le_refl _)⟩
 obtain ⟨b,rfl,hN⟩:=dh.1 hc
 rw[t7]
 refine aN wn (xs:=[.agg [.int .i64 n.grain,b],.int .i64 (w:Int)]) (by simp only[aB,e,bG 0]) (by simp[kw]) (aK _) (by decide) hd ?_
 simp only[sz,simprocAttr,kw,nK]
 refine bi (vq (Nat.succ_pos d) (hm' _) (by omega)) fun rc hrc=>?_
 simp only[sz,simprocAttr]
 refine bi (G6 (d:=d+1) (P:=NoP) (k:=0) (l:=S.aa n) (h:=(w:Int)) (Nat.succ_pos d) (hrc.sl _) (by rw[aL];omega) (fun c hc=>by have:=hr.cs c hc;omega) ⟨Int.natCast_nonneg w,by omega⟩) fun r hr2=>?_
 simp only[sz,simprocAttr]
 obtain ⟨w,hw,hs⟩:=hr2
 exact ⟨_,w,hw,hs.tree (Nat.le_refl _)⟩
theorem cJ {g:G}{v:AV}{n:Net}(d:Nat)(hm:Agg n NoP 0 g.h v):∃b rows,v=.agg [.int .i64 n.grain,b]/\Hx.snap g.h d aE v=some v/\(∀h,Agg n NoP 0 h v)/\SlR NoP 0 .nil n.nodes b/\(∀h,af h 3 b=some rows)/\rows.length=n.nodes.length /\
  (∀(i:Nat) (x:Node),n.nodes[i]?=some x->∃pa ra,rows[i]?=some [.int .i64 x.card,pa,ra]/\i<rows.length/\SlR NoP 0 .nil x.parents pa/\SlR NoP 0 .nil x.rows ra)/\(0<n.nodes.length->iX b=true):=by
 have e:=fU d hm
 obtain ⟨cs,rfl,hc⟩:=hm
 have hc':=hc
 obtain ⟨b,rfl,hN⟩:=dh.1 hc
 have hN:=hN.tree (h':=.nil) (Nat.le_refl _)
 obtain ⟨rows,r1,r2,r3,r4⟩:=hN.all
 refine ⟨b,rows,rfl,e,fun h=>⟨_,rfl,Rp.tree hc' (Nat.le_refl _)⟩,hN,r1,r2,fun i x hx=>?_,r4⟩
 obtain ⟨row,q1,q2⟩:=r3 i x hx
 obtain ⟨a',b',rfl,ha',hb'⟩:=bM.1 q2
 exact ⟨a',b',q1,by rw[r2];exact (List.getElem?_eq_some_iff.1 hx).1,ha',hb'⟩
theorem wV {l:List (List Int)}{b:AV}(hb:SlR NoP 0 .nil l b):∃rows:List (List AV),(∀h,af h 1 b=some rows)/\rows.length=l.length/\(∀(i:Nat) (r:List Int),l[i]?=some r->∃z,rows[i]?=some [z]/\i<rows.length/\SlR NoP 0 .nil r z)/\(0<l.length->iX b=true):=by
 obtain ⟨rows,r1,r2,r3,r4⟩:=hb.all
 refine ⟨rows,r1,r2,fun i r hr=>?_,r4⟩
 obtain ⟨row,q1,q2⟩:=r3 i r hr
 obtain ⟨z,rfl,hz⟩:=a8.1 q2
 exact ⟨z,q1,by rw[r2];exact (List.getElem?_eq_some_iff.1 hr).1,hz⟩
theorem Ln {d k2:Nat}{g:G}{P2:Nat->Prop}{v w:AV}{n:Net}{i j:Nat}{x:Node}{r:List Int}{vals:List Int}(hd:0<d)(hm:Agg n NoP 0 g.h v)(hr:NR n)(hx:n.nodes[i]?=some x)(hw:SlR P2 k2 g.h vals w)(hv:InC (S.aa n) vals)
  (hj:S.ah (S.ac (S.aa n) x.parents) (S.ac vals x.parents)=(j:Int)) (hrr:x.rows[j]?=some r):∃z,ah C0 d N.bM [v,.int .i64 (i:Int),w] g=.val z/\IT 0 r z:=by
 obtain ⟨w',e2,hw'⟩:=bH hw d
 obtain ⟨b,rows,rfl,e,hm',hN,r1,r2,r3,r4⟩:=cJ d hm
 have hxm:=List.mem_of_getElem? hx
 obtain ⟨pa,ra,q1,hlt,hpa,hra⟩:=r3 i x hx
 obtain ⟨rr,s1,s2,s3,s4⟩:=wV hra
 obtain ⟨z,q2,hlt2,hz⟩:=s3 j r hrr
 have hl2:=hr.l2
 have hpl:=iQ (hr.places x hxm) (by omega)
 have hpin:=hr.pin hxm
 have hil:=(List.getElem?_eq_some_iff.1 hx).1
 have hry:=r4 (by omega)
 have hry2:=s4 (by omega)
 rw[yL]
 refine aN AM (xs:=[.agg [.int .i64 n.grain,b],.int .i64 (i:Int),w']) (by simp only[aB,e,e2,bG 0]) (by simp[qG]) (aK _) (by decide) hd ?_
 simp only[sz,simprocAttr,qG,rR,r1,hlt,q1,hry]
 refine bi (vG (Nat.succ_pos d) (hm' _) (by omega) hx (by omega) (fun p hp=>by have:=hpin p hp;rw[aL] at this;exact this)) fun rc hrc=>?_
 simp only[sz,simprocAttr,r1,hlt,q1,hry]
 refine bi (HO (d:=d+1) (P:=NoP) (P2:=NoP) (k:=max k2 d) (k2:=0) (l:=vals) (p:=x.parents) (Nat.succ_pos d) (hw' _) (hpa.tree (Nat.le_refl _)) (by omega) (fun p hp=>by have:=hpin p hp;rw[<-hv.len] at this;exact this)) fun rv hrv=>?_
 have hix:=fun g=>IZ (d:=d+1) (g:=g) (P:=NoP) (P2:=NoP) (k:=0) (k2:=0) (cards:=S.ac (S.aa n) x.parents) (vals:=S.ac vals x.parents) (Nat.succ_pos d) (hrc.sl g.h) (hrv.sl g.h) (by simp[S.ac];omega) (bC hr.cs hpin) (iK hv hpin)
 rw[hj] at hix
 simp only[sz,simprocAttr,hix,s1,q2,hlt2]
 exact ⟨_,z,rfl,hz.tree (Nat.le_refl _)⟩
theorem Ea {d:Nat}{g:G}{v:AV}{n:Net}{w:Nat}(hd:0<d)(hm:Agg n NoP 0 g.h v)(hr:NR n)(hw:w<9223372036854775808):ah C0 d N.bH [v,.int .i64 (w:Int)] g=.val (.int .i64 (S.aX n (S.ak (S.aa n) (w:Int)))):=by
 obtain ⟨b,rows,rfl,e,hm',hN,r1,r2,r3,r4⟩:=cJ d hm
 have hv:=xd (fun c hc=>(hr.cs c hc).1) (w:Int)
 have hvl:=oG (S.aa n) (w:Int)
 rw[aL] at hvl
 have hl2:=hr.l2
 rw[tA]
 refine fF wx (xs:=[.agg [.int .i64 n.grain,b],.int .i64 (w:Int)]) (by simp only[aB,e,bG 0]) (by simp[kI]) hd ?_
 simp only[sz,simprocAttr,kI,nT]
 refine bi (yp (d:=d+1) (P:=NoP) (k:=0) (w:=w) (Nat.succ_pos d) (hm' _) hr hw) fun rv hrv=>?_
 simp only[sz,simprocAttr,l6]
 generalize S.ak (S.aa n) (w:Int)=vals at *
 refine bh n.nodes.length (by omega) (fun j t df g=>df=[]/\St t [(2,.hptr 0 0 0 0),(5,rv),(6,.int .i64 (S.ae ((List.range j).map (S.aF n vals))))]/\g.h.get 0=.cells 2 [[.int .i64 n.grain,b]] 0 false false)
  ⟨rfl,by simp[St,sx,S.ae],by simp[sx]⟩ (by simp[sx]) (by decide) (by rintro j t df g v s (rfl | rfl | rfl)<;>simp[St,sx]) ?_ ?_ ?_
 ·rintro j t df g hj ⟨rfl,⟨h2,h5,h6,-⟩,hg⟩ h7
  simp only[sz,simprocAttr,h2,h5,h6,h7,hg,hN.len,St]
 ·rintro j t df g hj ⟨rfl,⟨h2,h5,h6,-⟩,hg⟩ h7
  obtain ⟨x,hx,-,-⟩:=ae hj
  obtain ⟨i,r,c,y,f1,f2,f3,f4,f5,f6,f7,f8,-,-⟩:=yg hr hv hx
  obtain ⟨c,rfl⟩:=Int.eq_ofNat_of_zero_le f5
  rw[Int.toNat_natCast] at f7
  have ri:=fun h=>hrv.rows h
  have u1:j<(vals.map ci).length:=by rw[List.length_map];omega
  have u2:(vals.map ci)[j]?=some (ci (c:Int)):=by rw[List.getElem?_map,f4];rfl
  have wb:=mO hr hv (j:=j+1) (by omega)
  rw[th,f8] at wb
  have w1:IntKind.wrap .i64 (S.ae ((List.range j).map (S.aF n vals))*y)=S.ae ((List.range (j+1)).map (S.aF n vals)):=by rw[th,f8,aq (by omega) (by omega)]
  simp only[sz,simprocAttr,h2,h5,h6,h7,hg]
  refine bi (Ln (d:=d+1) (P2:=NoP) (k2:=0) (i:=j) (Nat.succ_pos d) (hm' _) hr hx (hrv.sl _) hv f1 f3) fun z hz=>?_
  have rz:=fun h=>hz.rows h
  have u3:c<(r.map ci).length:=by rw[List.length_map];exact (List.getElem?_eq_some_iff.1 f7).1
  have u4:(r.map ci)[c]?=some (ci y):=by rw[List.getElem?_map,f7];rfl
  simp only[sz,simprocAttr,h2,h5,h7,hg,ri,rz,u1,u2,u3,u4,ci,St,w1]
 ·rintro t df g ⟨rfl,⟨h2,h5,h6,-⟩,hg⟩
  simp only[sz,simprocAttr,mo,h6]
  rfl
theorem xe {d k2:Nat}{g:G}{P2:Nat->Prop}{v w:AV}{n:Net}{e:List Int}(hd:0<d)(hm:Agg n NoP 0 g.h v)(hr:NR n)(he:SlR P2 k2 g.h e w)(hel:e.length=n.nodes.length):ah C0 d N.ah [v,w] g=.val (.int .i64 (S.aC n e)):=by
 obtain ⟨w',e2,hw'⟩:=bH he d
 obtain ⟨b,rows,rfl,e1,hm',hN,r1,r2,r3,r4⟩:=cJ d hm
 have hl2:=hr.l2
 obtain ⟨wl1,wl2,wl3⟩:=hr.wl
 rw[wy]
 refine fF zn (xs:=[.agg [.int .i64 n.grain,b],w']) (by simp only[aB,e1,e2]) (by simp[oS]) hd ?_
 simp only[sz,simprocAttr,oS,pS,pd,pf]
 refine bh (S.ax n) (by omega) (fun j t df g=>df=[]/\St t [(1,w'),(2,.hptr 0 0 0 0),(5,.int .i64 (S.am n (fun w=>S.aI (S.ak (S.aa n) (w:Int)) e) j))]/\g.h.get 0=.cells 2 [[.int .i64 n.grain,b]] 0 false false)
  ⟨rfl,by simp[St,sx,S.am],by simp[sx]⟩ (by simp[sx]) (by decide) (by rintro j t df g v s (rfl | rfl | rfl)<;>simp[St,sx]) ?_ ?_ ?_
 ·rintro j t df g hj ⟨rfl,⟨h1,h2,h5,-⟩,hg⟩ h6
  have hw:=fun g=>EJ (d:=d+1) (g:=g) (P:=NoP) (k:=0) (Nat.succ_pos d) (hm' g.h) hr
  simp only[sz,simprocAttr,h1,h2,h5,h6,hg,hw,St]
 ·rintro j t df g hj ⟨rfl,⟨h1,h2,h5,-⟩,hg⟩ h6
  simp only[sz,simprocAttr,h2,h6,hg]
  refine bi (yp (d:=d+1) (P:=NoP) (k:=0) (w:=j) (Nat.succ_pos d) (hm' _) hr (by omega)) fun rv hrv=>?_
  have hma:=fun g=>CZ (d:=d+1) (g:=g) (P:=NoP) (P2:=NoP) (k:=0) (k2:=max k2 d) (vals:=S.ak (S.aa n) (j:Int)) (e:=e) (Nat.succ_pos d) (hrv.sl g.h) (hw' g.h) (by rw[oG,aL,hel])
  have sb:=gA hr (fun w=>S.aI (S.ak (S.aa n) (w:Int)) e) (j+1)
  cases hmt:S.aI (S.ak (S.aa n) (j:Int)) e with
  | true =>
   have hwt:=fun g=>Ea (d:=d+1) (g:=g) (w:=j) (Nat.succ_pos d) (hm' g.h) hr (by omega)
   rw[hmt] at hma
   have w1:IntKind.wrap .i64 (S.am n (fun w=>S.aI (S.ak (S.aa n) (w:Int)) e) j+S.aX n (S.ak (S.aa n) (j:Int)))=S.am n (fun w=>S.aI (S.ak (S.aa n) (w:Int)) e) (j+1):=by
    have e1:S.am n (fun w=>S.aI (S.ak (S.aa n) (w:Int)) e) (j+1)=S.am n (fun w=>S.aI (S.ak (S.aa n) (w:Int)) e) j+S.aX n (S.ak (S.aa n) (j:Int)):=by rw[S.am,hmt];rfl
    rw[<-e1,aq (by omega) (by omega)]
   simp only[sz,simprocAttr,h1,h2,h5,h6,hg,hma,hwt,St,w1]
  | false =>
   rw[hmt] at hma
   have e1:S.am n (fun w=>S.aI (S.ak (S.aa n) (w:Int)) e) (j+1)=S.am n (fun w=>S.aI (S.ak (S.aa n) (w:Int)) e) j:=by rw[S.am,hmt];simp
   simp only[sz,simprocAttr,h1,h2,h5,h6,hg,hma,St,e1]
 ·rintro t df g ⟨rfl,⟨h1,h2,h5,-⟩,hg⟩
  simp only[sz,simprocAttr,o9,h5]
  rfl
theorem J5 {d k k2:Nat}{g:G}{P P2:Nat->Prop}{v w:AV}{n:Net}{e:List Int}(hd:0<d)(hm:Agg n P k g.h v)(he:SlR P2 k2 g.h e w):ah C0 d N.bp [v,w] g=.val (.bool (S.aB n e)):=by
 obtain ⟨w',e2,hw'⟩:=bH he d
 obtain ⟨v',e1,cs,rfl,hc⟩:=jD (bE n) (by decide) d hm
 obtain ⟨b,rfl,hN⟩:=dh.1 hc
 obtain ⟨rows,r1,r2,r3,r4⟩:=hN.all
 have r1:∀h',af h' 3 b=some rows:=r1
 have n2:=fun g=>(hw' .nil).len g
 have rb:=fun h=>(hw' h).ints
 rw[rC]
 refine du ug (xs:=[.agg [.int .i64 n.grain,b],w']) (by simp only[aB,e1,e2]) (by simp[fB]) hd ?_
 have hle:=he.1
 by_cases hl:e.length=n.nodes.length
 ·simp only[sz,simprocAttr,fB,gy,jQ,n2,hN.len,hl]
  refine bh e.length hle (fun j t df g=>df=[]/\St t [(1,w'),(2,.hptr 0 0 0 0)]/\g.h.get 0=.cells 2 [[.int .i64 n.grain,b]] 0 false false/\((List.range j).all fun v=>decide (-1<=e[v]?.getD 0)&&decide (e[v]?.getD 0<(S.aa n)[v]?.getD 0))=true)
   ⟨rfl,by simp[St,sx],by simp[sx],by simp⟩ (by simp[sx]) (by decide) (by rintro j t df g v s (rfl | rfl | rfl)<;>simp[St,sx]) ?_ ?_ ?_
  ·rintro j t df g hj ⟨rfl,⟨h1,h2,-⟩,hg,ha⟩ h5
   simp only[sz,simprocAttr,h1,h2,h5,hg,n2,St,ha]
  ·rintro j t df g hj ⟨rfl,⟨h1,h2,-⟩,hg,ha⟩ h5
   obtain ⟨y,hy,-,-⟩:=ae hj
   obtain ⟨x,hx,-,-⟩:=ae (l:=n.nodes) (j:=j) (by omega)
   obtain ⟨row,q1,q2⟩:=r3 j x hx
   obtain ⟨a',b',rfl,-,-⟩:=bM.1 q2
   have hlt:j<rows.length:=by omega
   have hry:=r4 (by omega)
   have u1:j<(e.map ci).length:=by simpa using hj
   have u2:(e.map ci)[j]?=some (ci y):=by rw[List.getElem?_map,hy];rfl
   have hc1:(S.aa n)[j]?.getD 0=x.card:=by simp[S.aa,hx]
   have hst:((List.range (j+1)).all fun v=>decide (-1<=e[v]?.getD 0)&&decide (e[v]?.getD 0<(S.aa n)[v]?.getD 0))=(decide (-1<=y)&&decide (y<x.card)):=by
    rw[List.range_succ,List.all_append,ha,hc1.symm]
    simp[hy]
   have bad:(decide (-1<=y)&&decide (y<x.card))=false->S.aB n e=false:=fun h=>by
    rw[S.aB]
    have:((List.range e.length).all fun v=>decide (-1<=e[v]?.getD 0)&&decide (e[v]?.getD 0<(S.aa n)[v]?.getD 0))=false:=by
     rw[<-Bool.not_eq_true,List.all_eq_true]
     intro h2
     have:=h2 j (List.mem_range.2 hj)
     rw[hy,Option.getD_some,hc1,h] at this
     cases this
    rw[this,Bool.and_false]
   by_cases c1:y < -1
   ·have:=bad (by simp;omega)
    simp only[sz,simprocAttr,h1,h5,rb,u1,u2,ci,c1,this]
   ·by_cases c2:x.card<=y
    ·have:=bad (by simp;omega)
     simp only[sz,simprocAttr,h1,h2,h5,hg,rb,r1,hlt,q1,hry,u1,u2,ci,c1,c2,this]
    ·simp only[sz,simprocAttr,h1,h2,h5,hg,rb,r1,hlt,q1,hry,u1,u2,ci,c1,c2,St,hst]
     simp
     omega
  ·rintro t df g ⟨rfl,⟨h1,h2,-⟩,hg,ha⟩
   simp only[sz,simprocAttr,jV]
   rw[S.aB,ha,hl];simp
 ·have hlI:¬((e.length:Int)=(n.nodes.length:Int)):=by omega
  simp only[sz,simprocAttr,fB,gy,n2,hN.len,hlI]
  rw[S.aB];simp[hl]
section
variable {d:Nat}{b pa ra z:AV}{gr card:Int}{r:List Int}
def LR5 (v:Nat)(q:Nat):List (Nat×AV):=[(1,.hptr 0 0 0 0),(6,.int .i64 (v:Int)),(7,.hptr q 0 0 0)]
structure RJ1 (gr:Int) (r:List Int) (v q i j:Nat) (t:T):Prop where
 st:St t ((8,.int .i64 (i:Int))::LR5 v q)
 s9:tat t 9=.int .i64 (r.take j).sum
 all:∀y∈r.take j,0<=y/\y<=gr
structure RJ4 (gr card:Int) (rws:List (List Int)) (v q j:Nat) (t:T):Prop where
 st:St t (LR5 v q)
 all:∀r∈rws.take j,S.aD gr card r=true
structure RJ0 (n:Net) (b:AV) (j:Nat) (t:T) (g:G):Prop where
 st:St t [(1,.hptr 0 0 0 0),(3,.int .i64 (S.ae ((S.aa n).take j)))]
 hg:g.h.get 0=.cells 2 [[.int .i64 n.grain,b]] 0 false false
 nx:1<=g.nx
 all:∀x∈n.nodes.take j,S.aV n.nodes.length x=true
structure RJ6 (n:Net) (b:AV) (j:Nat) (t:T) (g:G):Prop where
 st:St t [(1,.hptr 0 0 0 0)]
 hg:g.h.get 0=.cells 2 [[.int .i64 n.grain,b]] 0 false false
 nx:1<=g.nx
 all:∀x∈n.nodes.take j,S.bh n x=true
theorem Io {Q:QT}{rr:List (List AV)}{v q i:Nat}{t:T}{g:G}(s1:∀h,af h 1 ra=some rr)(s2:rr[i]?=some [z])(s3:i<rr.length)(s4:iX ra=true)(hz:SlR NoP 0 .nil r z)(hl:r.length<=4)(hg1:1<=gr/\gr<=60)
  (ht:St t ((8,.int .i64 (i:Int))::LR5 v q)) (h9:tat t 9=.int .i64 0) (h10:tat t 10=.int .i64 0) (e0:g.h.get 0=.cells 2 [[.int .i64 gr,b]] 0 false false) (eq:g.h.get q=.cells 3 [[.int .i64 card,pa,ra]] 0 false false)
  (bad:∀t,(∃y∈r,¬(0<=y/\y<=gr))->tat t 2=.bool false->Q .ret t [] g) (fin:∀t,(∀y∈r,0<=y/\y<=gr)->St t ((8,.int .i64 (i:Int))::LR5 v q)->tat t 9=.int .i64 r.sum->Q (.exit 6) t [] g) :
  wpL (wp C0 d none iG) Q t [] g:=by
 have n1:=fun g=>hz.len g
 have rz:=fun h=>(hz.tree (h':=h) (Nat.le_refl 0)).ints
 simp only[iG]
 refine bh r.length (by omega) (fun j t df g'=>df=[]/\g'=g/\RJ1 gr r v q i j t)
  ⟨rfl,rfl,ht,by simp[h9],by simp⟩ h10 (by decide) (by rintro j t df g v s (rfl | rfl | rfl) ⟨a1,a2,⟨b1,b2,b3,b4,-⟩,b5,b6⟩<;>exact ⟨a1,a2,by simp[St,LR5,sx,b1,b2,b3,b4],by simp[sx,b5],b6⟩) ?_ ?_ ?_
 ·rintro j t df g' hj ⟨rfl,rfl,⟨⟨h8,h1,h6,h7,-⟩,h9,ha⟩⟩ h10
  simp only[sz,simprocAttr,h7,h8,h10,eq,s1,s2,s3,n1]
  exact ⟨by simp[St,LR5,sx,h1,h6,h7,h8],by simp[sx,h9],ha⟩
 ·rintro j t df g' hj ⟨rfl,rfl,⟨⟨h8,h1,h6,h7,-⟩,h9,ha⟩⟩ h10
  obtain ⟨y,hy,htk,hm⟩:=ae hj
  have u1:j<(r.map ci).length:=by simpa using hj
  have u2:(r.map ci)[j]?=some (ci y):=by rw[List.getElem?_map,hy];rfl
  by_cases c1:y<0
  ·simp only[sz,simprocAttr,h7,h8,h10,eq,s1,s2,s3,rz,u1,u2,ci,c1]
   exact bad _ ⟨y,hm,by omega⟩ (by simp[sx])
  ·by_cases c2:gr<y
   ·simp only[sz,simprocAttr,h1,h7,h8,h10,e0,eq,s1,s2,s3,rz,u1,u2,ci,c1,c2]
    exact bad _ ⟨y,hm,by omega⟩ (by simp[sx])
   ·have hall:∀x∈r.take (j+1),0<=x/\x<=gr:=fun x hx=>by
     rw[htk] at hx
     rcases List.mem_append.1 hx with h | h
     ·exact ha x h
     ·rw[List.mem_singleton.1 h];omega
    have hsb:=AA (b:=60) (by decide) (l:=r.take (j+1)) fun x hx=>by have:=hall x hx;omega
    have hl4:(r.take (j+1)).length<=4:=by rw[List.length_take];omega
    have w1:IntKind.wrap .i64 ((r.take j).sum+y)=(r.take (j+1)).sum:=by
     have e1:(r.take (j+1)).sum=(r.take j).sum+y:=by rw[htk,tz]
     rw[<-e1,aq (by omega) (by omega)]
    simp only[sz,simprocAttr,h1,h7,h8,h9,h10,e0,eq,s1,s2,s3,rz,u1,u2,ci,c1,c2,w1]
    exact ⟨by simp[St,LR5,sx,h1,h6,h7,h8],by simp[sx],hall⟩
 ·rintro t df g' ⟨rfl,rfl,⟨ht,h9,ha⟩⟩
  rw[List.take_length] at h9 ha
  exact fin t ha ht h9
theorem HL {Q:QT}{rws:List (List Int)}{v q:Nat}{t:T}{g:G}(hra:SlR NoP 0 .nil rws ra)(hc:1<=card/\card<=4)(hg1:1<=gr/\gr<=60)
  (ht:St t (LR5 v q)) (h8:tat t 8=.int .i64 0) (e0:g.h.get 0=.cells 2 [[.int .i64 gr,b]] 0 false false) (eq:g.h.get q=.cells 3 [[.int .i64 card,pa,ra]] 0 false false)
  (bad:∀t,(∃r∈rws,S.aD gr card r=false)->tat t 2=.bool false->Q .ret t [] g) (fin:∀t,(∀r∈rws,S.aD gr card r=true)->St t (LR5 v q)->Q (.exit 4) t [] g) :
  wpL (wp C0 d none iT) Q t [] g:=by
 obtain ⟨rr,s1,s2,s3,s4⟩:=wV hra
 have n1:=fun g=>hra.len g
 simp only[iT,nW]
 refine bh rws.length hra.1 (fun j t df g'=>df=[]/\g'=g/\RJ4 gr card rws v q j t)
  ⟨rfl,rfl,ht,by simp⟩ h8 (by decide) (by rintro j t df g v s (rfl | rfl | rfl) ⟨a1,a2,⟨b1,b2,b3,-⟩,b6⟩<;>exact ⟨a1,a2,by simp[St,LR5,sx,b1,b2,b3],b6⟩) ?_ ?_ ?_
 ·rintro j t df g' hj ⟨rfl,rfl,⟨⟨h1,h6,h7,-⟩,ha⟩⟩ h8
  simp only[sz,simprocAttr,h7,h8,eq,n1]
  exact ⟨by simp[St,LR5,sx,h1,h6,h7],ha⟩
 ·rintro j t df g' hj ⟨rfl,rfl,⟨⟨h1,h6,h7,-⟩,ha⟩⟩ h8
  obtain ⟨r,hr,htk,hm⟩:=ae hj
  obtain ⟨z,q2,q3,hz⟩:=s3 j r hr
  have hry:=s4 (by omega)
  have n2:=fun g=>hz.len g
  by_cases c1:(r.length:Int)=card
  ·simp only[sz,simprocAttr,h7,h8,eq,s1,q2,q3,n2,c1]
   refine Io (v:=v) (q:=q) (b:=b) (pa:=pa) (card:=card) (gr:=gr) s1 q2 q3 hry hz (by omega) hg1 (by simp[St,LR5,sx,h1,h6,h7,h8]) (by simp[sx]) (by simp[sx]) e0 eq ?_ ?_
   ·rintro t ⟨y,hy,hy2⟩ h2
    refine bad t ⟨r,hm,?_⟩ h2
    rw[<-Bool.not_eq_true,S.aD]
    simp only[Bool.and_eq_true,decide_eq_true_eq,List.all_eq_true]
    rintro ⟨⟨-,h⟩,-⟩
    exact hy2 (h y hy)
   ·rintro t hall ⟨h8,h1,h6,h7,-⟩ h9
    by_cases c2:r.sum=gr
    ·simp only[sz,simprocAttr,iN,h1,h8,h9,e0,c2]
     refine ⟨?_,fun x hx=>?_⟩
     ·simp[St,LR5,sx,h1,h6,h7]
     ·rw[htk] at hx
      rcases List.mem_append.1 hx with h | h
      ·exact ha x h
      ·rw[List.mem_singleton.1 h,S.aD]
       simp only[Bool.and_eq_true,decide_eq_true_eq,List.all_eq_true]
       exact ⟨⟨c1,hall⟩,c2⟩
    ·simp only[sz,simprocAttr,iN,h1,h9,e0,c2]
     refine bad _ ⟨r,hm,?_⟩ (by simp[sx])
     rw[S.aD];simp[c2]
  ·simp only[sz,simprocAttr,h7,h8,eq,s1,q2,q3,n2,c1]
   refine bad _ ⟨r,hm,?_⟩ (by simp[sx])
   rw[S.aD];simp[c1]
 ·rintro t df g' ⟨rfl,rfl,⟨ht,ha⟩⟩
  rw[List.take_length] at ha
  exact fin t ha ht
end
theorem GC {d:Nat}{g:G}{v:AV}{n:Net}(hd:0<d)(hm:Agg n NoP 0 g.h v):ah C0 d N.bO [v] g=.val (.bool (S.aA n)):=by
 obtain ⟨b,rows,rfl,e,hm',hN,r1,r2,r3,r4⟩:=cJ d hm
 have bad:¬NR n->AV.bool false=AV.bool (S.aA n):=fun h=>by
  cases hn:S.aA n with
  | true=>exact absurd (di.1 hn) h
  | false=>rfl
 rw[vd]
 refine du yI (xs:=[.agg [.int .i64 n.grain,b]]) (by simp only[aB,e]) (by simp[mU]) hd ?_
 have nl:=fun g=>hN.len g
 simp only[sz,simprocAttr,mU]
 obtain ⟨g0,hg0⟩:∃g0,g0=G.empty.new (.cells [AV.int .i64 n.grain,b].length [[.int .i64 n.grain,b]] 0 false false):=⟨_,rfl⟩
 have f0:g0.h.get 0=.cells 2 [[.int .i64 n.grain,b]] 0 false false:=by rw[hg0];simp[sx]
 have f1:1<=g0.nx:=by rw[hg0];simp[sx]
 rw[show (G.empty.new (.cells 2 [[AV.int .i64 n.grain,b]] 0 false false))=g0 from by rw[hg0];rfl]
 clear hg0
 simp only[pp]
 by_cases c1:n.grain<1
 ·simp only[sz,simprocAttr,f0,c1]
  exact bad fun h=>by have:=h.g1;omega
 by_cases c2:60<n.grain
 ·simp only[sz,simprocAttr,f0,c1,c2]
  exact bad fun h=>by have:=h.g2;omega
 by_cases c3:(n.nodes.length:Int)<1
 ·simp only[sz,simprocAttr,f0,c1,c2,c3,nl]
  exact bad fun h=>by have:=h.l1;omega
 by_cases c4:8<(n.nodes.length:Int)
 ·simp only[sz,simprocAttr,f0,c1,c2,c3,c4,nl]
  exact bad fun h=>by have:=h.l2;omega
 refine dU (P:=fun t' df g'=>df=[]/\g'=g0/\St t' [(1,.hptr 0 0 0 0)]) ?_ ?_
 ·simp only[sz,simprocAttr,f0,c1,c2,c3,c4,nl]
  simp[St,sx]
 rintro t df g1 ⟨rfl,rfl,h1,-⟩
 simp only[sz,simprocAttr,nQ]
 have hry:=r4 (by omega)
 refine bh n.nodes.length (by omega) (fun j t df g=>df=[]/\RJ0 n b j t g)
  ⟨rfl,by simp[St,sx,h1,S.ae],f0,f1,by simp⟩ (by simp[sx]) (by decide) (by rintro j t df g v s (rfl | rfl | rfl) ⟨a1,⟨b1,b2,-⟩,b3,b4,b5⟩<;>exact ⟨a1,by simp[St,sx,b1,b2],b3,b4,b5⟩) ?_ ?_ ?_
 ·rintro j t df g hj ⟨rfl,⟨⟨h1,h3,-⟩,hg,hnx,ha⟩⟩ h4
  simp only[sz,simprocAttr,h1,h4,hg,nl]
  exact ⟨by simp[St,sx,h1,h3],hg,hnx,ha⟩
 ·rintro j t df g hj ⟨rfl,⟨⟨h1,h3,-⟩,hg,hnx,ha⟩⟩ h4
  obtain ⟨x,hx,htk,hxm⟩:=ae hj
  obtain ⟨pa,ra,q1,hlt,hpa,hra⟩:=r3 j x hx
  have hpl:=fun g=>Er (d:=d+1) (g:=g) (P:=NoP) (k:=0) (l:=x.parents) (n:=(n.nodes.length:Int)) (Nat.succ_pos d) (hpa.tree (h':=g.h) (Nat.le_refl 0))
  have hne:¬(0=g.nx):=by omega
  have badn:S.aV n.nodes.length x=false->AV.bool false=AV.bool (S.aA n):=fun h=>bad fun hr=>by
   have h1:=hr.card x hxm
   have h2:=hr.places x hxm
   rw[S.aV,h2] at h
   simp at h
   omega
  by_cases d1:x.card<1
  ·simp only[sz,simprocAttr,h1,h4,hg,r1,hlt,q1,d1]
   exact badn (by rw[S.aV];simp;omega)
  by_cases d2:4<x.card
  ·simp only[sz,simprocAttr,h1,h4,hg,r1,hlt,q1,d1,d2]
   exact badn (by rw[S.aV];simp;omega)
  cases d3:S.aS x.parents n.nodes.length with
  | false =>
   rw[d3] at hpl
   simp only[sz,simprocAttr,h1,h4,hg,r1,hlt,q1,hne,nl,hpl,d1,d2]
   exact badn (by rw[S.aV,d3];simp)
  | true =>
   rw[d3] at hpl
   have hok:S.aV n.nodes.length x=true:=by rw[S.aV,d3];simp;omega
   have hall:∀y∈n.nodes.take (j+1),S.aV n.nodes.length y=true:=fun y hy=>by
    rw[htk] at hy
    rcases List.mem_append.1 hy with h | h
    ·exact ha y h
    ·rw[List.mem_singleton.1 h];exact hok
   have hcb:∀c∈(S.aa n).take (j+1),1<=c/\c<=4:=fun c hc=>by
    rw[S.aa,<-List.map_take] at hc
    obtain ⟨y,hy,rfl⟩:=List.mem_map.1 hc
    have:=hall y hy
    simp[S.aV] at this
    omega
   have hpb:=bT hcb
   have hp4:=ea (a:=((S.aa n).take (j+1)).length) (b:=8) (by rw[List.length_take];omega)
   have h48:(4:Int) ^ 8=65536:=by decide
   have e1:S.ae ((S.aa n).take (j+1))=S.ae ((S.aa n).take j)*x.card:=by
    rw[List.take_add_one]
    have:(S.aa n)[j]?=some x.card:=by simp[S.aa,hx]
    rw[this];exact rh _ _
   have w1:IntKind.wrap .i64 (S.ae ((S.aa n).take j)*x.card)=S.ae ((S.aa n).take (j+1)):=by rw[<-e1,aq (by omega) (by omega)]
   simp only[sz,simprocAttr,h1,h3,h4,hg,r1,hlt,q1,hne,nl,hpl,d1,d2,w1]
   refine ⟨?_,?_,?_,hall⟩
   ·simp[St,sx,h1]
   ·simp[H.get_put,hne,hg]
   ·first | (simp;done) | (simp;omega)
 rintro t df g ⟨rfl,⟨⟨h1,h3,-⟩,hg,hnx,ha⟩⟩
 rw[List.take_length] at ha
 rw[List.take_of_length_le (by rw[aL];exact Nat.le_refl _)] at h3
 have hcard:∀x∈n.nodes,1<=x.card/\x.card<=4:=fun x hx=>by have:=ha x hx;simp[S.aV] at this;omega
 have hplc:∀x∈n.nodes,S.aS x.parents n.nodes.length=true:=fun x hx=>by have:=ha x hx;simp[S.aV] at this;exact this.2
 have hcb:∀c∈S.aa n,1<=c/\c<=4:=fun c hc=>by
  obtain ⟨y,hy,rfl⟩:=List.mem_map.1 hc
  exact hcard y hy
 simp only[nP]
 by_cases d1:1024<S.ae (S.aa n)
 ·simp only[sz,simprocAttr,h3,d1]
  exact bad fun h=>by have:=h.worlds;omega
 have hps:=fun g=>IY (d:=d+1) (g:=g) (k:=0) (P:=NoP) (Nat.succ_pos d) (hm' g.h) (by omega) fun x hx y hy=>by have:=dz (hplc x hx) y hy;omega
 cases d2:S.aQ (S.ap n) with
 | false =>
  simp only[sz,simprocAttr,h1,h3,hg,d1]
  refine bi (hps _) fun rp hrp=>?_
  have hac:=fun g=>v7 (d:=d+1) (g:=g) (P:=NoP) (k:=0) (p:=S.ap n) (Nat.succ_pos d) (hrp.sl g.h)
  rw[d2] at hac
  simp only[sz,simprocAttr,hac]
  exact bad fun h=>by have:=h.acyc;rw[d2] at this;cases this
 | true =>
 refine dU (P:=fun t' df g'=>df=[]/\g'=g/\St t' [(1,.hptr 0 0 0 0)]/\S.aQ (S.ap n)=true) ?_ ?_
 ·simp only[sz,simprocAttr,h1,h3,hg,d1]
  refine bi (hps _) fun rp hrp=>?_
  have hac:=fun g=>v7 (d:=d+1) (g:=g) (P:=NoP) (k:=0) (p:=S.ap n) (Nat.succ_pos d) (hrp.sl g.h)
  rw[d2] at hac
  simp only[sz,simprocAttr,hac]
  simp[St,sx,h1,d2]
 clear h1 h3
 rintro t df g ⟨rfl,rfl,⟨h1,-⟩,hacyc⟩
 simp only[sz,simprocAttr,nD,nZ]
 refine bh n.nodes.length (by omega) (fun j t df g=>df=[]/\RJ6 n b j t g)
  ⟨rfl,by simp[St,sx,h1],hg,hnx,by simp⟩ (by simp[sx]) (by decide) (by rintro j t df g v s (rfl | rfl | rfl) ⟨a1,⟨b1,-⟩,b3,b4,b5⟩<;>exact ⟨a1,by simp[St,sx,b1],b3,b4,b5⟩) ?_ ?_ ?_
 ·rintro j t df g hj ⟨rfl,⟨⟨h1,-⟩,hg,hnx,ha⟩⟩ h6
  simp only[sz,simprocAttr,h1,h6,hg,nl]
  exact ⟨by simp[St,sx,h1],hg,hnx,ha⟩
 ·rintro j t df g hj ⟨rfl,⟨⟨h1,-⟩,hg,hnx,ha⟩⟩ h6
  obtain ⟨x,hx,htk,hxm⟩:=ae hj
  obtain ⟨pa,ra,q1,hlt,hpa,hra⟩:=r3 j x hx
  have hne:¬(0=g.nx):=by omega
  have hpl:=iQ (hplc x hxm) (by omega)
  have hpin:∀p∈x.parents,0<=p/\p<(n.nodes.length:Int):=dz (hplc x hxm)
  have hpb:∀c∈S.ac (S.aa n) x.parents,1<=c/\c<=4:=bC hcb fun p hp=>by rw[aL];exact hpin p hp
  have badn:S.bh n x=false->AV.bool false=AV.bool (S.aA n):=fun h=>bad fun hr=>by
   have h1:=hr.rows x hxm
   have h2:=hr.row x hxm
   have:S.bh n x=true:=by
    simp only[S.bh,S.aD,Bool.and_eq_true,decide_eq_true_eq,List.all_eq_true]
    exact ⟨h1,fun r hr=>⟨⟨(h2 r hr).1,(h2 r hr).2.1⟩,(h2 r hr).2.2⟩⟩
   rw[h] at this;cases this
  simp only[sz,simprocAttr,h1,h6,hg,r1,hlt,q1,hne,hra.len]
  refine bi (vG (d:=d+1) (k:=0) (P:=NoP) (Nat.succ_pos d) (hm' _) (by omega) hx (by omega) hpin) fun rc hrc=>?_
  have hsz:=fun g=>xQ (d:=d+1) (g:=g) (P:=NoP) (k:=0) (Nat.succ_pos d) (hrc.sl g.h)
  rw[uK hpb (by simp[S.ac];omega)] at hsz
  by_cases d1:(x.rows.length:Int)=S.ae (S.ac (S.aa n) x.parents)
  ·simp only[sz,simprocAttr,hsz,d1]
   refine HL (v:=j) (q:=g.nx) (b:=b) (pa:=pa) (card:=x.card) (gr:=n.grain) (rws:=x.rows) hra (hcard x hxm) (by omega) (by simp[St,LR5,sx,h1,h6]) (by simp[sx]) (by simp[H.get_put,hne,hg]) (by simp[H.get_put]) ?_ ?_
   ·rintro t ⟨r,hr,hr2⟩ h2
    simp only[sx,sy,h2]
    refine badn ?_
    rw[S.bh]
    have:x.rows.all (S.aD n.grain x.card)=false:=by
     rw[<-Bool.not_eq_true,List.all_eq_true]
     intro h
     rw[h r hr] at hr2;cases hr2
    rw[this,Bool.and_false]
   ·rintro t hall ⟨h1,h6,h7,-⟩
    simp only[sx,sy,↓reduceIte,h6]
    refine ⟨?_,?_,?_,fun y hy=>?_⟩
    ·simp[St,h1]
    ·simp[H.get_put,hne,hg]
    ·first | (simp;done) | (simp;omega)
    ·rw[htk] at hy
     rcases List.mem_append.1 hy with h | h
     ·exact ha y h
     ·rw[List.mem_singleton.1 h,S.bh,List.all_eq_true.2 hall];simp[d1]
  ·simp only[sz,simprocAttr,hsz,d1]
   exact badn (by rw[S.bh];simp[d1])
 ·rintro t df g ⟨rfl,⟨⟨h1,-⟩,hg,hnx,ha2⟩⟩
  rw[List.take_length] at ha2
  simp only[sz,simprocAttr,nX]
  have:S.aA n=true:=by
   unfold S.aA
   simp only[Bool.and_eq_true,decide_eq_true_eq,List.all_eq_true]
   exact ⟨⟨⟨⟨⟨⟨⟨by omega,by omega⟩,by omega⟩,by omega⟩,ha⟩,by omega⟩,hacyc⟩,ha2⟩
  rw[this]
end
end Hx
end
section
namespace Hx
open Go
noncomputable section
def OwnC (g:G)(b id:Nat)(l tl:List Int):Prop:=b<=id/\id<g.nx/\g.h.get id=.cells 1 (l.map ci++tl.map ci) 0 false false
theorem OwnC.rows {g:G}{b id:Nat}{l tl:List Int}(h:OwnC g b id l tl):af g.h 1 (.hsl id 0 0 l.length none)=some (l.map ci):=by
 rw[dY,h.2.2,cz,if_pos (by simp),List.drop_zero,List.take_left' (by simp)]
theorem OwnC.fr {g g':G}{b id:Nat}{l tl:List Int}(h:OwnC g b id l tl)(hn:g.nx<=g'.nx)(hf:g'.h.get id=g.h.get id):OwnC g' b id l tl:=⟨h.1,Nat.lt_of_lt_of_le h.2.1 hn,by rw[hf,h.2.2]⟩
theorem Nq {g:G}{b n:Nat}{K:AV->G->Prop}{D:ADf->Prop}(hn:n<=1000)(hb:b<=g.nx)(k:∀g',OwnC g' b g.nx [] (List.replicate n 0)->g'.nx=g.nx+1->(∀i,i<g.nx->g'.h.get i=g.h.get i)->K (.hsl g.nx 0 0 0 none) g') :
  (GK 1 8 [.int .i64 0] (.int .i64 0) (.int .i64 (n:Int)) g).sat K g D:=by
 have h1:n<=aR:=by unfold aR;omega
 have h2:n*8<=aR:=by unfold aR;omega
 have key:GK 1 8 [.int .i64 0] (.int .i64 0) (.int .i64 (n:Int)) g=.upd (.hsl g.nx 0 0 0 none) (g.new (.cells 1 (gO n [.int .i64 0]) 0 false false)):=by
  show (match dj aR (.int .i64 (.ofNat n)) with
   | some cn=>match dj cn (.int .i64 0) with
    | some ln=>au (Nat.ble (cn*8) aR) (OR.upd (.hsl g.nx 0 0 ln none) (g.new (.cells 1 (gO cn [.int .i64 0]) 0 false false))) .fail
    | none=>.fail
   | none=>.fail)=_
  have a1:dj aR (.int .i64 (.ofNat n))=some n:=by
   show au (Nat.ble n aR) (some n) none=_
   rw[aa,if_pos (by simpa using h1)]
  have a2:dj n (.int .i64 0)=some 0:=by
   show au (Nat.ble 0 n) (some 0) none=_
   rw[aa,if_pos (by simp)]
  rw[a1];dsimp only;rw[a2];dsimp only
  rw[aa,if_pos (by simpa using h2)]
 rw[key]
 refine k _ ⟨hb,by simp,?_⟩ (by simp) (fun i hi=>?_)
 ·simp[aX,gO,ci]
 ·rw[G.new_h,aD _ _ _ (by omega)]
theorem Je {g:G}{b id:Nat}{l tl:List Int}{x y:Int}{w:AV}{K:AV->G->Prop}{D:ADf->Prop}(hv:OwnC g b id l (y::tl))(hx:af g.h 1 w=some [ci x])(hr:l.length<=1000)
  (k:∀g',OwnC g' b id (l++[x]) tl->g'.nx=g.nx->(∀i,i≠id->g'.h.get i=g.h.get i)->K (.hsl id 0 0 (l++[x]).length none) g'):(dt 1 8 (.hsl id 0 0 l.length none) w g).sat K g D:=by
 unfold dt
 rw[hx]
 obtain ⟨h1,h2,h3⟩:=hv
 simp only[bf,G.get_eq,h3,aw,aa,Nat.beq_refl,Bool.true_and,Nat.ble_eq,Bool.and_eq_true,Nat.zero_add,Option.getD_none,Nat.sub_zero,List.length_append,List.length_map,List.length_cons,List.length_nil]
 rw[if_pos ⟨by omega,by unfold aR;omega⟩,if_pos (by omega)]
 have hnb:im false=true:=rfl
 rw[if_pos ⟨by omega,hnb⟩]
 have e:jZ (l.map ci++(y::tl).map ci) l.length [ci x]=(l++[x]).map ci++tl.map ci:=by
  simp only[jZ,gf]
  rw[List.map_append,List.append_assoc,List.map_cons,List.set_append_right _ _ (by simp)]
  simp
 rw[e]
 have k:=k (g.put id (.cells 1 ((l++[x]).map ci++tl.map ci) 0 false false)) ⟨h1,by simpa using h2,by simp[aX]⟩ (by simp) (fun i hi=>by rw[G.put_h,aD _ _ _ hi])
 have e3:l.length+1=(l++[x]).length:=by simp
 rw[e3]
 exact k
def Nw (p:List Nat):VS:=fun P k h v=>∃o:List Int,True/\rI (One o) (One (S.aQ p)) P k h v
theorem HE {d k:Nat}{g:G}{P:Nat->Prop}{v:AV}{p:List Nat}(hd:0<d)(hv:SlR P k g.h p v)(hn:p.length<=8)(hp:∀x∈p,x<2 ^ p.length) :
  ∃z,ah C0 d N.be [v] g=.val z/\Nw p NoP 0 .nil z:=by
 obtain ⟨v',e,r1⟩:=bH hv d
 have hlt:=oH hv
 rw[wz]
 refine aN zm (xs:=[v']) (by simp only[aB,e]) (by simp[oq]) (i4 fun o=>cG (m:=1) (aK _) (aK _) (by decide) (by decide)) (by decide) hd ?_
 have vl:∀g,eG .slice v' g=.val (.int .i64 (p.length:Int)):=fun g=>(r1 .nil).len g
 simp only[sz,simprocAttr,oq,vl]
 refine Nq (b:=0) (n:=p.length) (by omega) (Nat.zero_le _) fun g1 hu hn1 hf1=>?_
 obtain ⟨id,hid⟩:∃id,id=G.empty.nx:=⟨_,rfl⟩
 rw[<-hid] at hu ⊢
 clear hid hn1 hf1
 simp only[sz,simprocAttr]
 refine fO (fun n t df g=>df=[]/\∃(L:List Nat) (D:Nat) (tl:List Int),n=p.length - L.length/\L.length+tl.length=p.length/\GO p L/\MQ D L/\HW p D/\St t [(0,v'),(4,.hsl id 0 0 (L.map fun i:Nat=>(i:Int)).length none),(5,.int .u64 (D:Int))]/\OwnC g 0 id (L.map fun i:Nat=>(i:Int)) tl) p.length
  ⟨rfl,[],0,List.replicate p.length 0,by simp,by simp,⟨by simp,by simp⟩,⟨by decide,by simp⟩,GJ,by simp[sx,St],hu⟩ ?_
 rintro n t df g ⟨rfl,L,D,tl,rfl,hLt,hO,hD,hG,⟨h0,h4,h5,-⟩,hu⟩
 have hLl:=In hO
 have hul:∀g',eG .slice (.hsl id 0 0 (L.map fun i:Nat=>(i:Int)).length none) g'=.val (.int .i64 (L.length:Int)):=fun g'=>by rw[bO hu.rows];simp
 simp only[sz,simprocAttr,pz,h0,h4,vl,hul]
 refine aT (fun hb=>?_) (fun hb=>?_)
 ·have hlt2:L.length<p.length:=by simpa using hb
  obtain ⟨y,tl,rfl⟩:∃y tl',tl=y::tl':=by
   cases tl with
   | nil=>simp at hLt;omega
   | cons y tl=>exact ⟨y,tl,rfl⟩
  simp only[sz,simprocAttr,h0,vl,pg]
  refine bk (m:=p.length) (by omega) (fun j t df g'=>df=[]/\g'=g/\St t [(0,v'),(16,v'),(4,.hsl id 0 0 (L.map fun i:Nat=>(i:Int)).length none),(5,.int .u64 (D:Int))]/\∀v,v<j->D.testBit v=true\/¬Sub (Par p v) D)
   ⟨rfl,rfl,by simp[sx,St,h0,h4,h5],fun v hv=>by omega⟩ (by simp[sx]) (by simp[sx]) (by decide) (by rintro j t df g v s (rfl | rfl | rfl)<;>simp[sx,St]) ?_ ?_
  ·rintro j t df g' hj ⟨rfl,rfl,⟨h0,h16,h4,h5,-⟩,hall⟩ h18 h17
   obtain ⟨x,hx,-,hxm⟩:=ae hj
   have hpj:Par p j=x:=by simp[Par,hx]
   have hxl:=hlt x hxm
   have hjl:j<(p.map cu).length:=by simpa using hj
   have hjr:(p.map cu)[j]?=some (cu x):=by rw[List.getElem?_map,hx];rfl
   have b1:=Bi .i64 D j hD.1
   have hdv:D / 2 ^ j<18446744073709551616:=Nat.lt_of_le_of_lt (Nat.div_le_self _ _) hD.1
   have b2:cA .and (.int .u64 ((D / 2 ^ j:Nat):Int)) (.int .u64 1)=.val (.int .u64 ((D / 2 ^ j &&& 1:Nat):Int)):=FG _ 1 hdv (by decide)
   have b3:=Ee x D hxl hD.1
   have ra:=fun h=>(r1 h).nats
   have hbit:D.testBit j = !decide (((D / 2 ^ j &&& 1:Nat):Int)=0):=by
    rw[<-tP,S.bf]
    have h2:D / 2 ^ j &&& 1=(D / 2 ^ j) % 2:=Nat.and_one_is_mod _
    rw[h2]
    have:=Nat.mod_lt (D / 2 ^ j) (show 0<2 by decide)
    by_cases h3:D / 2 ^ j % 2=0
    ·rw[h3];simp
    ·have h4:D / 2 ^ j % 2=1:=by omega
     rw[h4];simp
   have next:(D.testBit j=true\/¬Sub (Par p j) D)->∀v,v<j+1->D.testBit v=true\/¬Sub (Par p v) D:=fun h v hv=>by
    by_cases e:v=j
    ·subst e;exact h
    ·exact hall v (by omega)
   by_cases c1:((D / 2 ^ j &&& 1:Nat):Int)=0
   ·by_cases c2:((x ^^^ (x &&& D):Nat):Int)=0
    ·have hd0:S.bA x D=0:=by simpa [S.bA] using c2
     have hsub:=z9.1 hd0
     have hjL:j ∉ L:=fun h=>by
      have:=(hD.2 j).2 h
      rw[hbit,c1] at this;simp at this
     have hb2:D ||| S.aP j<18446744073709551616:=E_ hD.1 (uS j)
     simp only[sz,simprocAttr,h16,h4,h5,h18,b1,b2,b3,ra,hjl,hjr,cu,c1,c2]
     refine Je (x:=(j:Int)) (hu.fr (by simp) (by rw[G.new_h,aD _ _ _ (by have:=hu.2.1;omega)])) (by simp[sx,sy,ci]) (by simp;omega) fun g2 hu2 n2 f2=>?_
     have hone:cA .shl (.int .u64 1) (.int .i64 (j:Int))=.val (.int .u64 (S.aP j:Int)):=qQ .i64 j
     have e1:(L.map fun i:Nat=>(i:Int))++[(j:Int)]=(L++[j]).map fun i:Nat=>(i:Int):=by simp
     rw[e1] at hu2 ⊢
     simp only[sz,simprocAttr,h5,hone,BA _ _ hD.1 (uS j)]
     refine ⟨p.length - (L++[j]).length,by simp;omega,L++[j],D ||| S.aP j,tl,rfl,by simp at hLt ⊢;omega,Hb hO hjL hj fun q hq=>?_,HI hD (by omega),Jg hG (by omega) (by rw[hpj];exact hsub),by simp[sx,St,h0],hu2⟩
     rw[hpj] at hq;exact (hD.2 q).1 (hsub q hq)
    ·have hns:¬Sub (Par p j) D:=fun h=>c2 (by
      have:=z9.2 h
      rw[hpj] at this
      simp[S.bA] at this
      simp[this])
     simp only[sz,simprocAttr,h0,h16,h4,h5,h18,h17,b1,b2,b3,ra,hjl,hjr,cu,c1,c2,St]
     exact next (.inr hns)
   ·simp only[sz,simprocAttr,h0,h16,h4,h5,h18,h17,b1,b2,ra,hjl,hjr,cu,c1,St]
    exact next (.inl (by rw[hbit,decide_eq_false c1];rfl))
  ·rintro t df g' ⟨rfl,rfl,-,hall⟩
   obtain ⟨v0,hv0,hv0'⟩:=KI hO hlt2
   have hac:S.aQ p=false:=by
    cases hc:S.aQ p with
    | false=>rfl
    | true =>
     have:=BK hp hc (T:=D) (fun v hv hb=>by
      rcases hall v hv with h | h
      ·rw[h] at hb;cases hb
      ·exact h) v0 hv0
     exact absurd ((hD.2 v0).1 this) hv0'
   simp only[sz,simprocAttr,pu]
   exact ⟨fun _=>True,[],.nils,.bool false,rfl,⟨.nils,rfl,by show 0<9223372036854775808;decide,rfl⟩,dq.2 (by rw[hac])⟩
 ·have hge:p.length<=L.length:=by simp at hb;omega
  have htl:tl=[]:=List.eq_nil_of_length_eq_zero (by omega)
  subst htl
  have hfull:=G3 hO hge
  have hac:=A5 hG fun v hv=>(hD.2 v).2 (hfull.1 v hv)
  simp only[sz,simprocAttr,po,h4]
  refine ⟨fun _=>True,L.map (fun i:Nat=>(i:Int)),_,_,rfl,⟨_,rfl,by simp;omega,trivial,_,hu.rows,All2.of_map (fun a=>aI.2 rfl) _⟩,dq.2 (by rw[hac])⟩
theorem GX {C:Cfg}{d id nt:Nat}{t:T}{ps:List Nat}{assign body:Code}{a b:SC}{dfr:Nat}{args:List AV}{g:G}{K:AV->G->Prop}{D:ADf->Prop}{t':T}
  (hg:g.h.get id=.loop nt t ps assign body dfr .ready none) (ha:dZ C nt assign=a) (hb:dZ C nt body=b) (hp:dM t nt ps args=some t')
  (h:wp C d (some id) a (fun e t1 df g1=>e=.norm/\df=[]/\g1=g /\
   wp C d (some id) b (fun e _ df g2=>df=[]/\g2.h.get id=.loop nt t ps assign body dfr .busy none/\((e=.norm/\K (.bool true) (g2.put id (.loop nt t ps assign body dfr .ready none)))\/(e=.ret/\K (.bool false) (g2.put id (.loop nt t ps assign body dfr .done (some .ret))))))
    t1 [] (g.put id (.loop nt t ps assign body dfr .busy none))) t' [] g) :
  (cO (I C) d id args g).sat K g D:=by
 subst ha;subst hb
 unfold cO
 rw[show g.get id=_ from hg]
 dsimp only
 rw[hp]
 dsimp only
 have h1:=q9 h
 cases hc:(I C).code nt d (some id) assign t' [] g with
 | fail=>rw[hc] at h1;exact h1.elim
 | ok e t1 df g1 =>
  rw[hc] at h1
  obtain ⟨rfl,rfl,rfl,h2⟩:=h1
  dsimp only
  rw[show g1.get id=_ from hg]
  dsimp only
  have h3:=q9 h2
  cases hc2:(I C).code nt d (some id) body t1 [] (g1.put id (.loop nt t ps assign body dfr .busy none)) with
  | fail=>rw[hc2] at h3;exact h3.elim
  | ok e t2 df2 g2 =>
   rw[hc2] at h3
   obtain ⟨rfl,h4,h5⟩:=h3
   dsimp only
   rw[show g2.get id=_ from h4]
   rcases h5 with ⟨rfl,h5⟩ | ⟨rfl,h5⟩<;>exact h5
theorem yD {C:Cfg}{d nt:Nat}{f:Od}{ps:List Nat}{a b:SC}{Q:QT}{t:T}{df:List ADf}{g:G}{fn:Nat}{first cap:List AV}{s:SF}(hv:f.get t=.clo fn first cap)(he:C.ext fn=none)(hs:nFn C fn=some s)
  (hl:(first++(.yld (g.nx+1)::cap)).length<=s.nt)
  (h:∀assign body,dZ C nt assign=a->dZ C nt body=b ->
   wp C d none s.code (fnQ C d s.res fun _ g2=>∃nt' t' ps' as' bd' dfr',(g2.h.get (g.nx+1)=.loop nt' t' ps' as' bd' dfr' .ready none/\Q .norm t (.mark g.nx::df) (g2.put (g.nx+1) (.loop nt' t' ps' as' bd' dfr' .exhausted none))) \/
     (g2.h.get (g.nx+1)=.loop nt' t' ps' as' bd' dfr' .done (some .ret)/\Q .ret t (.mark g.nx::df) (g2.put (g.nx+1) (.loop nt' t' ps' as' bd' dfr' .exhausted (some .ret)))))
    (co 0 (first++(.yld (g.nx+1)::cap)) .nil) [] ((g.new (.dfr true)).new (.loop nt t ps assign body g.nx .ready none))) :
  wp C d none (.rng nt f ps a b) Q t df g:=by
 intro assign body ha hb
 have h:=o4 hs hl (h assign body ha hb)
 show (cC C (I C) nt d none (f.get t) ps assign body t (.mark g.nx::df) g.nx (g.new (.dfr true))).sat Q
 rw[hv]
 unfold cC
 dsimp only
 rw[he]
 show (match (I C).call d fn (first++(AV.yld (g.nx+1)::cap)) ((g.new (.dfr true)).new (.loop nt t ps assign body g.nx .ready none)) with
  | .ok _ g2=>dC (I C) nt d none (g.nx+1) t (.mark g.nx::df) g2
  | .fail=>.fail).sat Q
 cases hc:(I C).call d fn (first++(AV.yld (g.nx+1)::cap)) ((g.new (.dfr true)).new (.loop nt t ps assign body g.nx .ready none)) with
 | fail=>rw[hc] at h;exact h.elim
 | ok v g2 =>
  rw[hc] at h
  obtain ⟨nt',t',ps',as',bd',dfr',h⟩:=h
  show (dC (I C) nt d none (g.nx+1) t (.mark g.nx::df) g2).sat Q
  unfold dC
  rcases h with ⟨h1,h2⟩ | ⟨h1,h2⟩
  ·rw[show g2.get (g.nx+1)=_ from h1]
   exact h2
  ·rw[show g2.get (g.nx+1)=_ from h1]
   dsimp only
   rw[EX]
   exact h2
def RwV (x:Node):VS:=fun P k h v=>∃p,v=.clo N.ac [] [p] /\
 ((∃id cs,p=.hptr id 0 0 0/\P id/\h.get id=.cells 3 [cs] 0 false false/\Rp.rp P k h x cs)\/∃t cs,p=.tptr t 3 [cs] 0 0/\t<=k/\Rp.rp NoP k .nil x cs)
theorem M_ (x:Node):Snb (RwV x) 2:=by
 refine ⟨fun {P k h v n} d r hn=>?_,fun {k h v n} r hn=>?_⟩
 ·obtain ⟨p,rfl,r⟩:=r
  obtain ⟨n,rfl⟩:∃q,n=q+2:=⟨n - 2,by omega⟩
  rcases r with ⟨id,cs,rfl,-,hg,r⟩ | ⟨t,cs,rfl,ht,r⟩
  ·obtain ⟨cs',e,r'⟩:=Rp.snap (n:=n) d r (by show (_:Nat)<=n;exact Nat.le_trans (show Rp.dp Node<=20 by decide) (by omega)) (by decide)
   obtain ⟨m,e2,l2⟩:=Rp.tag (n:=aE) r' (by decide)
   refine ⟨.clo N.ac [] [.tptr (Nat.max d (Nat.max m 0)) 3 [cs'] 0 0],?_,_,rfl,.inr ⟨_,cs',rfl,?_,r'⟩⟩
   ·have:Hx.snap h d (n+1) (.hptr id 0 0 0)=some (.tptr (Nat.max d (Nat.max m 0)) 3 [cs'] 0 0):=by
     simp only[Hx.snap,hg,show Nat.beq 0 0=true from rfl,aB,e,fC,gg,e2]
    simp only[Hx.snap,aB] at this ⊢
    rw[this]
   ·show max d (max m 0)<=max k d
    omega
  ·refine ⟨.clo N.ac [] [.tptr t 3 [cs] 0 0],rfl,_,rfl,.inr ⟨t,cs,rfl,by omega,Rp.mono r (fun i hi=>hi.elim) (by omega)⟩⟩
 ·obtain ⟨p,rfl,r⟩:=r
  obtain ⟨n,rfl⟩:∃q,n=q+2:=⟨n - 2,by omega⟩
  rcases r with ⟨id,cs,rfl,hP,-⟩ | ⟨t,cs,rfl,ht,r⟩
  ·exact hP.elim
  ·exact ⟨Nat.max t 0,rfl,by show max t 0<=k;omega⟩
theorem x9 {d:Nat}{g:G}{v:AV}{x:Node}(hd:0<d)(hm:Agg x NoP 0 g.h v) :
  ∃pa ra,ah C0 d N.ay [v] g=.val (.clo N.ac [] [.tptr 0 3 [[.int .i64 x.card,pa,ra]] 0 0])/\SlR NoP 0 .nil x.parents pa/\SlR NoP 0 .nil x.rows ra:=by
 have e0:=fU d hm
 obtain ⟨cs,rfl,hc⟩:=hm
 obtain ⟨a,b,rfl,hR,hN⟩:=bM.1 hc
 have key:∃r,ah C0 d N.ay [.agg [.int .i64 x.card,a,b]] g=.val r/\RwV x NoP 0 .nil r:=by
  rw[zG]
  refine aN BY (xs:=[.agg [.int .i64 x.card,a,b]]) (by simp only[aB,e0]) (by simp[tj]) (M_ x) (by decide) hd ?_
  simp only[sz,simprocAttr,tj,t_]
  exact ⟨fun _=>True,_,rfl,.inl ⟨0,_,rfl,trivial,by simp[sx],Rp.tree hc (Nat.le_refl _)⟩⟩
 obtain ⟨r,h1,p,rfl,h2⟩:=key
 rcases h2 with ⟨id,cs,rfl,hP,-⟩ | ⟨t,cs,rfl,ht,hr⟩
 ·exact hP.elim
 ·have:t=0:=by omega
  subst this
  obtain ⟨a',b',rfl,hR',hN'⟩:=bM.1 hr
  exact ⟨a',b',h1,hR',hN'⟩
theorem uo (fo l sz i off:Nat)(rows:List (List AV)):Kk fo (.tptr l sz rows i off)=.val (.tptr l sz rows i (off+fo)):=rfl
theorem HX {d id:Nat}{c:Int}{pa ra:AV}{rws:List (List Int)}{g0:G}{K:AV->G->Prop}(hra:SlR NoP 0 .nil rws ra)(J:Nat->H->Prop)(E:G->Prop)
  (step:∀(j:Nat) (r:List Int) (z:AV) (g:G) (K':AV->G->Prop) (D:ADf->Prop),rws[j]?=some r->SlR NoP 0 .nil r z->g0.nx<=g.nx->J j g.h ->
   (∀g',J (j+1) g'.h->g.nx<=g'.nx->K' (.bool true) g')->(∀g',E g'->K' (.bool false) g')->(cO (I C0) d id [.int .i64 (j:Int),z] g).sat K' g D)
  (h0:J 0 g0.h) (fin:∀g',J rws.length g'.h->g0.nx<=g'.nx->K (.tup []) g') (finE:∀g',E g'->K (.tup []) g') :
  wp C0 d none fE.code (fnQ C0 d fE.res K) (co 0 [.yld id,.tptr 0 3 [[.int .i64 c,pa,ra]] 0 0] .nil) [] g0:=by
 obtain ⟨rr,s1,s2,s3,s4⟩:=wV hra
 simp only[sz,simprocAttr,fE,o8,uo,iM,hra.len]
 refine bk (m:=rws.length) hra.1 (fun j t df g=>df=[]/\St t [(0,.yld id),(6,ra)]/\J j g.h/\g0.nx<=g.nx) ⟨rfl,by simp[St,sx],h0,Nat.le_refl _⟩ (by simp[sx]) (by simp[sx]) (by decide) (by rintro j t df g v s (rfl | rfl | rfl)<;>simp[St,sx]) ?_ ?_
 ·rintro j t df g hj ⟨rfl,⟨h0,h6,-⟩,hJ,hn⟩ h8 h7
  obtain ⟨r,hr,-,-⟩:=ae hj
  obtain ⟨z,q2,q3,hz⟩:=s3 j r hr
  have hry:=s4 (by omega)
  simp only[sz,simprocAttr,h0,h6,h8,s1,q2,q3]
  show (cO (I C0) d id [.int .i64 (j:Int),z] g).sat _ _ _
  refine step j r z g _ _ hr hz hn hJ (fun g' hJ' hn'=>?_) fun g' hE=>?_
  ·simp only[sz,simprocAttr,h7,h8]
   simp[St,sx,h0,h6,hJ',Nat.le_trans hn hn']
  ·simp only[sz,simprocAttr]
   exact finE g' hE
 ·rintro t df g ⟨rfl,-,hJ,hn⟩
  simp only[sx,↓reduceIte]
  exact fin g hJ hn
theorem Ez:C0.ext N.ac=none:=by kernel_rfl
structure RowQ (b:Nat) (g2 g3:G) (e:Ex) (A B:Prop):Prop where
 nx:g2.nx<=g3.nx
 fr:∀i,b<=i->i<g2.nx->g3.h.get i=g2.h.get i
 st:(e=.norm/\A)\/(e=.ret/\B)
theorem Df {d nt y p q:Nat}{c:Int}{pa ra:AV}{rws:List (List Int)}{ca cb:SC}{Q:QT}{t:T}{g:G}(hra:SlR NoP 0 .nil rws ra)(hv:tat t y=.clo N.ac [] [.tptr 0 3 [[.int .i64 c,pa,ra]] 0 0])(hp:p<nt)(hq:q<nt)
  (J:Nat->H->Prop) (E:H->Prop) (hJ:∀j h h',(∀i,i<g.nx->h'.get i=h.get i)->J j h->J j h') (hE:∀h h',(∀i,i<g.nx->h'.get i=h.get i)->E h->E h') (h0:J 0 g.h)
  (step:∀(j:Nat) (r:List Int) (z:AV) (g1:G),rws[j]?=some r->SlR NoP 0 .nil r z->J j g1.h->g.nx+2<=g1.nx ->
   wp C0 d (some (g.nx+1)) ca (fun e t1 df g1'=>e=.norm/\df=[]/\g1'=g1/\∀g2:G,g2.nx=g1.nx->(∀i,i≠g.nx+1->g2.h.get i=g1.h.get i) ->
    wp C0 d (some (g.nx+1)) cb (fun e _ df g3=>df=[]/\RowQ g.nx g2 g3 e (J (j+1) g3.h) (E g3.h)) t1 [] g2)
    (fQ (fQ t p (.int .i64 (j:Int))) q z) [] g1)
  (fin:∀g',J rws.length g'.h->g.nx+2<=g'.nx->g'.h.get g.nx=.dfr true->Q .norm t [.mark g.nx] g')
  (finE:∀g',E g'.h->g.nx+2<=g'.nx->g'.h.get g.nx=.dfr true->Q .ret t [.mark g.nx] g') :
  wp C0 d none (.rng nt (.t y) [p,q] ca cb) Q t [] g:=by
 refine yD (fn:=N.ac) (first:=[]) (cap:=[.tptr 0 3 [[.int .i64 c,pa,ra]] 0 0]) (s:=fE) hv Ez y9 (by simp[fE]) ?_
 intro assign body ha hb
 have e1:((g.new (.dfr true)).new (.loop nt t [p,q] assign body g.nx .ready none)).nx=g.nx+2:=by simp
 refine HX (g0:=(g.new (.dfr true)).new (.loop nt t [p,q] assign body g.nx .ready none)) (id:=g.nx+1) hra
  (fun j h=>J j h/\h.get g.nx=.dfr true/\h.get (g.nx+1)=.loop nt t [p,q] assign body g.nx .ready none)
  (fun g'=>E g'.h/\g'.h.get g.nx=.dfr true/\g'.h.get (g.nx+1)=.loop nt t [p,q] assign body g.nx .done (some .ret)/\g.nx+2<=g'.nx) ?_ ?_ ?_ ?_
 ·rintro j r z g1 K' D hr hz hn ⟨a1,a2,a3⟩ kk kE
  rw[e1] at hn
  refine GX a3 ha hb (t':=fQ (fQ t p (.int .i64 (j:Int))) q z) ?_ ?_
  ·simp only[dM,aa,Nat.blt_eq,if_pos hp,if_pos hq];rfl
  ·refine ct _ (step j r z g1 hr hz a1 (by omega)) ?_
   rintro e t1 df g1' ⟨rfl,rfl,rfl,h⟩
   refine ⟨rfl,rfl,rfl,?_⟩
   have hl:g.nx+1<g1'.nx:=by omega
   refine ct _ (h (g1'.put (g.nx+1) (.loop nt t [p,q] assign body g.nx .busy none)) (by simp) (fun i hi=>by simp[H.get_put,hi])) ?_
   rintro e t2 df g3 ⟨rfl,⟨b2,b3,b1⟩⟩
   have b4:g3.h.get (g.nx+1)=.loop nt t [p,q] assign body g.nx .busy none:=by rw[b3 _ (by omega) (by simpa using hl)];simp[H.get_put]
   have b5:g3.h.get g.nx=.dfr true:=by
    rw[b3 _ (by omega) (by simp;omega)];simp[H.get_put,a2]
   refine ⟨rfl,b4,?_⟩
   rcases b1 with ⟨rfl,b1⟩ | ⟨rfl,b1⟩
   ·refine .inl ⟨rfl,kk _ ⟨hJ _ g3.h _ (fun i hi=>by simp[H.get_put,show ¬i=g.nx+1 by omega]) b1,?_,?_⟩ (by simpa using b2)⟩
    ·simp[H.get_put,b5]
    ·simp[H.get_put]
   ·refine .inr ⟨rfl,kE _ ⟨hE g3.h _ (fun i hi=>by simp[H.get_put,show ¬i=g.nx+1 by omega]) b1,?_,?_,?_⟩⟩
    ·simp[H.get_put,b5]
    ·simp[H.get_put]
    ·simp at b2 ⊢;omega
 ·refine ⟨hJ 0 g.h _ (fun i hi=>?_) h0,?_,?_⟩
  ·simp[H.get_put,show ¬i=g.nx+1 by omega,show ¬i=g.nx by omega]
  ·simp[H.get_put]
  ·simp[H.get_put]
 ·rintro g' ⟨a1,a2,a3⟩ hn
  rw[e1] at hn
  refine ⟨_,_,_,_,_,_,.inl ⟨a3,fin _ (hJ _ g'.h _ (fun i hi=>by simp[H.get_put,show ¬i=g.nx+1 by omega]) a1) (by simpa using hn) ?_⟩⟩
  simp[H.get_put,a2]
 ·rintro g' ⟨a1,a2,a3,hn⟩
  refine ⟨_,_,_,_,_,_,.inr ⟨a3,finE _ (hE g'.h _ (fun i hi=>by simp[H.get_put,show ¬i=g.nx+1 by omega]) a1) (by simpa using hn) ?_⟩⟩
  simp[H.get_put,a2]
abbrev NwM:Type:=Net×List Int×List Nat×List Int
theorem v_ {P:Nat->Prop}{k:Nat}{h:H}{x:NwM}{cs:List AV}:Rp.rp P k h x cs↔∃a b c e,cs=[.int .i64 x.1.grain,a,b,c,e]/\SlR P k h x.1.nodes a/\SlR P k h x.2.1 b/\SlR P k h x.2.2.1 c/\SlR P k h x.2.2.2 e:=by
 constructor
 ·rintro ⟨c1,c2,rfl,h1,c3,c4,rfl,⟨b,rfl,hb⟩,c5,c6,rfl,⟨c,rfl,hc⟩,⟨e,rfl,he⟩⟩
  obtain ⟨a,rfl,ha⟩:=dh.1 h1
  exact ⟨a,b,c,e,rfl,ha,hb,hc,he⟩
 ·rintro ⟨a,b,c,e,rfl,ha,hb,hc,he⟩
  exact ⟨[_,a],[b,c,e],rfl,dh.2 ⟨a,rfl,ha⟩,[b],[c,e],rfl,⟨b,rfl,hb⟩,[c],[e],rfl,⟨c,rfl,hc⟩,⟨e,rfl,he⟩⟩
theorem BI:∀{l:List Int},(∀x∈l,0<=x)->0<=l.sum
 | [],_=>by simp
 | x::l,h=>by
  have:=BI (l:=l) fun y hy=>h y (by simp[hy])
  have:=h x (by simp)
  rw[List.sum_cons];omega
theorem CP {l:List Int}(h:∀x∈l,0<=x)(j:Nat):(l.take j).sum<=l.sum:=by
 have:=BI (l:=l.drop j) fun x hx=>h x (List.mem_of_mem_drop hx)
 have e:l.sum=(l.take j).sum+(l.drop j).sum:=by rw[<-List.sum_append,List.take_append_drop]
 omega
theorem xz:∀{l:List Int},(∀x∈l,0<=x)->∀x∈l,x<=l.sum
 | [],_,x,hx=>by simp at hx
 | y::l,h,x,hx=>by
  have h1:=BI (l:=l) fun z hz=>h z (by simp[hz])
  have h2:=h y (by simp)
  rw[List.sum_cons]
  rcases List.mem_cons.1 hx with rfl | hx
  ·omega
  ·have:=xz (l:=l) (fun z hz=>h z (by simp[hz])) x hx;omega
def S.aW (gr:Int)(cs:List Int)(x:Node):Bool:=decide ((x.rows.length:Int)=S.ae (S.ac cs x.parents))&&x.rows.all (S.aD gr x.card)
structure FJ (gr:Int) (r:List Int) (z:AV) (j:Nat) (t:T):Prop where
 st:St t [(2,.hptr 0 0 0 0),(3,.hptr 1 0 0 0),(4,.hptr 2 0 0 0),(9,z),(40,z),(10,.int .i64 (gr - (r.take j).sum))]
 nn:∀x∈r.take j,0<=x
 le:(r.take j).sum<=gr
theorem GU {d:Nat}{rd:Option Nat}{gr:Int}{r:List Int}{z:AV}{Q:QT}{t:T}{g:G}(hz:SlR NoP 0 .nil r z)(hg1:1<=gr/\gr<=60)
  (ht:St t [(2,.hptr 0 0 0 0),(3,.hptr 1 0 0 0),(4,.hptr 2 0 0 0),(9,z),(40,z),(10,.int .i64 gr)]) (h42:tat t 42=.int .i64 0) (h41:tat t 41=.int .i64 (r.length:Int)) (e2:g.h.get 2=.cells 1 [[.bool false]] 0 false false)
  (bad:∀t,(∀card,S.aD gr card r=false)->Q .ret t [] (g.put 2 (.cells 1 [[.bool false]] 0 false false)))
  (fin:∀t,(∀x∈r,0<=x)->r.sum<=gr->St t [(2,.hptr 0 0 0 0),(3,.hptr 1 0 0 0),(4,.hptr 2 0 0 0),(9,z),(10,.int .i64 (gr - r.sum))]->Q (.exit 4) t [] g) :
  wpL (wp C0 d rd dP) Q t [] g:=by
 have rz:=fun h=>(hz.tree (h':=h) (Nat.le_refl 0)).ints
 simp only[dP]
 refine bk (m:=r.length) hz.1 (fun j t df g'=>df=[]/\g'=g/\FJ gr r z j t) ⟨rfl,rfl,by simpa using ht,by simp,by simp;omega⟩ h42 h41 (by decide)
  (by rintro j t df g v s (rfl | rfl | rfl) ⟨a1,a2,⟨b1,b2,b3,b4,b5,b6,-⟩,b7,b8⟩<;>exact ⟨a1,a2,by simp[St,sx,b1,b2,b3,b4,b5,b6],b7,b8⟩) ?_ ?_
 ·rintro j t df g' hj ⟨rfl,rfl,⟨⟨h2,h3,h4,h9,h40,h10,-⟩,hnn,hle⟩⟩ h42 h41
  obtain ⟨y,hy,htk,hm⟩:=ae hj
  have u1:j<(r.map ci).length:=by simpa using hj
  have u2:(r.map ci)[j]?=some (ci y):=by rw[List.getElem?_map,hy];rfl
  have hs0:=BI hnn
  by_cases c1:y<0
  ·simp only[sz,simprocAttr,h4,h40,h42,rz,u1,u2,ci,c1,e2]
   exact bad _ (fun card=>by
    rw[<-Bool.not_eq_true,S.aD]
    simp only[Bool.and_eq_true,decide_eq_true_eq,List.all_eq_true]
    rintro ⟨⟨-,h⟩,-⟩
    have:=h y hm;omega)
  ·by_cases c2:gr - (r.take j).sum<y
   ·simp only[sz,simprocAttr,h4,h40,h10,h42,rz,u1,u2,ci,c1,c2,e2]
    exact bad _ (fun card=>by
     rw[<-Bool.not_eq_true,S.aD]
     simp only[Bool.and_eq_true,decide_eq_true_eq,List.all_eq_true]
     rintro ⟨⟨-,h⟩,hs⟩
     have h1:=CP (l:=r) (fun x hx=>(h x hx).1) (j+1)
     rw[htk,tz] at h1
     omega)
   ·have w1:IntKind.wrap .i64 (gr - (r.take j).sum - y)=gr - (r.take (j+1)).sum:=by
     rw[aq (by omega) (by omega),htk,tz];omega
    simp only[sz,simprocAttr,h40,h10,h42,h41,rz,u1,u2,ci,c1,c2,w1]
    refine ⟨by simp[St,sx,h2,h3,h4,h9,h40],fun x hx=>?_,by rw[htk,tz];omega⟩
    rw[htk] at hx
    rcases List.mem_append.1 hx with h | h
    ·exact hnn x h
    ·rw[List.mem_singleton.1 h];omega
 ·rintro t df g' ⟨rfl,rfl,⟨⟨h2,h3,h4,h9,h40,h10,-⟩,hnn,hle⟩⟩
  rw[List.take_length] at hnn hle h10
  exact fin t hnn hle ⟨h2,h3,h4,h9,h10,trivial⟩
structure FlJ (cs1 cs2:List AV) (gr card:Int) (rws:List (List Int)) (j:Nat) (h:H):Prop where
 a0:h.get 0=.cells 5 [cs1] 0 false false
 a1:h.get 1=.cells 3 [cs2] 0 false false
 a2:h.get 2=.cells 1 [[.bool false]] 0 false false
 all:∀r∈rws.take j,S.aD gr card r=true
structure FlE (gr card:Int) (rws:List (List Int)) (h:H):Prop where
 a2:h.get 2=.cells 1 [[.bool false]] 0 false false
 ex:∃r∈rws,S.aD gr card r=false
theorem Hz {d k1 k2:Nat}{g:G}{P1 P2:Nat->Prop}{v w:AV}{m:NwM}{x:Node}(hd:0<d)(hm:Agg m P1 k1 g.h v)(hx:Agg x P2 k2 g.h w)(hk:k2=0/\P2=NoP)(hg1:1<=m.1.grain/\m.1.grain<=60)(hc:∀c∈m.2.1,1<=c/\c<=4)
  (hp:∀p∈x.parents,0<=p/\p<m.2.1.length) (hpl:x.parents.length<=8):ah C0 d N.a9 [v,w] g=.val (.bool (S.aW m.1.grain m.2.1 x)):=by
 obtain ⟨rfl,rfl⟩:=hk
 obtain ⟨v',e1,cs,rfl,hcs⟩:=jD (bE m) (by decide) d hm
 obtain ⟨nb,cb,sb,ob,rfl,-,hcb,-,-⟩:=v_.1 hcs
 have e2:=fU d hx
 obtain ⟨cs2,rfl,hcs2⟩:=hx
 obtain ⟨pa,ra,rfl,hpa,hra⟩:=bM.1 hcs2
 have hcs2':∀h,Agg x NoP 0 h (.agg [.int .i64 x.card,pa,ra]):=fun h=>⟨_,rfl,Rp.tree hcs2 (Nat.le_refl _)⟩
 have hra:=hra.tree (h':=.nil) (Nat.le_refl 0)
 have rp:=fun h=>(hpa.tree (h':=h) (Nat.le_refl 0)).ints
 have rc:=fun h=>(hcb.tree (h':=h) (Nat.le_refl _)).ints
 have pl:=fun g=>(hpa.tree (h':=.nil) (Nat.le_refl 0)).len g
 have rl:=fun g=>hra.len g
 rw[nC]
 refine du pD (xs:=[.agg [.int .i64 m.1.grain,nb,cb,sb,ob],.agg [.int .i64 x.card,pa,ra]]) (by simp only[aB,e1,e2]) (by simp[eP]) hd ?_
 simp only[sz,simprocAttr,eP]
 obtain ⟨g0,hg0⟩:∃g0,g0=((G.empty.new (.cells 5 [[.int .i64 m.1.grain,nb,cb,sb,ob]] 0 false false)).new (.cells 3 [[.int .i64 x.card,pa,ra]] 0 false false)).new (.cells 1 [[.bool false]] 0 false false):=⟨_,rfl⟩
 rw[<-hg0]
 have f0:g0.h.get 0=.cells 5 [[.int .i64 m.1.grain,nb,cb,sb,ob]] 0 false false:=by rw[hg0];simp[sx,H.get_put]
 have f1:g0.h.get 1=.cells 3 [[.int .i64 x.card,pa,ra]] 0 false false:=by rw[hg0];simp[sx,H.get_put]
 have f2:g0.h.get 2=.cells 1 [[.bool false]] 0 false false:=by rw[hg0];simp[sx]
 have f3:g0.nx=3:=by rw[hg0];simp[sx]
 clear hg0
 simp only[sz,simprocAttr,g9,f1,pl,gH]
 refine bk (m:=x.parents.length) (by omega) (fun j t df g=>df=[]/\g=g0/\St t [(2,.hptr 0 0 0 0),(3,.hptr 1 0 0 0),(4,.hptr 2 0 0 0),(14,pa),(5,.int .i64 (S.ae (S.ac m.2.1 (x.parents.take j))))])
  ⟨rfl,rfl,by simp[St,sx,S.ae,S.ac]⟩ (by simp[sx]) (by simp[sx]) (by decide) (by rintro j t df g v s (rfl | rfl | rfl)<;>simp[St,sx]) ?_ ?_
 ·rintro j t df g hj ⟨rfl,rfl,⟨h2,h3,h4,h14,h5,-⟩⟩ h16 h15
  obtain ⟨p,hpj,htk,hm2⟩:=ae hj
  obtain ⟨p0,p1⟩:=hp p hm2
  obtain ⟨p,rfl⟩:=Int.eq_ofNat_of_zero_le p0
  have hpl2:p<m.2.1.length:=by omega
  have u1:j<(x.parents.map ci).length:=by simpa using hj
  have u2:(x.parents.map ci)[j]?=some (ci (p:Int)):=by rw[List.getElem?_map,hpj];rfl
  have u3:p<(m.2.1.map ci).length:=by simpa using hpl2
  have u4:(m.2.1.map ci)[p]?=some (ci m.2.1[p]):=by rw[List.getElem?_map,List.getElem?_eq_getElem hpl2];rfl
  have e3:S.ae (S.ac m.2.1 (x.parents.take (j+1)))=S.ae (S.ac m.2.1 (x.parents.take j))*m.2.1[p]:=by
   rw[htk,dV,nU]
   congr 1
   simp[S.ac,S.ae,List.getElem?_eq_getElem hpl2]
  have hpb:=bT (l:=S.ac m.2.1 (x.parents.take (j+1))) (bC hc fun q hq=>hp q (List.mem_of_mem_take hq))
  have hp4:=ea (a:=(S.ac m.2.1 (x.parents.take (j+1))).length) (b:=8) (by simp[S.ac];omega)
  have h48:(4:Int) ^ 8=65536:=by decide
  have w1:IntKind.wrap .i64 (S.ae (S.ac m.2.1 (x.parents.take j))*m.2.1[p])=S.ae (S.ac m.2.1 (x.parents.take (j+1))):=by rw[<-e3,aq (by omega) (by omega)]
  simp only[sz,simprocAttr,h2,h14,h5,h16,h15,f0,rp,rc,u1,u2,u3,u4,ci,w1]
  simp[St,sx,h2,h3,h4,h14]
 rintro t df g ⟨rfl,rfl,⟨h2,h3,h4,h14,h5,-⟩⟩
 rw[List.take_length] at h5
 simp only[gK]
 by_cases c1:(x.rows.length:Int)=S.ae (S.ac m.2.1 x.parents)
 ·obtain ⟨pa',ra',er,hpa',hra'⟩:=x9 (d:=d+1) (g:=g) (Nat.succ_pos d) (hcs2' g.h)
  refine dU (P:=fun t' df g'=>df=[]/\g'=g/\St t' [(2,.hptr 0 0 0 0),(3,.hptr 1 0 0 0),(4,.hptr 2 0 0 0)]) ?_ ?_
  ·simp only[sz,simprocAttr,h3,h5,f1,rl,c1]
   simp[St,sx,h2,h3,h4]
  clear h2 h3 h4 h5 h14
  rintro t df g ⟨rfl,rfl,h2,h3,h4,-⟩
  rw[ej,ej]
  simp only[sz,simprocAttr,h3,f1,er]
  refine Df (c:=x.card) (pa:=pa') hra' (by simp[sx]) (by decide) (by decide)
   (FlJ [.int .i64 m.1.grain,nb,cb,sb,ob] [.int .i64 x.card,pa,ra] m.1.grain x.card x.rows)
   (FlE m.1.grain x.card x.rows) ?_ ?_ ⟨f0,f1,f2,by simp⟩ ?_ ?_ ?_
  ·rintro j h h' hh ⟨a0,a1,a2,a3⟩
   exact ⟨by rw[hh 0 (by omega),a0],by rw[hh 1 (by omega),a1],by rw[hh 2 (by omega),a2],a3⟩
  ·rintro h h' hh ⟨a2,a3⟩
   exact ⟨by rw[hh 2 (by omega),a2],a3⟩
  ·rintro j r z g1 hr hz ⟨a0,a1,a2,a3⟩ hn
   obtain ⟨r',hr',htk,hrm⟩:=ae (l:=x.rows) (j:=j) (List.getElem?_eq_some_iff.1 hr).1
   rw[hr] at hr';injection hr' with hr';subst hr'
   simp only[sz,simprocAttr,gM]
   intro g2 hg2n hg2
   have b0:g2.h.get 0=.cells 5 [[.int .i64 m.1.grain,nb,cb,sb,ob]] 0 false false:=by rw[hg2 0 (by omega),a0]
   have b1:g2.h.get 1=.cells 3 [[.int .i64 x.card,pa,ra]] 0 false false:=by rw[hg2 1 (by omega),a1]
   have b2:g2.h.get 2=.cells 1 [[.bool false]] 0 false false:=by rw[hg2 2 (by omega),a2]
   simp only[sz,simprocAttr,gD,h2,b0,hz.len]
   refine GU (gr:=m.1.grain) (r:=r) (z:=z) hz hg1 (by simp[St,sx,h2,h3,h4]) (by simp[sx]) (by simp[sx]) b2 ?_ ?_
   ·rintro t hrow
    simp only[sx,sy]
    exact ⟨by simp,fun i h1 h2=>by simp[H.get_put,show ¬i=2 by omega],.inr ⟨rfl,by simp[H.get_put],r,hrm,hrow _⟩⟩
   ·rintro t hnn hle ⟨h2,h3,h4,h9,h10,-⟩
    have hzl:=fun g=>hz.len g
    by_cases c2:(r.length:Int)=x.card
    ·by_cases c3:m.1.grain - r.sum=0
     ·simp only[sz,simprocAttr,b_,h3,h9,h10,hzl,b1,c2,c3]
      refine ⟨Nat.le_refl _,fun i _ _=>rfl,.inl ⟨rfl,b0,b1,b2,fun y hy=>?_⟩⟩
      rw[htk] at hy
      rcases List.mem_append.1 hy with h | h
      ·exact a3 y h
      ·rw[List.mem_singleton.1 h,S.aD]
       simp only[Bool.and_eq_true,decide_eq_true_eq,List.all_eq_true]
       exact ⟨⟨c2,fun q hq=>⟨hnn q hq,by have:=xz hnn q hq;omega⟩⟩,by omega⟩
     ·have hro:S.aD m.1.grain x.card r=false:=by rw[S.aD];simp;intros;omega
      simp only[sz,simprocAttr,b_,h3,h4,h9,h10,hzl,b1,b2,c2,c3]
      exact ⟨by simp,fun i h1 h2=>by simp[H.get_put,show ¬i=2 by omega],.inr ⟨rfl,by simp[H.get_put],r,hrm,hro⟩⟩
    ·have hro:S.aD m.1.grain x.card r=false:=by rw[S.aD];simp[c2]
     simp only[sz,simprocAttr,b_,h3,h4,h9,hzl,b1,b2,c2]
     exact ⟨by simp,fun i h1 h2=>by simp[H.get_put,show ¬i=2 by omega],.inr ⟨rfl,by simp[H.get_put],r,hrm,hro⟩⟩
  ·rintro g' ⟨a0,a1,a2,a3⟩ hn hdf
   rw[List.take_length] at a3
   have hok:S.aW m.1.grain m.2.1 x=true:=by rw[S.aW,List.all_eq_true.2 a3];simp[c1]
   simp only[sz,simprocAttr,gI,h4,a2]
   refine nG (by simp[H.get_put,show ¬g.nx=2 by omega,hdf]) ?_
   simp only[sx,sy,↓reduceIte,Nat.reduceEqDiff,h4,hok]
   simp[show ¬(2=g.nx) by omega]
   rfl
  ·rintro g' ⟨a2,r,hr,hro⟩ hn hdf
   have hok:S.aW m.1.grain m.2.1 x=false:=by
    rw[S.aW]
    have:x.rows.all (S.aD m.1.grain x.card)=false:=by
     rw[<-Bool.not_eq_true,List.all_eq_true]
     intro h
     rw[h r hr] at hro;cases hro
    rw[this,Bool.and_false]
   simp only[sx]
   refine nG hdf ?_
   simp only[sx,sy,↓reduceIte,Nat.reduceEqDiff,h4,hok]
   rw[if_neg (by omega),a2]
   rfl
 ·simp only[sz,simprocAttr,h3,h4,h5,f1,f2,rl,c1]
  rw[S.aW];simp[c1]
theorem AT:∀{l:List Int} {v:Nat},(∀x∈l,0<=x/\x<64)->((S.au l).testBit v=true↔(v:Int)∈l):=by
 have key:∀(l:List Int) (s v:Nat),(∀x∈l,0<=x/\x<64)->((l.foldl (fun s x=>s ||| S.aP x.toNat) s).testBit v=true↔s.testBit v=true\/(v:Int)∈l):=by
  intro l
  induction l with
  | nil=>intro s v _;simp
  | cons x l ih =>
   intro s v h
   have hx:=h x (by simp)
   rw[List.foldl_cons,ih _ _ fun y hy=>h y (by simp[hy]),rN,Bz (show x.toNat<64 by omega),Bool.or_eq_true,decide_eq_true_eq,List.mem_cons]
   constructor
   ·rintro ((h | h) | h)
    ·exact .inl h
    ·exact .inr (.inl (by omega))
    ·exact .inr (.inr h)
   ·rintro (h | h | h)
    ·exact .inl (.inl h)
    ·exact .inl (.inr (by omega))
    ·exact .inr h
 intro l v h
 have:=key l 0 v h
 simpa [S.au] using this
theorem If {l:List Int}{k:Nat}(hk:k<=64)(h:∀x∈l,0<=x/\x<k):S.au l<2 ^ k:=by
 have hb:∀i,k<=i->(S.au l).testBit i=false:=fun i hi=>by
  rw[<-Bool.not_eq_true,AT fun x hx=>by have:=h x hx;omega]
  intro hm
  have:=h _ hm
  omega
 exact Nat.lt_pow_two_of_testBit _ fun i hi=>hb i hi
structure RdH (n:Net) (b cv sv:AV) (q:Nat) (X:List Int) (Y:List Nat) (g:G):Prop where
 h0:g.h.get 0=.cells 2 [[.int .i64 n.grain,b]] 0 false false
 h1:g.h.get 1=.cells 5 [[.int .i64 0,.nils,.nils,.nils,.nils]] 0 false false
 hq:g.h.get q=.cells 5 [[.int .i64 n.grain,b,cv,sv,.nils]] 0 false false
 hc:Own g 2 cv 1 (X.map ci)
 hs:Own g 2 sv 1 (Y.map cu)
 q2:2<=q
 qn:q<g.nx
 d1:vid cv≠some q
 d2:vid sv≠some q
 d3:∀i,vid cv=some i->vid sv≠some i
theorem RdH.fr {n:Net}{b cv sv:AV}{q:Nat}{X:List Int}{Y:List Nat}{g g':G}(h:RdH n b cv sv q X Y g)(f:Fr g g'):RdH n b cv sv q X Y g' :=
 ⟨by rw[f.2 0 (by have:=h.qn;have:=h.q2;omega),h.h0],by rw[f.2 1 (by have:=h.qn;have:=h.q2;omega),h.h1],by rw[f.2 q h.qn,h.hq],h.hc.step f,h.hs.step f,h.q2,Nat.lt_of_lt_of_le h.qn f.1,h.d1,h.d2,h.d3⟩
def S.bC (n:Net)(o:List Int):NwM:=if S.aA n then (n,S.aa n,S.ap n,o) else (⟨0,[]⟩,[],[],[])
def Dw (n:Net):VS:=fun P k h v=>∃o:List Int,True/\rI (Agg (S.bC n o)) (One (if S.aA n then (0:Int) else 50)) P k h v
section
variable {d:Nat}{n:Net}{b cv sv:AV}{q:Nat}{rows:List (List AV)}
def LRd (q:Nat):List (Nat×AV):=[(1,.hptr 0 0 0 0),(2,.hptr 1 0 0 0),(4,.hptr q 0 0 0)]
theorem Mn {t:T}{g:G}(hn:¬NR n)(h1:g.h.get 1=.cells 5 [[.int .i64 0,.nils,.nils,.nils,.nils]] 0 false false)(t2:tat t 2=.hptr 1 0 0 0)(t3:tat t 3=.int .i64 50) :
  fnQ C0 d kJ.res (fun v g'=>∃P,Dw n P 0 g'.h v) .ret t [] g:=by
 have hf:S.aA n=false:=by
  cases h:S.aA n with
  | false=>rfl
  | true=>exact absurd (di.1 h) hn
 simp only[kJ,sx,sy,↓reduceIte,Nat.reduceAdd,Nat.reduceLeDiff,t2,t3,h1]
 refine ⟨fun _=>True,[],trivial,_,_,rfl,⟨_,rfl,?_⟩,?_⟩
 ·rw[S.bC,hf]
  exact v_.2 ⟨.nils,.nils,.nils,.nils,rfl,⟨by show 0<9223372036854775808;decide,rfl⟩,⟨by show 0<9223372036854775808;decide,rfl⟩,⟨by show 0<9223372036854775808;decide,rfl⟩,⟨by show 0<9223372036854775808;decide,rfl⟩⟩
 ·rw[hf];exact aI.2 rfl
structure Rd0 (n:Net) (b cv sv:AV) (q j:Nat) (t:T) (g:G):Prop where
 st:St t ((48,b)::(5,.int .i64 (S.ae ((S.aa n).take j)))::LRd q)
 hp:RdH n b cv sv q ((S.aa n).take j++List.replicate (n.nodes.length - j) 0) (List.replicate n.nodes.length 0) g
 ok:∀x∈n.nodes.take j,1<=x.card/\x.card<=4
theorem LD {Q:QT}{t:T}{g:G}(hl:n.nodes.length<=8)(hN:SlR NoP 0 .nil n.nodes b)(r1:∀h,af h 3 b=some rows)(r2:rows.length=n.nodes.length)
  (r3:∀(i:Nat) (x:Node),n.nodes[i]?=some x->∃pa ra,rows[i]?=some [.int .i64 x.card,pa,ra]/\i<rows.length/\SlR NoP 0 .nil x.parents pa/\SlR NoP 0 .nil x.rows ra) (r4:0<n.nodes.length->iX b=true)
  (h0:Rd0 n b cv sv q 0 t g) (h50:tat t 50=.int .i64 0) (h49:tat t 49=.int .i64 (n.nodes.length:Int))
  (bad:∀t g,¬NR n->g.h.get 1=.cells 5 [[.int .i64 0,.nils,.nils,.nils,.nils]] 0 false false->tat t 2=.hptr 1 0 0 0->tat t 3=.int .i64 50->Q .ret t [] g)
  (fin:∀t g,Rd0 n b cv sv q n.nodes.length t g->Q (.exit 0) t [] g):wpL (wp C0 d none mW) Q t [] g:=by
 simp only[mW]
 refine bk (m:=n.nodes.length) (by omega) (fun j t df g=>df=[]/\Rd0 n b cv sv q j t g) ⟨rfl,h0⟩ h50 h49 (by decide)
  (by rintro j t df g v s (rfl | rfl | rfl) ⟨a1,⟨b1,b2,b3,b4,b5,-⟩,c1,c2⟩<;>exact ⟨a1,by simp[St,LRd,sx,b1,b2,b3,b4,b5],c1,c2⟩) ?_ ?_
 ·rintro j t df g hj ⟨rfl,⟨⟨h48,h5,h1,h2,h4,-⟩,hp,hok⟩⟩ h50 h49
  obtain ⟨x,hx,htk,hxm⟩:=ae hj
  obtain ⟨pa,ra,q1,hlt,hpa,hra⟩:=r3 j x hx
  have hry:=r4 (by omega)
  have q2:=hp.q2
  have qn:=hp.qn
  have hne1:¬(1=g.nx):=by omega
  have hneq:¬(q=g.nx):=by omega
  have f1:Fr g (g.new (.cells 3 [[.int .i64 0,.nils,.nils]] 0 false false)):=Fr.new _ _
  have badn:¬(1<=x.card/\x.card<=4)->¬NR n:=fun h hr=>h (hr.card x hxm)
  by_cases c1:x.card<1
  ·simp only[sz,simprocAttr,h2,h48,h50,r1,hlt,q1,hp.h1,hne1,c1]
   exact bad _ _ (badn (by omega)) (by simp[H.get_put]) (by simp[sx,h2]) (by simp[sx])
  ·by_cases c2:4<x.card
   ·simp only[sz,simprocAttr,h2,h48,h50,r1,hlt,q1,hp.h1,hne1,c1,c2]
    exact bad _ _ (badn (by omega)) (by simp[H.get_put]) (by simp[sx,h2]) (by simp[sx])
   ·have hall:∀y∈n.nodes.take (j+1),1<=y.card/\y.card<=4:=fun y hy=>by
     rw[htk] at hy
     rcases List.mem_append.1 hy with h | h
     ·exact hok y h
     ·rw[List.mem_singleton.1 h];omega
    have hcb:∀c∈(S.aa n).take (j+1),1<=c/\c<=4:=fun c hc=>by
     rw[S.aa,<-List.map_take] at hc
     obtain ⟨y,hy,rfl⟩:=List.mem_map.1 hc
     exact hall y hy
    have hpb:=bT hcb
    have hp4:=ea (a:=((S.aa n).take (j+1)).length) (b:=8) (by rw[List.length_take];omega)
    have h48':(4:Int) ^ 8=65536:=by decide
    have hcj:(S.aa n)[j]?=some x.card:=by simp[S.aa,hx]
    have ets:(S.aa n).take (j+1)=(S.aa n).take j++[x.card]:=by rw[List.take_add_one,hcj];rfl
    have e1:S.ae ((S.aa n).take (j+1))=S.ae ((S.aa n).take j)*x.card:=by rw[ets];exact rh _ _
    have w1:IntKind.wrap .i64 (S.ae ((S.aa n).take j)*x.card)=S.ae ((S.aa n).take (j+1)):=by rw[<-e1,aq (by omega) (by omega)]
    have hlj:((S.aa n).take j).length=j:=by rw[List.length_take,aL];omega
    have hXr:(((S.aa n).take j++List.replicate (n.nodes.length - j) 0).map ci)[j]?=some (ci 0):=by
     rw[List.getElem?_map,List.getElem?_append_right (by omega),hlj,Nat.sub_self,List.getElem?_replicate,if_pos (by omega)];rfl
    have hXl:j<(((S.aa n).take j++List.replicate (n.nodes.length - j) 0).map ci).length:=by simp[aL];omega
    have hXs:((S.aa n).take j++List.replicate (n.nodes.length - j) 0).set j x.card=(S.aa n).take (j+1)++List.replicate (n.nodes.length - (j+1)) 0:=by
     rw[List.set_append_right _ _ (by omega),hlj,Nat.sub_self,ets,show n.nodes.length - j=(n.nodes.length - (j+1))+1 by omega,List.replicate_succ,List.set_cons_zero,List.append_assoc];rfl
    have hp2:=hp.fr f1
    obtain ⟨g2,hg2⟩:∃g2,g2=(g.new (.cells 3 [[.int .i64 0,.nils,.nils]] 0 false false)).put g.nx (.cells 3 [[.int .i64 x.card,pa,ra]] 0 false false):=⟨_,rfl⟩
    have f2:Fr g g2:=by rw[hg2];exact LY (by simp) fun i hi=>by simp[H.get_put,show ¬i=g.nx by omega]
    have hp3:=hp.fr f2
    have f7:g2.h.get g.nx=.cells 3 [[.int .i64 x.card,pa,ra]] 0 false false:=by rw[hg2];simp[H.get_put]
    refine be (P:=fun t' df g'=>df=[]/\g'=g2/\St t' ((48,b)::(5,.int .i64 (S.ae ((S.aa n).take j)))::LRd q)/\tat t' 6=.int .i64 (j:Int)/\tat t' 7=.hptr g.nx 0 0 0/\tat t' 50=.int .i64 (j:Int)/\tat t' 49=.int .i64 (n.nodes.length:Int)) ?_ ?_
    ·simp only[sz,simprocAttr,h48,h49,h50,r1,hlt,q1]
     rw[hg2]
     simp[St,LRd,sx,h1,h2,h4,h5,h48]
    clear h1 h2 h4 h5 h48 h49 h50
    rintro t df g3 ⟨rfl,rfl,⟨h48,h5,h1,h2,h4,-⟩,h6,h7,h50,h49⟩
    have hcr:=hp3.hc.rows
    simp only[sz,simprocAttr,h4,h6,h7,f7,hp3.hq,hcr,hXl,c1,c2]
    refine bu (v:=cv) (sz:=1) (n:=1) (i:=j) (off:=0) (x:=.int .i64 x.card) (row':=ci x.card) hp3.hc hXr rfl rfl rfl fun g4 hu4 n4 f4=>?_
    rw[oo,hXs] at hu4
    have f74:g4.h.get g.nx=.cells 3 [[.int .i64 x.card,pa,ra]] 0 false false:=by rw[f4 _ fun e=>by have:=(hp.hc.lt e).2;omega,f7]
    simp only[sz,simprocAttr,h5,h7,h49,h50,f74,w1]
    refine ⟨by simp[St,LRd,sx,h1,h2,h4,h48],⟨?_,?_,?_,hu4,?_,q2,by rw[n4];exact hp3.qn,hp.d1,hp.d2,hp.d3⟩,hall⟩
    ·rw[f4 0 fun e=>by have:=(hp.hc.lt e).1;omega,hp3.h0]
    ·rw[f4 1 fun e=>by have:=(hp.hc.lt e).1;omega,hp3.h1]
    ·rw[f4 q hp.d1,hp3.hq]
    ·exact hp3.hs.fr (by omega) fun i hi=>f4 i fun e=>hp.d3 i e hi
 ·rintro t df g ⟨rfl,h⟩
  exact fin t g h
end
end
end Hx
end
