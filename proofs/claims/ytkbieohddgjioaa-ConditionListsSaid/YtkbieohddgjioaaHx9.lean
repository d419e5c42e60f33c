/- A part of the proof: an interpreter over abstract values, shown right against the model, and what the functions of the chapter compute on it. -/
import Derived.Test.YtkbieohddgjioaaHx8
set_option linter.unusedVariables false
set_option linter.unusedSimpArgs false
set_option linter.unnecessarySimpa false
section
section
namespace Hx
open Go
noncomputable section
theorem aK {α:Type}{l:List α}{j:Nat}(h:j<l.length):∃x,l[j]?=some x/\l.take (j+1)=l.take j++[x]/\x∈l :=
 ⟨l[j],List.getElem?_eq_getElem h,by rw[List.take_add_one,List.getElem?_eq_getElem h];rfl,List.getElem_mem h⟩
def S.aT (l:List Int):Int:=l.foldl (λs x=>IntKind.wrap .i64 (s*x)) 1
theorem Ec {d:Nat}{g:G}{v:AV}(hd:0<d)(hv:qi g.h v)(hl:(jl g.h v).length<9223372036854775808) :
  aG C0 d N.au [v] g=.val (.int .i64 (S.aT (jl g.h v))):=by
 obtain ⟨v',e,hr,hlen⟩:=AK hv hl d;generalize jl g.h v=l at hr hlen hl ⊢;rw[pj];refine pB rh (xs:=[v']) (by simp only[aJ,e]) (by simp[j7]) hd ?_;simp only[sz,simprocAttr,j7];refine zf hl hlen (λj t df g=>df=[]/\tat t 3=.int .i64 (S.aT (l.take j))) ⟨rfl,by simp[sx,S.aT]⟩ (by simp[sx]) (by simp[sx]) (by decide)
  (by rintro j t df g v s (rfl | rfl | rfl | rfl | rfl | rfl | rfl)<;>simp[sx]) ?_ ?_
 ·rintro j t df g hj ⟨rfl,h3⟩ h4 h0;obtain ⟨x,hx,htk,hm⟩:=aK hj;simp only[sz,simprocAttr,hr,h0,h3,h4,hx,hj,List.length_map,List.getElem?_map,Option.map_some,ci,htk,S.aT,List.foldl_append,List.foldl_cons,List.foldl_nil]
 ·rintro t df g ⟨rfl,h3⟩ -;rw[List.take_length] at h3;simp only[sz,simprocAttr,kK,h3]
def S.bh (l:List Int)(n:Int)(i:Nat):Bool:=decide (0<=l[i]?.getD 0)&&decide (l[i]?.getD 0<n)&&(i == 0 || decide (l[i - 1]?.getD 0<l[i]?.getD 0))
def S.aY (l:List Int)(n:Int):Bool:=(List.range l.length).all (S.bh l n)
def S.an (n:Nat):Nat:=1*2 ^ n % 18446744073709551616
def S.af (l:List Int):Nat:=l.foldl (λs x=>s ||| S.an x.toNat) 0
theorem jb (n:Nat):S.an n<18446744073709551616:=Nat.mod_lt _ (by decide)
theorem oQ {α:Type}(f:α->Nat)(hf:∀a,f a<18446744073709551616):∀(l:List α) (s:Nat),s<18446744073709551616->l.foldl (λs x=>s ||| f x) s<18446744073709551616
 | [],_,h=>h
 | a::l,s,h=>oQ f hf l _ (Ch h (hf a))
theorem gL (l:List Int):S.af l<18446744073709551616:=oQ _ (λa=>jb _) l 0 (by decide)
theorem sJ (l:List Int)(x:Int):S.af (l++[x])=S.af l ||| S.an x.toNat:=by simp[S.af]
theorem eD (k':IntKind)(n:Nat):bo .shl (.int .u64 1) (.int k' (n:Int))=.val (.int .u64 (S.an n:Int)):=C6 k' 1 n
def S.bg (s v:Nat):Bool:=s / 2 ^ v &&& 1 == 1
def S.aL (p:List Nat)(s:Nat)(j:Nat):Nat:=(List.range j).foldl (λs v=>if S.bg s v then s ||| p[v]?.getD 0 else s) s
def S.up (p:List Nat)(s:Nat)(j:Nat):Nat:=(List.range j).foldl (λs _=>S.aL p s p.length) s
theorem iD (p:List Nat)(s j:Nat):S.aL p s (j+1)=if S.bg (S.aL p s j) j then S.aL p s j ||| p[j]?.getD 0 else S.aL p s j:=by unfold S.aL;rw[List.range_succ,List.foldl_append];rfl
theorem kv (p:List Nat)(s j:Nat):S.up p s (j+1)=S.aL p (S.up p s j) p.length:=by unfold S.up;rw[List.range_succ,List.foldl_append];rfl
def S.aU (p:List Nat):Bool:=(List.range p.length).all λv=>!S.bg (S.up p (p[v]?.getD 0) p.length) v
def S.ac (l:List Int):Int:=l.foldl (·*·) 1
theorem sN (l:List Int)(x:Int):S.ac (l++[x])=S.ac l*x:=by simp[S.ac]
theorem jP {a b:Nat}(h:a<=b):(4:Int) ^ a<=4 ^ b:=by
 obtain ⟨c,rfl⟩:∃c,b=a+c:=⟨b - a,by omega⟩
 induction c with
 | zero=>exact Int.le_refl _
 | succ c ih =>
  have:=ih (by omega);rw[show a+(c+1)=(a+c)+1 from rfl,Int.pow_succ];have h0:(0:Int)<=4 ^ (a+c):=Int.le_of_lt (Int.pow_pos (by decide));omega
theorem ou (a:Int)(l:List Int):S.ac (a::l)=a*S.ac l:=by
 have:∀(l:List Int) (s:Int),l.foldl (·*·) s=s*l.foldl (·*·) 1:=by
  intro l
  induction l with
  | nil=>intro s;simp
  | cons x l ih=>intro s;rw[List.foldl_cons,ih,List.foldl_cons,ih (1*x),Int.one_mul,Int.mul_assoc]
 unfold S.ac;rw[List.foldl_cons,this,Int.one_mul]
theorem fM:∀{l:List Int},(∀x∈l,1<=x/\x<=4)->1<=S.ac l/\S.ac l<=4 ^ l.length
 | [],_=>⟨by decide,by decide⟩
 | a::l,h=>by
  obtain ⟨h1,h2⟩:=fM (l:=l) λx hx=>h x (by simp[hx]);obtain ⟨h3,h4⟩:=h a (by simp);rw[ou,List.length_cons,Int.pow_succ,Int.mul_comm (4 ^ l.length)];constructor
  ·have:=Int.mul_le_mul h3 h1 (by decide) (by omega);simpa using this
  ·exact Int.mul_le_mul h4 h2 (by omega) (by decide)
theorem qS (l:List Int)(x:Int):(l++[x]).sum=l.sum+x:=by simp
def S.bE (m:Causal)(p:Int):Int:=(m.nodes[p.toNat]?.map (·.card)).getD 0
def S.bM (m:Causal)(r:Int):Int:=(m.roots[r.toNat]?.map λr=>(r.length:Int)).getD 0
def S.bf (a b:Nat):Nat:=a ^^^ (a &&& b)
theorem wj {n:Nat}(h:n<64):S.an n=2 ^ n:=by unfold S.an;rw[Nat.one_mul,Nat.mod_eq_of_lt];exact Nat.pow_lt_pow_right (a:=2) (by decide) h
def S.bN (m:Causal)(x:Mech):List Int:=x.frm.map (S.bE m)++x.noise.map (S.bM m)
def S.bK (m:Causal):Int:=S.ac (m.roots.map λr=>(r.length:Int))
end
end Hx
end
section
namespace Hx
open Go
def Sub (a s:Nat):Prop:=∀v,a.testBit v=true->s.testBit v=true
theorem nG (s v:Nat):S.bg s v=s.testBit v:=by rw[Nat.testBit_eq_decide_div_mod_eq,S.bg,Nat.and_one_is_mod];rw[Bool.eq_iff_iff,beq_iff_eq,decide_eq_true_iff]
theorem se {a s:Nat}:S.bf a s=0↔Sub a s:=by
 constructor
 ·intro h v hv;have:=congrArg (·.testBit v) h;simp[S.bf,hv] at this;exact this
 ·intro h;refine Nat.eq_of_testBit_eq λv=>?_;have:=h v;simp only[S.bf,Nat.testBit_xor,Nat.testBit_and,Nat.zero_testBit];cases ha:a.testBit v
  ·rfl
  ·rw[this ha];rfl
theorem lP (a b v:Nat):(a ||| b).testBit v=(a.testBit v || b.testBit v):=Nat.testBit_or a b v
theorem pO {n:Nat}(h:n<64)(v:Nat):(S.an n).testBit v=decide (n=v):=by rw[wj h,Nat.testBit_two_pow]
section
variable {p:List Nat}
def Par (p:List Nat)(v:Nat):Nat:=p[v]?.getD 0
def Cl (p:List Nat)(s:Nat):Prop:=∀v,v<p.length->s.testBit v=true->Sub (Par p v) s
theorem sZ {s t:Nat}(hc:Cl p t)(h:Sub s t):∀j,j<=p.length->Sub (S.aL p s j) t
 | 0,_=>h
 | j+1,hj=>by
  have ih:=sZ hc h j (by omega);rw[iD]
  split
  ·rename_i hb;rw[nG] at hb;intro v hv;rw[lP,Bool.or_eq_true] at hv;rcases hv with hv | hv
   ·exact ih v hv
   ·exact hc j (by omega) (ih j hb) v hv
  ·exact ih
theorem xE {s t:Nat}(hc:Cl p t)(h:Sub s t):∀j,Sub (S.up p s j) t
 | 0=>h
 | j+1=>by rw[kv];exact sZ hc (xE hc h j) _ (Nat.le_refl _)
def zo (p:List Nat)(s:Nat):Prop:=Cl p s/\∀v,v<p.length->s.testBit v=true->(S.up p (Par p v) p.length).testBit v=false
theorem pJ:S.aU p=true↔∀v,v<p.length->(S.up p (Par p v) p.length).testBit v=false:=by
 unfold S.aU;rw[List.all_eq_true];constructor
 ·intro h v hv;have:=h v (List.mem_range.2 hv);rw[nG] at this;simpa [Par] using this
 ·intro h v hv;have:=h v (List.mem_range.1 hv);rw[nG];simpa [Par] using this
def bct (s:Nat):Nat->Nat
 | 0=>0
 | n+1=>bct s n+(if s.testBit n then 1 else 0)
theorem wh (s:Nat):∀n,bct s n<=n
 | 0=>Nat.le_refl _
 | n+1=>by have:=wh s n;unfold bct;split<;>omega
theorem ui {a s:Nat}(h:Sub a s):∀n,bct a n<=bct s n
 | 0=>Nat.le_refl _
 | n+1=>by
  have:=ui h n;unfold bct
  split
  ·rename_i hb;rw[if_pos (h n hb)];omega
  ·split<;>omega
theorem AL {a s:Nat}(h:Sub a s){v:Nat}(hv:s.testBit v=true)(ha:a.testBit v=false):∀n,v<n->bct a n<bct s n
 | 0,h0=>by omega
 | n+1,hn=>by
  unfold bct
  by_cases hvn:v=n
  ·subst hvn;have:=ui h v;rw[if_pos hv,ha];simp;omega
  ·have:=AL h hv ha n (by omega)
   split
   ·rename_i hb;rw[if_pos (h n hb)];omega
   ·split<;>omega
theorem uh {s:Nat}:∀n,bct s n=n->∀v,v<n->s.testBit v=true
 | 0,_,v,h=>by omega
 | n+1,h,v,hv=>by
  unfold bct at h;have:=wh s n
  split at h
  ·rename_i hb
   by_cases e:v=n
   ·subst e;exact hb
   ·exact uh n (by omega) v (by omega)
  ·omega
theorem nX {a s:Nat}(h:Sub a s)(h':Sub s a):a=s:=Nat.eq_of_testBit_eq λv=>by
 cases ha:a.testBit v
 ·cases hs:s.testBit v
  ·rfl
  ·rw[h' v hs] at ha;cases ha
 ·rw[h v ha]
theorem Fm {a s:Nat}(h:Sub a s):a<=s:=by
 have:a ||| s=s:=Nat.eq_of_testBit_eq λv=>by
  rw[lP];cases ha:a.testBit v
  ·simp
  ·rw[h v ha];rfl
 rw[<-this];exact Nat.left_le_or
theorem ku (s:Nat):∀j,Sub s (S.aL p s j)
 | 0=>λ_ h=>h
 | j+1=>by
  have ih:=ku s j;rw[iD]
  split
  ·intro v hv;rw[lP,ih v hv];rfl
  ·exact ih
theorem xD {s:Nat}{j k:Nat}(h:j<=k):Sub (S.aL p s j) (S.aL p s k):=by
 induction h with
 | refl=>exact λ_ h=>h
 | step _ ih =>
  rw[iD]
  split
  ·intro v hv;rw[lP,ih v hv];rfl
  ·exact ih
theorem zE {s:Nat}(h:S.aL p s p.length=s):Cl p s:=by
 intro v hv hb u hu;have h1:(S.aL p s v).testBit v=true:=ku s v v hb;have h2:(S.aL p s (v+1)).testBit u=true:=by rw[iD,nG,h1,if_pos rfl,lP];have:(p[v]?.getD 0).testBit u=true:=hu;rw[this];simp
 have:=xD (p:=p) (s:=s) (show v+1<=p.length by omega) u h2;rwa [h] at this
theorem CO {s n v:Nat}(h:s<2 ^ n)(hv:s.testBit v=true):v<n:=by
 rcases Nat.lt_or_ge v n with h1 | h1
 ·exact h1
 ·rw[Nat.testBit_lt_two_pow (Nat.lt_of_lt_of_le h (Nat.pow_le_pow_right (by decide) h1))] at hv;cases hv
theorem FP {f:Nat->Nat}{n:Nat}(hm:∀j,Sub (f j) (f (j+1)))(hb:∀j,f j<2 ^ n)(hs:∀j,f (j+1)=f j->f (j+2)=f (j+1)):f (n+1)=f n:=by
 have key:∀j,j<=bct (f j) n\/f (j+1)=f j:=by
  intro j
  induction j with
  | zero=>exact .inl (Nat.zero_le _)
  | succ j ih =>
   rcases ih with ih | ih
   ·by_cases e:f (j+1)=f j
    ·exact .inr (hs j e)
    ·left;have:∃v,(f (j+1)).testBit v=true/\(f j).testBit v=false:=by
      apply Classical.byContradiction;intro hno;apply e;refine nX (λv hv=>?_) (hm j);cases hc:(f j).testBit v
      ·exact absurd ⟨v,hv,hc⟩ hno
      ·rfl
     obtain ⟨v,h1,h2⟩:=this;have:=AL (hm j) h1 h2 n (CO (hb _) h1);omega
   ·exact .inr (hs j ih)
 rcases key n with h | h
 ·have hc:bct (f n) n=n:=by have:=wh (f n) n;omega
  refine nX (λv hv=>?_) (hm n);exact uh n hc v (CO (hb _) hv)
 ·exact h
theorem Fe {a b n:Nat}(h:a<2 ^ n)(h':b<2 ^ n):a ||| b<2 ^ n:=Nat.or_lt_two_pow h h'
theorem wZ {v:Nat}(hp:∀x∈p,x<2 ^ p.length):Par p v<2 ^ p.length:=by
 unfold Par;cases h:p[v]? with
 | none=>exact Nat.pow_pos (by decide)
 | some x=>exact hp x (List.mem_of_getElem? h)
theorem sY (hp:∀x∈p,x<2 ^ p.length){s:Nat}(hs:s<2 ^ p.length):∀j,S.aL p s j<2 ^ p.length
 | 0=>hs
 | j+1=>by
  have ih:=sY hp hs j;rw[iD]
  split
  ·exact Fe ih (wZ hp)
  ·exact ih
theorem CQ (hp:∀x∈p,x<2 ^ p.length){s:Nat}(hs:s<2 ^ p.length):∀j,S.up p s j<2 ^ p.length
 | 0=>hs
 | j+1=>by rw[kv];exact sY hp (CQ hp hs j) _
theorem AB (hp:∀x∈p,x<2 ^ p.length){s:Nat}(hs:s<2 ^ p.length):Cl p (S.up p s p.length):=by
 apply zE;rw[<-kv];exact FP (f:=λj=>S.up p s j) (λj=>by rw[kv];exact ku _ _) (λj=>CQ hp hs j) (λj e=>by
  have e:S.up p s (j+1)=S.up p s j:=e;show S.up p s (j+1+1)=S.up p s (j+1);rw[kv,e,<-kv,e])
theorem t8 {s:Nat}:∀j,Sub s (S.up p s j)
 | 0=>λ_ h=>h
 | j+1=>λv hv=>by rw[kv];exact ku _ _ v (t8 j v hv)
end
end Hx
end
section
namespace Hx
open Go
noncomputable section
theorem ke {a b:List Nat}(h:∀i∈a,∀j∈b,i≠j):meets a b=false:=by simp only[meets,List.any_eq_false];intro i hi hc;exact h i hi i (List.contains_iff_mem.1 hc) rfl
theorem di {x y:Foot}(hb:x.lk.big=false)(hb2:y.lk.big=false)(hs:x.lk.sr=[])(hs2:y.lk.sr=[])(h1:∀i∈x.wr,∀j∈y.wr,i≠j)(h2:∀i∈x.wr,∀j∈y.lk.rd,i≠j)(h3:∀i∈y.wr,∀j∈x.lk.rd,i≠j) :
  cp x y=true:=by
 have m1:=ke h1;have m2:=ke h2;have m3:=ke h3;have m4:meets y.wr x.wr=false:=ke λi hi j hj e=>h1 j hj i hi e.symm;have m5:∀l:List Nat,meets l []=false:=λl=>by simp[meets]
 simp only[cp,ig,fK,hb,hb2,hs,hs2,m1,m2,m3,m4,m5,fst1,List.map_nil,Bool.not_false,Bool.and_self,Bool.true_or]
 split<;>split<;>rfl
theorem jN {g:G}{b sz bytes:Nat}{zero:List AV}{k1 k2:IntKind}{n:Nat}{K:AV->G->Prop}{D:ADf->Prop}(hn:n<=aT)(hb:n*bytes<=aT)(hg:b<=g.nx)
  (k:∀v' g',Own g' b v' sz (List.replicate n zero)->g'.nx=g.nx+1->(∀i,i<g.nx->g'.h.get i=g.h.get i)->vid v'=some g.nx->g'.lg=g.nx::g.lg->K v' g') :
  (Aa sz bytes zero (.int k1 (n:Int)) (.int k2 (n:Int)) g).sat K g D:=by
 show (match cq aT (.int k2 (.ofNat n)) with
  | some cn=>match cq cn (.int k1 (.ofNat n)) with
   | some ln=>ak (Nat.ble (cn*bytes) aT) (OR.upd (.hsl g.nx 0 0 ln none) (g.new (.cells sz (eO cn zero) 0 false false))) .fail
   | none=>.fail
  | none=>.fail).sat K g D
 simp only[cq,aa,Nat.ble_eq,if_pos hn,Nat.le_refl,if_pos hb,if_true];refine k _ _ (.inr ⟨g.nx,0,false,hg,by simp,by simp,by simp[bi,eO]⟩) (by simp) (λi hi=>?_) rfl (by simp);rw[G.new_h,aN _ _ _ (by omega)]
theorem BF (n sz id ep i off:Nat)(k:IntKind){j:Nat}(h:j<n):Dn n sz (.hptr id ep i off) (.int k (j:Int))=.val (.hptr id ep i (off+j*sz)):=by show ak (Nat.blt j n) (OR.val (.hptr id ep i (off+j*sz))) .fail=_;rw[aa,if_pos (by simpa using h)]
def u8v (x:UInt8):AV:=.int .u8 (x.toNat:Int)
theorem vR (l:List UInt8)(h:H)(d:Nat):snap h d aB (.agg (l.map u8v))=some (.agg (l.map u8v)):=by
 have:∀l:List UInt8,aJ (Hx.snap h d 23) (l.map u8v)=some (l.map u8v):=λl=>by
  induction l with
  | nil=>rfl
  | cons x l ih =>
   simp only[List.map_cons,aJ,ih,show Hx.snap h d 23 (u8v x)=some (u8v x) from rfl]
 show (match aJ (Hx.snap h d 23) (l.map u8v) with | some ys=>some (AV.agg ys) | none=>none)=_;rw[this]
abbrev wc:Type:=List UInt8×UInt16×List UInt8
def S.aZ (us:List UInt8):List Int:=(us.take 5).map λu=>1+(u.toNat:Int) % 4
theorem Cz {P:Nat->Prop}{k:Nat}{h:H}{x:UInt16}{cs:List AV}:Rp.rp P k h x cs↔cs=[.int .u16 (x.toNat:Int)]:=by simp[Rp.rp]
theorem me {P:Nat->Prop}{k:Nat}{h:H}{x:wc}{cs:List AV}:Rp.rp P k h x cs↔∃a b,cs=[a,.int .u16 (x.2.1.toNat:Int),b]/\SlR P k h x.1 a/\SlR P k h x.2.2 b:=by
 constructor
 ·rintro ⟨c1,c2,rfl,⟨a,rfl,h1⟩,c3,c4,rfl,h2,⟨b,rfl,h3⟩⟩;rw[Cz.1 h2];exact ⟨a,b,rfl,h1,h3⟩
 ·rintro ⟨a,b,rfl,h1,h2⟩;exact ⟨[a],[_,b],rfl,⟨a,rfl,h1⟩,[_],[b],rfl,Cz.2 rfl,⟨b,rfl,h2⟩⟩
theorem zI {d k:Nat}{g:G}{P:Nat->Prop}{v:AV}{x:wc}(hd:0<d)(hm:Agg x P k g.h v) :
  ∃r,aG C0 d N.aG [v] g=.val r/\IT 0 (S.aZ x.1) r:=by
 obtain ⟨v',e,cs,rfl,hc⟩:=mJ (gO x) (by decide) d hm;obtain ⟨a,b,rfl,hA,hB⟩:=me.1 hc;obtain ⟨rows,r1,r2,r3,r4⟩:=hA.all;have r1:∀h',ah h' 1 a=some rows:=r1;rw[jW];refine cy lj (xs:=[.agg [a,.int .u16 (x.2.1.toNat:Int),b]]) (by simp only[aJ,e]) (by simp[dV]) (cd _) (by decide) hd ?_;have hL:(S.aZ x.1).length=min x.1.length 5:=by simp[S.aZ];omega
 simp only[sz,simprocAttr,dV,fu];refine dg (min x.1.length 5) (by omega) (λj t df g=>df=[]/\tat t 1=.hptr 0 0 0 0/\g.h.get 0=.cells 3 [[a,.int .u16 (x.2.1.toNat:Int),b]] 0 false false/\1<=g.nx/\∃u,tat t 3=u/\Own g 1 u 1 (((S.aZ x.1).take j).map ci))
  ⟨rfl,by simp[sx],by simp[sx],by simp[sx],_,rfl,.inl ⟨by simp[sx],rfl⟩⟩ (by simp[sx]) (by decide)
  (by rintro j t df g v s (rfl | rfl | rfl)<;>simp[sx]) ?_ ?_ ?_
 ·rintro j t df g hj ⟨rfl,h1,hg,hnx,u,h3,hu⟩ h4
  by_cases hlt:(j:Int)<(x.1.length:Int)
  ·have:decide ((j:Int)<((min x.1.length 5:Nat):Int))=decide ((j:Int)<5):=by congr 1;apply propext;omega
   simp only[sz,simprocAttr,h1,h4,hg,hA.len,hlt,this];exact ⟨hnx,u,h3,hu⟩
  ·have:decide ((j:Int)<((min x.1.length 5:Nat):Int))=false:=decide_eq_false (by omega);simp only[sz,simprocAttr,h1,h4,hg,hA.len,hlt,this];exact ⟨hnx,u,h3,hu⟩
 ·rintro j t df g hj ⟨rfl,h1,hg,hnx,u,h3,hu⟩ h4;obtain ⟨y,hy,-,-⟩:=aK (l:=x.1) (j:=j) (by omega);obtain ⟨z,hz,htk,-⟩:=aK (l:=S.aZ x.1) (j:=j) (by omega);have hzy:z=1+(y.toNat:Int) % 4:=by
   have:(S.aZ x.1)[j]?=some (1+(y.toNat:Int) % 4):=by simp[S.aZ,show j<5 by omega,hy]
   rw[this] at hz;injection hz with hz;exact hz.symm
  obtain ⟨row,z1,z2⟩:=r3 j y hy;rw[d8.1 z2] at z1;have hlt:j<rows.length:=by omega
  have hy8:y.toNat<256:=y.toNat_lt;have m1:0<=(y.toNat:Int) % 4:=by omega
  have m2:(y.toNat:Int) % 4<4:=by omega
  simp only[sz,simprocAttr,h1,h3,h4,hg,r1,hlt,z1,da .u8 (show (0:Int)<=(y.toNat:Int) by omega) (show (0:Int)<4 by decide),ay (show -9223372036854775808<=(y.toNat:Int) % 4 by omega) (show (y.toNat:Int) % 4<9223372036854775808 by omega),ay (show -9223372036854775808<=1+(y.toNat:Int) % 4 by omega) (show 1+(y.toNat:Int) % 4<9223372036854775808 by omega)];refine aM (new:=[ci (1+(y.toNat:Int) % 4)]) (hu.step (Fr.new _ _)) (by simp[sx,sy,ci]) (by simp) (by simp[aT];omega) λv2 g2 hv2 n2 f2 _ l2=>?_;simp only[sz,simprocAttr,h1,h4];refine ⟨?_,?_,_,rfl,?_⟩
  ·rw[f2 0 (by simp) (λe=>by have:=(hu.lt e).1;omega),G.new_h,aN _ _ _ (by omega),hg]
  ·simp at n2;omega
  ·rw[htk,hzy];simpa [ci] using hv2
 ·rintro t df g ⟨rfl,h1,hg,hnx,u,h3,hu⟩;rw[List.take_of_length_le (by omega)] at hu;simp only[sz,simprocAttr,eX,h3];exact ⟨_,hu.ints (by omega)⟩
theorem qN {g:G}{b sz:Nat}{u:AV}{rows:List (List AV)}(hu:Own g b u sz rows){n:Nat}(hn:n<=rows.length) :
  ∃y,oy sz u none (some (.int .i64 (n:Int))) g=.val y/\ah g.h sz y=some (rows.take n):=by
 rcases hu with ⟨rfl,rfl⟩ | ⟨id,ep,lo,h1,h2,rfl,h3⟩
 ·have:n=0:=by simpa using hn
  subst this;exact ⟨.nils,rfl,rfl⟩
 ·simp only[oy,iA,h3,Nat.beq_refl,Nat.beq_refl,Bool.true_and,aq,Nat.zero_add,aa,Nat.ble_eq,Nat.le_refl,if_true,aS,Option.getD_none,Nat.sub_zero];simp only[cq];rw[show ak (n.ble rows.length) (some n) none=some n from by rw[aa,if_pos (by simpa using hn)]];dsimp only
  by_cases h0:rows=[]
  ·subst h0;have:n=0:=by simpa using hn
   subst this;cases lo
   ·exact ⟨_,rfl,rfl⟩
   ·exact ⟨_,rfl,ir _ _ _ _⟩
  ·have hb:rows.length.beq 0=false:=by cases rows with | nil=>exact absurd rfl h0 | cons a l=>rfl
   rw[hb];refine ⟨_,rfl,?_⟩;rw[cT,h3,bD,if_pos (by omega),List.drop_zero]
theorem qO {g:G}{b sz:Nat}{u:AV}{rows:List (List AV)}(hu:Own g b u sz rows){n:Nat}(hn:n<=rows.length) :
  ∃y,oy sz u (some (.int .i64 (n:Int))) none g=.val y/\ah g.h sz y=some (rows.drop n):=by
 rcases hu with ⟨rfl,rfl⟩ | ⟨id,ep,lo,h1,h2,rfl,h3⟩
 ·have:n=0:=by simpa using hn
  subst this;exact ⟨.nils,rfl,rfl⟩
 ·simp only[oy,iA,h3,Nat.beq_refl,Nat.beq_refl,Bool.true_and,aq,Nat.zero_add,aa,Nat.ble_eq,Nat.le_refl,if_true,aS,Option.getD_none,Nat.sub_zero];simp only[cq];rw[show ak (n.ble rows.length) (some n) none=some n from by rw[aa,if_pos (by simpa using hn)]];dsimp only
  by_cases h0:rows.length=n
  ·subst h0;rw[if_pos (Nat.beq_refl _),List.drop_length];cases lo
   ·exact ⟨_,rfl,rfl⟩
   ·exact ⟨_,rfl,ir _ _ _ _⟩
  ·rw[if_neg (λe=>h0 (Nat.eq_of_beq_eq_true e))];refine ⟨_,rfl,?_⟩;rw[cT,h3,bD,if_pos (by omega),List.take_of_length_le (by simp)]
def S.aS (os:List UInt8)(k:Nat):Nat:=if k<os.length then ((os[k]?.map UInt8.toNat).getD 0) % (k+1) else 0
def S.ax (os:List UInt8):Nat->List Int
 | 0=>[]
 | k+1=>(S.ax os k).take (S.aS os k)++(k:Int)::(S.ax os k).drop (S.aS os k)
theorem jO (os:List UInt8):∀k,(S.ax os k).length=k
 | 0=>rfl
 | k+1=>by simp only[S.ax,List.length_append,List.length_cons,List.length_take,List.length_drop,jO os k];omega
theorem qD {d k:Nat}{g:G}{P:Nat->Prop}{v:AV}{x:wc}(hd:0<d)(hm:Agg x P k g.h v) :
  ∃r,aG C0 d N.ak [v] g=.val r/\IT 0 (S.ax x.2.2 (min x.1.length 5)) r:=by
 obtain ⟨v',e,cs,rfl,hc⟩:=mJ (gO x) (by decide) d hm;obtain ⟨a,b,rfl,hA,hB⟩:=me.1 hc;have hms:∀g:G,Agg x NoP (max k d) g.h (.agg [a,.int .u16 (x.2.1.toNat:Int),b]):=λg=>⟨_,rfl,me.2 ⟨a,b,rfl,hA.tree (Nat.le_refl _),hB.tree (Nat.le_refl _)⟩⟩;obtain ⟨rows,r1,r2,r3,r4⟩:=hB.all;have r1:∀h',ah h' 1 b=some rows:=r1;rw[gg];refine cy gZ (xs:=[.agg [a,.int .u16 (x.2.1.toNat:Int),b]]) (by simp only[aJ,e]) (by simp[bU]) (cd _) (by decide) hd ?_;have hL:(S.aZ x.1).length=min x.1.length 5:=by simp[S.aZ];omega
 simp only[sz,simprocAttr,bU,dc];refine dg (min x.1.length 5) (by omega) (λj t df g=>df=[]/\tat t 1=.hptr 0 0 0 0/\g.h.get 0=.cells 3 [[a,.int .u16 (x.2.1.toNat:Int),b]] 0 false false/\1<=g.nx/\∃u,tat t 3=u/\Own g 1 u 1 ((S.ax x.2.2 j).map ci))
  ⟨rfl,by simp[sx],by simp[sx],by simp[sx],_,rfl,.inl ⟨by simp[sx],rfl⟩⟩ (by simp[sx]) (by decide)
  (by rintro j t df g v s (rfl | rfl | rfl)<;>simp[sx]) ?_ ?_ ?_
 ·rintro j t df g hj ⟨rfl,h1,hg,hnx,u,h3,hu⟩ h4;simp only[sz,simprocAttr,h1,h4,hg];refine gu (zI (Nat.succ_pos d) (hms _)) λr hr=>?_;simp only[sz,simprocAttr,h1,h4,hg,(hr.sl .nil).len,hL];exact ⟨hnx,u,h3,hu⟩
 ·rintro j t df g hj ⟨rfl,h1,hg,hnx,u,h3,hu⟩ h4;have hpl:((S.ax x.2.2 j).map ci).length=j:=by rw[List.length_map,jO]
  have hle:S.aS x.2.2 j<=j:=by
   unfold S.aS;split
   ·have:=Nat.mod_lt (((x.2.2)[j]?.map UInt8.toNat).getD 0) (show 0<j+1 by omega);omega
   ·omega
  have key:∀(t:T) (Q:QT),tat t 1=.hptr 0 0 0 0->tat t 3=u->tat t 4=.int .i64 (j:Int)->tat t 5=.int .i64 (S.aS x.2.2 j:Int) ->
    (∀(t':T) (g':G),tat t' 1=.hptr 0 0 0 0->tat t' 4=.int .i64 (j:Int)->g'.h.get 0=.cells 3 [[a,.int .u16 (x.2.1.toNat:Int),b]] 0 false false->1<=g'.nx->(∃u,tat t' 3=u/\Own g' 1 u 1 ((S.ax x.2.2 (j+1)).map ci))->Q .norm t' [] g') ->
    wp C0 (d+1) none bA Q t [] g:=by
   intro t Q h1 h3 h4 h5 kk;obtain ⟨y1,s1,w1⟩:=qN hu (n:=S.aS x.2.2 j) (by omega);simp only[sz,simprocAttr,bA,h3,h5,List.head?_nil,List.head?_cons,s1];refine aM (rows:=[]) (b:=1) (.inl ⟨rfl,rfl⟩) w1 hnx (by simp[aT];omega) λv1 g1 hv1 n1 f1 vid1 _=>?_;simp only[sz,simprocAttr,h4];refine aM (new:=[ci (j:Int)]) (hv1.step (Fr.new _ _)) (by simp[sx,sy,ci]) (by simp) (by simp[aT,jO];omega) λv2 g2 hv2 n2 f2 vid2 _=>?_;have hu1:Own g1 1 u 1 ((S.ax x.2.2 j).map ci):=hu.fr n1 λi hi=>f1 i (hu.lt hi).2 (by simp[vid]);have hnv:∀i,i<g.nx->vid v1≠some i:=λi hi e=>by
    rcases vid1 with h | ⟨i',h,hi'⟩
    ·rw[h] at e;cases e
    ·rw[h] at e;injection e with e;omega
   have hu2:Own g2 1 u 1 ((S.ax x.2.2 j).map ci):=hu1.fr (by simp at n2;omega) λi hi=>by have hlt:=(hu.lt hi).2;rw[f2 i (by simp;omega) (hnv i hlt),G.new_h,aN _ _ _ (by omega)]
   obtain ⟨y2,s2,w2⟩:=qO hu2 (n:=S.aS x.2.2 j) (by omega);simp only[sz,simprocAttr,h3,h5,List.head?_nil,List.head?_cons,s2];refine aM hv2 w2 (by simp at n2;omega) (by simp[aT,jO];omega) λv3 g3 hv3 n3 f3 _ _=>?_;simp only[sz,simprocAttr];refine kk _ _ (by simp[sx,h1]) (by simp[sx,h4]) ?_ (by simp at n2;omega) ⟨_,rfl,?_⟩
   ·rw[f3 0 (by simp at n2;omega) (λe=>by have:=(hv2.lt e).1;omega),f2 0 (by simp) (hnv 0 (by omega)),G.new_h,aN _ _ _ (by omega),f1 0 (by omega) (by simp[vid]),hg]
   ·simp only[sx,↓reduceIte];simpa [S.ax,List.map_take,List.map_drop] using hv3
  simp only[sz,simprocAttr,h1,h4,hg,hB.len];refine jU (λhb=>?_) (λhb=>?_)
  ·have hjo:j<x.2.2.length:=by simp at hb;omega
   obtain ⟨y,hy⟩:∃y,x.2.2[j]?=some y:=⟨_,List.getElem?_eq_getElem hjo⟩;obtain ⟨row,z1,z2⟩:=r3 j y hy;rw[d8.1 z2] at z1;have hy8:y.toNat<256:=y.toNat_lt;have hlt:j<rows.length:=by omega
   have hat:((S.aS x.2.2 j:Nat):Int)=(y.toNat:Int) % ((j:Int)+1):=by unfold S.aS;rw[if_pos hjo,hy];simp
   simp only[sz,simprocAttr,h1,h4,hg,r1,hlt,z1,ay (show -9223372036854775808<=(y.toNat:Int) by omega) (show (y.toNat:Int)<9223372036854775808 by omega),ay (show -9223372036854775808<=(j:Int)+1 by omega) (show (j:Int)+1<9223372036854775808 by omega),da .i64 (show (0:Int)<=(y.toNat:Int) by omega) (show 0<(j:Int)+1 by omega)];refine key _ _ (by simp[sx,h1]) (by simp[sx,h3]) (by simp[sx,h4]) (by simp[sx,hat]) λt' g' e1 e4 e0 en eu=>?_;simp only[sy,e1,e4,e0];exact ⟨en,eu⟩
  ·have hat:S.aS x.2.2 j=0:=by unfold S.aS;rw[if_neg];simp at hb;omega
   simp only[sx];refine key _ _ (by simp[sx,h1]) (by simp[sx,h3]) (by simp[sx,h4]) (by simp[sx,hat]) λt' g' e1 e4 e0 en eu=>?_;simp only[sy,e1,e4,e0];exact ⟨en,eu⟩
 ·rintro t df g ⟨rfl,h1,hg,hnx,u,h3,hu⟩;simp only[sz,simprocAttr,cV,h3];exact ⟨_,hu.ints (by rw[jO];omega)⟩
def S.bD (cards:List Int):List Int->Nat->List Int×Bool
 | vals,0=>(vals,false)
 | vals,k+1=>if (vals[k]?.getD 0)+1<(cards[k]?.getD 0) then (vals.set k ((vals[k]?.getD 0)+1),true) else S.bD cards (vals.set k 0) k
def S.bC (cards vals:List Int):List Int×Bool:=S.bD cards vals vals.length
def S.bz (cards:List Int):Nat->List Int->List (List Int)
 | 0,_=>[]
 | f+1,v=>v::(if (S.bC cards v).2 then S.bz cards f (S.bC cards v).1 else [])
def S.bO (cards:List Int):List (List Int):=S.bz cards (S.ac cards).toNat (List.replicate cards.length 0)
def S.bj:List Int->List Int->Int
 | _::cs,v::vs=>v*S.ac cs+S.bj cs vs
 | _,_=>0
theorem Au {l:List Int}(hc:∀c∈l,1<=c/\c<=4)(hl:l.length<=13):S.aT l=S.ac l:=by
 have pw:∀n,n<=13->(4:Int) ^ n<=67108864:=λn hn=>by
  have:=jP hn;have e:(4:Int) ^ 13=67108864:=by decide
  omega
 have key:∀j,j<=l.length->S.aT (l.take j)=S.ac (l.take j):=by
  intro j
  induction j with
  | zero=>intro _;rfl
  | succ j ih =>
   intro hj;obtain ⟨x,hx,htk,hm⟩:=aK (l:=l) (j:=j) (by omega);have ih:=ih (by omega);have hb:=fM (l:=l.take (j+1)) λy hy=>hc y (List.mem_of_mem_take hy);have:=pw (l.take (j+1)).length (by simp;omega);rw[htk] at hb this ⊢;rw[sN] at hb ⊢;show S.aT (l.take j++[x])=_;unfold S.aT at ih ⊢;rw[List.foldl_append,ih];show IntKind.wrap .i64 (S.ac (l.take j)*x)=_;rw[ay (by omega) (by omega)]
 have:=key l.length (Nat.le_refl _);rwa [List.take_length] at this
end
end Hx
end
section
namespace Hx
open Go
def S.bL (x:Mech)(roots:List Int)(V:Nat->Int):List Int:=(x.frm.map λq=>V q.toNat)++(x.noise.map λr=>roots[r.toNat]?.getD 0)
def S.bF (m:Causal)(roots act:List Int)(V:Nat->Int)(i:Nat)(x:Mech):Int:=if 0<=act[i]?.getD 0 then act[i]?.getD 0 else x.out[(S.bj (S.bN m x) (S.bL x roots V)).toNat]?.getD 0
def Sol (m:Causal)(roots act:List Int)(V:Nat->Int):Prop:=∀(i:Nat) (x:Mech),m.nodes[i]?=some x->V i=S.bF m roots act V i x
noncomputable def S.V (m:Causal)(roots act:List Int):Nat->Int:=Classical.epsilon (Sol m roots act)
noncomputable def S.bP (m:Causal)(roots act:List Int):List Int:=(List.range m.nodes.length).map (S.V m roots act)
end Hx
end
section
namespace Hx
open Go
noncomputable section
def hz (cs vs:List Int)(j:Nat):Int:=((cs.zip vs).take j).foldl (λa p=>a*p.1+p.2) 0
section
variable {d k:Nat}{m:Causal}{roots act:List Int}{V:Nat->Int}{a b w u:AV}{p1 p2 p3 p4 iu:Nat}{hid:Int}{r:Nat->Nat}
end
end
end Hx
end
section
namespace Hx
open Go
noncomputable section
theorem z_ (ag:Bool)(n l sz off:Nat)(row:List AV)(g:G):kP ag n (.tptr l sz [row] 0 off) g=orV (bk ag n row off):=rfl
section
variable {d:Nat}{m:Causal}{a b:AV}
end
end
end Hx
end
section
namespace Hx
open Go
noncomputable section
theorem si {C:Cfg}{d:Nat}{r:List SR}{t:T}{g:G}{K:AV->G->Prop}{id:Nat}(hg:g.h.get id=.dfr true)(h:py r t (g.put id (.dfr false)) λvs=>K (gc vs) (g.put id (.dfr false))):uC C d r t [.mark id] g K:=by
 unfold uC;have:dS (I C) d [.mark id] g=some (g.put id (.dfr false)):=by simp only[dS,G.get_eq,hg]
 rw[this];exact h
def Fam (g:G)(b K:Nat)(V:Nat->AV)(W:Nat->List (List AV)):Prop :=
 (∀k,k<K->Own g b (V k) 1 (W k))/\∀k l,k<K->l<K->k≠l->∀id,vid (V k)=some id->vid (V l)≠some id
def FX (c:Nat->Int)(V:Nat->AV)(i:Nat):List AV:=[.int .i64 (c i),V (3*i+1),V (3*i+2),V (3*i+3)]
def Cy (n:Nat)(c:Nat->Int)(V:Nat->AV):List (List AV):=(List.range n).map (FX c V)
structure ME where
 (n p4 q i5 p7 i9 b:Nat)
 (nv w5 w9 e7:AV)
 (gr:Int)
 (row0:List AV)
 (prow:List (List AV))
 (us:List UInt8)
structure ME.Ok (e:ME):Prop where
 ord:1<e.q/\e.q<e.p4/\e.p4<e.i5/\e.i5<e.p7/\e.p7<e.i9/\e.i9<e.b
 n1:1<=e.n/\e.n<=4
 g1:2<=e.gr/\e.gr<=12
 vn:vid e.nv=some e.q
 v5:vid e.w5=some e.i5
 v9:vid e.w9=some e.i9
 l7:SlR NoP 0 .nil e.us e.e7
structure MI (e:ME) (g:G) (V:Nat->AV) (W:Nat->List (List AV)) (c:Nat->Int) (ow:List Bool) (cap:Nat):Prop where
 h0:g.h.get 0=.cells 5 [e.row0] 0 false false
 h1:g.h.get 1=.cells 3 [[.int .i64 0,.nils,.nils]] 0 false false
 hN:Own g 0 e.nv 4 (Cy e.n c V)
 h4:g.h.get e.p4=.cells 3 [[.int .i64 e.gr,V 0,e.nv]] 0 false false
 h5:Own g 0 e.w5 4 e.prow
 h7:∃cc:Int,0<=cc/\cc<=(cap:Int)/\g.h.get e.p7=.cells 2 [[e.e7,.int .i64 cc]] 0 false false
 h9:Own g 0 e.w9 1 (ow.map λx=>[.bool x])
 fam:Fam g e.b (3*e.n+1) V W
 nx:e.b<=g.nx
section
variable {e:ME}{g g':G}{V:Nat->AV}{W:Nat->List (List AV)}{c:Nat->Int}{ow:List Bool}{cap:Nat}
theorem dK {v:AV}{i j:Nat}(h:vid v=some i)(h':vid v=some j):i=j:=by rw[h] at h';injection h'
structure MP (e:ME) (g:G) (V V':Nat->AV) (W:Nat->List (List AV)) (c:Nat->Int) (ow:List Bool) (cap:Nat):Prop where
 h0:g.h.get 0=.cells 5 [e.row0] 0 false false
 h1:g.h.get 1=.cells 3 [[.int .i64 0,.nils,.nils]] 0 false false
 hN:Own g 0 e.nv 4 (Cy e.n c V)
 h4:g.h.get e.p4=.cells 3 [[.int .i64 e.gr,V 0,e.nv]] 0 false false
 h5:Own g 0 e.w5 4 e.prow
 h7:∃cc:Int,0<=cc/\cc<=(cap:Int)/\g.h.get e.p7=.cells 2 [[e.e7,.int .i64 cc]] 0 false false
 h9:Own g 0 e.w9 1 (ow.map λx=>[.bool x])
 fam:Fam g e.b (3*e.n+1) V' W
 nx:e.b<=g.nx
end
end
end Hx
end
section
namespace Hx
open Go
noncomputable section
structure MD (e:ME) (W:Nat->List (List AV)) (R:List (List Int)) (F N O:Nat->List Int):Prop where
 r:All2 (Rp.rp NoP 0 .nil) R (W 0)
 f:∀i,i<e.n->W (3*i+1)=(F i).map ci
 n:∀i,i<e.n->W (3*i+2)=(N i).map ci
 o:∀i,i<e.n->W (3*i+3)=(O i).map ci
theorem n9 {α β γ:Type}{R:β->γ->Prop}{f:α->β}{h:α->γ}:∀{l:List α},(∀x∈l,R (f x) (h x))->All2 R (l.map f) (l.map h)
 | [],_=>trivial
 | a::l,hl=>⟨hl a (by simp),n9 λx hx=>hl x (by simp[hx])⟩
theorem SlR.wide {α:Type} [Rp α]{P:Nat->Prop}{k k':Nat}{h h':H}{l:List α}{v:AV}(r:SlR NoP k h l v)(hk:k<=k'):SlR P k' h' l v:=by obtain ⟨w,hw,q⟩:=Rp.tree (P:=P) (k':=k') (h':=h') (show Rp.rp NoP k h l [v] from ⟨v,rfl,r⟩) hk;injection hw with hw;subst hw;exact q
structure M0 (n p4 q i5 p7:Nat) (nv w5 cl:AV) (row0:List AV) (prow:List (List AV)) (gr:Int) (g:G) (cf:Nat->Int):Prop where
 h0:g.h.get 0=.cells 5 [row0] 0 false false
 h1:g.h.get 1=.cells 3 [[.int .i64 0,.nils,.nils]] 0 false false
 hN:Own g 2 nv 4 (Cy n cf λ_=>.nils)
 h4:g.h.get p4=.cells 3 [[.int .i64 gr,.nils,nv]] 0 false false
 h5:Own g 2 w5 4 prow
 h7:g.h.get p7=.cells 2 [[cl,.int .i64 0]] 0 false false
 nx:p7<g.nx
section
variable {n p4 q i5 p7:Nat}{nv w5 cl:AV}{row0:List AV}{prow:List (List AV)}{gr:Int}{g g':G}{cf cf':Nat->Int}
end
end
end Hx
end
section
namespace Hx
open Go
noncomputable section
def eid:AV->Option Nat
 | .hsl id _ _ _ _=>some id
 | .hptr id _ _ _=>some id
 | _=>none
def Bx (g:G)(b:Nat)(v:AV)(row:List AV):Prop:=∃id,b<=id/\id<g.nx/\v=.hptr id 0 0 0/\g.h.get id=.cells row.length [row] 0 false false
inductive En where
 | sl (sz:Nat) (rows:List (List AV))
 | bx (row:List AV)
def En.ok (g:G)(b:Nat)(v:AV):En->Prop
 | .sl sz rows=>Own g b v sz rows
 | .bx row=>Bx g b v row
theorem eS {g:G}{b:Nat}{v:AV}{sz:Nat}{rows:List (List AV)}(h:Own g b v sz rows):eid v=vid v:=by rcases h with ⟨rfl,-⟩ | ⟨id,ep,lo,h1,h2,rfl,h3⟩<;>rfl
theorem En.lt {g:G}{b:Nat}{v:AV}{e:En}(h:e.ok g b v){i:Nat}(hi:eid v=some i):b<=i/\i<g.nx:=by
 cases e with
 | sl sz rows =>
  have h:Own g b v sz rows:=h;rw[eS h] at hi;exact h.lt hi
 | bx row =>
  obtain ⟨id,h1,h2,rfl,h3⟩:=h;injection hi with hi;subst hi;exact ⟨h1,h2⟩
theorem En.fr {g g':G}{b:Nat}{v:AV}{e:En}(h:e.ok g b v)(hn:g.nx<=g'.nx)(hf:∀i,eid v=some i->g'.h.get i=g.h.get i):e.ok g' b v:=by
 cases e with
 | sl sz rows =>
  have h:Own g b v sz rows:=h;exact h.fr hn λi hi=>hf i (by rw[eS h];exact hi)
 | bx row =>
  obtain ⟨id,h1,h2,rfl,h3⟩:=h;exact ⟨id,h1,by omega,rfl,by rw[hf id rfl,h3]⟩
section
variable {κ:Type}
structure Hp (g:G) (b:Nat) (L:κ->Prop) (V:κ->AV) (E:κ->En):Prop where
 ok:∀k,L k->(E k).ok g b (V k)
 sep:∀k l,L k->L l->k≠l->∀id,eid (V k)=some id->eid (V l)≠some id
 nx:b<=g.nx
variable {g g':G}{b:Nat}{L L':κ->Prop}{V:κ->AV}{E:κ->En}{k:κ}
theorem Hp.sub (h:Hp g b L V E)(hl:∀k,L' k->L k):Hp g b L' V E:=⟨λk hk=>h.ok k (hl k hk),λk l hk hl2=>h.sep k l (hl k hk) (hl l hl2),h.nx⟩
theorem Hp.step (h:Hp g b L V E)(hn:g.nx<=g'.nx)(hf:∀i,b<=i->i<g.nx->g'.h.get i=g.h.get i):Hp g' b L V E :=
 ⟨λk hk=>En.fr (h.ok k hk) hn λi hi=>hf i (En.lt (h.ok k hk) hi).1 (En.lt (h.ok k hk) hi).2,h.sep,Nat.le_trans h.nx hn⟩
theorem Hp.same (h:Hp g b L V E)(hf:g'.h=g.h)(hn:g.nx<=g'.nx):Hp g' b L V E:=h.step hn λi _ _=>by rw[hf]
theorem Hp.own (h:Hp g b L V E)(hk:L k){sz:Nat}{rows:List (List AV)}(he:E k=.sl sz rows):Own g b (V k) sz rows:=by have:=h.ok k hk;rw[he] at this;exact this
theorem Hp.box (h:Hp g b L V E)(hk:L k){row:List AV}(he:E k=.bx row):Bx g b (V k) row:=by have:=h.ok k hk;rw[he] at this;exact this
end
section
variable {κ:Type} [DecidableEq κ]
def ups {α:Type}(f:κ->α)(k:κ)(x:α):κ->α:=λj=>if j=k then x else f j
theorem ax {α:Type}(f:κ->α)(k:κ)(x:α):ups f k x k=x:=if_pos rfl
theorem ae {α:Type}(f:κ->α){k j:κ}(x:α)(h:j≠k):ups f k x j=f j:=if_neg h
theorem Fn {α:Type}{f:κ->α}{k:κ}{x:α}(h:f k=x):ups f k x=f:=by
 funext j;by_cases e:j=k
 ·subst e;rw[ax,h]
 ·exact ae _ _ e
variable {g g':G}{b:Nat}{L L':κ->Prop}{V:κ->AV}{E:κ->En}{k:κ}
theorem Hp.set (h:Hp g b L V E){v':AV}{e':En}(hk:L k)(ho:e'.ok g' b v')(hn:g.nx<=g'.nx)(hf:∀i,b<=i->i<g.nx->eid (V k)≠some i->g'.h.get i=g.h.get i)
  (hv:eid v'=eid (V k)\/∃i,eid v'=some i/\g.nx<=i):Hp g' b L (ups V k v') (ups E k e'):=by
 refine ⟨λj hj=>?_,λj l hj hl hne id e1 e2=>?_,Nat.le_trans h.nx hn⟩
 ·by_cases e:j=k
  ·subst e;rw[ax,ax];exact ho
  ·rw[ae _ _ e,ae _ _ e];exact En.fr (h.ok j hj) hn λi hi=>hf i (En.lt (h.ok j hj) hi).1 (En.lt (h.ok j hj) hi).2 λe2=>h.sep j k hj hk e i hi e2
 ·have key:∀j,L j->j≠k->∀id,eid (V j)=some id->eid v'≠some id:=λj hj hne id e1 e2=>by
   rcases hv with hv | ⟨i,hv,hi⟩
   ·exact h.sep j k hj hk hne id e1 (hv ▸ e2)
   ·rw[hv] at e2;injection e2 with e2;have:=(En.lt (h.ok j hj) e1).2;omega
  by_cases a:j=k
  ·subst a;rw[ax] at e1;rw[ae _ _ (Ne.symm hne)] at e2;exact key l hl (Ne.symm hne) id e2 e1
  ·rw[ae _ _ a] at e1
   by_cases c:l=k
   ·subst c;rw[ax] at e2;exact key j hj a id e1 e2
   ·rw[ae _ _ c] at e2;exact h.sep j l hj hl hne id e1 e2
theorem Hp.add (h:Hp g b L V E){v':AV}{e':En}(hk:¬L k)(ho:e'.ok g' b v')(hn:g.nx<=g'.nx)(hf:∀i,b<=i->i<g.nx->g'.h.get i=g.h.get i)
  (hv:∀i,eid v'=some i->g.nx<=i) (hl:∀j,L' j->L j\/j=k):Hp g' b L' (ups V k v') (ups E k e'):=by
 refine ⟨λj hj=>?_,λj l hj hl2 hne id e1 e2=>?_,Nat.le_trans h.nx hn⟩
 ·rcases hl j hj with hj | rfl
  ·have e:j≠k:=λe=>hk (e ▸ hj);rw[ae _ _ e,ae _ _ e];exact En.fr (h.ok j hj) hn λi hi=>hf i (En.lt (h.ok j hj) hi).1 (En.lt (h.ok j hj) hi).2
  ·rw[ax,ax];exact ho
 ·have key:∀j,L j->∀id,eid (V j)=some id->eid v'≠some id:=λj hj id e1 e2=>by have:=hv id e2;have:=(En.lt (h.ok j hj) e1).2;omega
  rcases hl j hj with hj | rfl
  ·have e:j≠k:=λe=>hk (e ▸ hj);rw[ae _ _ e] at e1;rcases hl l hl2 with hl2 | rfl
   ·have e':l≠k:=λe=>hk (e ▸ hl2);rw[ae _ _ e'] at e2;exact h.sep j l hj hl2 hne id e1 e2
   ·rw[ax] at e2;exact key j hj id e1 e2
  ·rw[ax] at e1;rcases hl l hl2 with hl2 | rfl
   ·have e':l≠j:=λe=>hne e.symm;rw[ae _ _ e'] at e2;exact key l hl2 id e2 e1
   ·exact hne rfl
theorem Hp.put (h:Hp g b L V E)(hk:L k){sz n i off:Nat}{rows:List (List AV)}{row row':List AV}(he:E k=.sl sz rows){x:AV}{K:AV->G->Prop}{D:ADf->Prop}(hr:rows[i]?=some row)
  (hl:x.cells.length=n) (ht:x.isTup=false) (hp:bp row off x.cells=some row')
  (kk:∀g',Hp g' b L V (ups E k (.sl sz (rows.set i row')))->g'.nx=g.nx->(∀i,i<b->g'.h.get i=g.h.get i)->(∀i,eid (V k)≠some i->g'.h.get i=g.h.get i)->K .undef g'):(iB n (fq sz (V k) i off) x g).sat K g D:=by
 have ho:=h.own hk he;refine bw ho hr hl ht hp λg' hv' hn hf=>?_;have:=h.set hk (e':=.sl sz (rows.set i row')) hv' (by omega) (λi _ hi hne=>hf i (by rw[<-eS ho];exact hne)) (.inl rfl);rw[Fn (f:=V) rfl] at this;exact kk g' this hn (λi hi=>hf i λe=>by have:=(ho.lt e).1;omega) λi hne=>hf i (by rw[<-eS ho];exact hne)
end
end
end Hx
end
section
namespace Hx
open Go
noncomputable section
theorem nT {C:Cfg}{d:Nat}{rd:Option Nat}{l:List SI}{b:SC}{Q:QT}{t:T}{df:List ADf}{g:G}{P:PT}(h1:wpO C d rd l P t df g)(h2:∀t df g,P t df g->wp C d rd b Q t df g):wp C d rd (.seq (.ops l) b) Q t df g:=by
 rw[iE];have:wp C d rd (.ops l) (λe t df g=>e=.norm/\P t df g) t df g:=by rw[ua];simpa using h1
 refine fm _ this ?_;rintro e t df g ⟨rfl,h⟩;exact h2 t df g h
structure Bnd (K:Nat) (m:Causal):Prop where
 r:m.roots.length<=K
 rr:∀x∈m.roots,x.length<=K
 n:m.nodes.length<=K
 f:∀x∈m.nodes,x.frm.length<=K/\x.noise.length<=K/\x.out.length<=K
abbrev Ky:Type:=Nat×Nat
structure BD (K R n:Nat) (V:Ky->AV) (E:Ky->En) (Rt:Nat->List Int) (c:Nat->Int) (F:Nat->Nat->List Int):Prop where
 r:∀i,i<R->E (0,i)=.sl 1 ((Rt i).map ci)/\(Rt i).length<=K
 f:∀q i,1<=q->q<=3->i<n->E (q,i)=.sl 1 ((F q i).map ci)/\(F q i).length<=K
 rs:E (4,0)=.sl 1 ((List.range R).map λi=>[V (0,i)])
 ns:E (4,1)=.sl 4 ((List.range n).map λi=>[.int .i64 (c i),V (1,i),V (2,i),V (3,i)])
structure TI (g:G) (q:Nat) (m:Causal) (k1 k2 act u1 u2 u3:AV) (A B W:List Int):Prop where
 a1:g.h.get 1=.cells 1 [[act]] 0 false false
 a2:g.h.get 2=.cells 3 [[.nils,.nils,.nils]] 0 false false
 a4:g.h.get 4=.cells 4 [[.int .i64 m.grain,k1,k2,.int .i64 (S.bK m)]] 0 false false
 bq:g.h.get q=.cells 3 [[u1,u2,u3]] 0 false false
 o1:Own g 5 u1 1 (A.map ci)
 o2:Own g 5 u2 1 (B.map ci)
 o3:Own g 5 u3 1 (W.map ci)
 q5:5<=q/\q<g.nx
 n1:∀i,vid u1=some i->i≠q/\vid u2≠some i/\vid u3≠some i
 n2:∀i,vid u2=some i->i≠q/\vid u3≠some i
 n3:∀i,vid u3=some i->i≠q
section
variable {g g':G}{q:Nat}{m:Causal}{k1 k2 act u1 u2 u3:AV}{A B W:List Int}
end
end
end Hx
end
section
namespace Hx
open Go
noncomputable section
theorem dh {C:Cfg}{d:Nat}{rd:Option Nat}{a b:SC}{Q:QT}{t:T}{df:List ADf}{g:G}{P:PT}(h1:wp C d rd a (λe t df g=>e=.norm/\P t df g) t df g)(h2:∀t df g,P t df g->wp C d rd b Q t df g):wp C d rd (.seq a b) Q t df g:=by rw[iE];refine fm _ h1 ?_;rintro e t df g ⟨rfl,h⟩;exact h2 t df g h
def S.bQ (s a:List Int):List Int:=(List.range s.length).map λi=>if a[i]?.getD 0<0 then -1 else s[i]?.getD 0
theorem mi {α:Type}{C:α->Prop}{S:α->VS}{j:Nat}(h:∀a,Snb (S a) j):Snb (λP k h v=>∃a,C a/\S a P k h v) j :=
 ⟨λ{P k hh v n} d r hn=>by
  obtain ⟨a,c,r⟩:=r;obtain ⟨v',e,r'⟩:=(h a).snap d r hn;exact ⟨v',e,a,c,r'⟩,λ{k hh v n} r hn=>by
  obtain ⟨a,c,r⟩:=r;exact (h a).tag r hn⟩
theorem l_:∀{A L:List Nat},A.Nodup->(∀v∈A,v∈L)->A.length<=L.length
 | [],_,_,_=>Nat.zero_le _
 | a::A,L,hA,h=>by rw[List.nodup_cons] at hA;have ha:=h a (by simp);have:=l_ (A:=A) (L:=L.erase a) hA.2 λv hv=>(List.mem_erase_of_ne (λe=>hA.1 (by rw[<-e];exact hv))).2 (h v (by simp[hv]));rw[List.length_erase_of_mem ha] at this;have:=List.length_pos_of_mem ha;simp only[List.length_cons];omega
def Ord (p:List Nat)(L:List Nat):Prop:=(∀v,v<p.length->v∈L)/\∀(i v:Nat),L[i]?=some v->v<p.length/\∀q,(Par p v).testBit q=true->q∈L.take i
def zp (p:List Nat)(L:List Nat):Prop:=L.Nodup/\∀(i v:Nat),L[i]?=some v->v<p.length/\∀q,(Par p v).testBit q=true->q∈L.take i
theorem Ci {p L:List Nat}(h:zp p L):L.length<=p.length:=by
 have:=l_ (L:=List.range p.length) h.1 λv hv=>by obtain ⟨i,hi,rfl⟩:=List.mem_iff_getElem.1 hv;exact List.mem_range.2 (h.2 i _ (List.getElem?_eq_getElem hi)).1
 simpa using this
theorem Ah {p L:List Nat}(h:zp p L){v:Nat}(hv:v ∉ L)(hl:v<p.length)(hp:∀q,(Par p v).testBit q=true->q∈L):zp p (L++[v]):=by
 refine ⟨?_,λi u hu=>?_⟩
 ·rw[List.nodup_append];exact ⟨h.1,by simp,λa ha b hb=>by simp at hb;subst hb;exact λe=>hv (e ▸ ha)⟩
 ·rcases Nat.lt_or_ge i L.length with hi | hi
  ·rw[List.getElem?_append_left hi] at hu;obtain ⟨h1,h2⟩:=h.2 i u hu;exact ⟨h1,λq hq=>by rw[List.take_append_of_le_length (by omega)];exact h2 q hq⟩
  ·rw[List.getElem?_append_right hi] at hu;have:i=L.length:=by have:=(List.getElem?_eq_some_iff.1 hu).1;simp at this;omega
   subst this;simp at hu;subst hu;exact ⟨hl,λq hq=>by rw[List.take_left];exact hp q hq⟩
theorem Ag {p L:List Nat}(h:zp p L)(hl:p.length<=L.length):Ord p L:=by
 refine ⟨λv hv=>?_,h.2⟩
 by_cases hm:v∈L
 ·exact hm
 ·have:=l_ (A:=v::L) (L:=List.range p.length) (List.nodup_cons.2 ⟨hm,h.1⟩) λu hu=>by
   rcases List.mem_cons.1 hu with rfl | hu
   ·exact List.mem_range.2 hv
   ·obtain ⟨i,hi,rfl⟩:=List.mem_iff_getElem.1 hu;exact List.mem_range.2 (h.2 i _ (List.getElem?_eq_getElem hi)).1
  simp at this;omega
theorem DC {p L:List Nat}(h:zp p L)(hl:L.length<p.length):∃v,v<p.length/\v ∉ L:=by
 by_cases hh:∃v,v<p.length/\v ∉ L
 ·exact hh
 ·exfalso;have:=l_ (A:=List.range p.length) (L:=L) List.nodup_range λv hv=>by
   by_cases h':v∈L
   ·exact h'
   ·exact absurd ⟨v,List.mem_range.1 hv,h'⟩ hh
  simp at this;omega
def EX (D:Nat)(L:List Nat):Prop:=D<18446744073709551616/\∀v,D.testBit v=true↔v∈L
theorem At {D:Nat}{L:List Nat}(h:EX D L){v:Nat}(hv:v<64):EX (D ||| S.an v) (L++[v]):=by
 refine ⟨Ch h.1 (jb v),λu=>?_⟩;rw[lP,pO hv,Bool.or_eq_true,h.2,decide_eq_true_eq,List.mem_append,List.mem_singleton];constructor
 ·rintro (h | h)
  ·exact .inl h
  ·exact .inr h.symm
 ·rintro (h | h)
  ·exact .inl h
  ·exact .inr h.symm
theorem Et {g g':G}(hn:g.nx<=g'.nx)(h:∀i,i<g.nx->g'.h.get i=g.h.get i):Fr g g':=⟨hn,h⟩
section
variable {m:Causal}{c1 c2 l w c9 v35 ls v48:AV}{al:List Int}{hid kk:Int}{p:Nat}
end
end
end Hx
end
section
namespace Hx
open Go
noncomputable section
theorem wR (l:List Int)(j:Nat)(x:Int):(l.map ci).set j (ci x)=(l.set j x).map ci:=by rw[List.map_set]
theorem D1 {x y:Nat}(hy:0<y):bo .rem (.int .i64 (x:Int)) (.int .i64 (y:Int))=.val (.int .i64 ((x % y:Nat):Int)):=by rw[da .i64 (Int.natCast_nonneg x) (by omega),<-Int.natCast_emod]
theorem DV {x y:Nat}(hx:x<9223372036854775808)(hy:0<y):bo .quo (.int .i64 (x:Int)) (.int .i64 (y:Int))=.val (.int .i64 ((x / y:Nat):Int)):=by have hle:x / y<=x:=Nat.div_le_self _ _;rw[xV .i64 (Int.natCast_nonneg x) (by omega),<-Int.natCast_ediv];generalize x / y=z at hle;rw[ay (by omega) (by omega)]
def S.aV:List Int->Int
 | []=>0
 | x::l=>x+10000*S.aV l
structure S.tI (bl:List Int) (n i:Nat) (V ai:Int) (k:Nat) (c:Int) (L:List Int):Prop where
 len:L.length=n
 rng:∀x∈L,0<=x/\x<10000
 zer:∀j,i+bl.length<=j->i+k<=j->L[j]?.getD 0=0
 kle:k<=bl.length+1
 c0:0<=c
 c1:c<10000
 ce:k=bl.length+1->c=0
 cs:k=0->c=0
 eq:S.aV L+c*10000 ^ (i+k)=V+ai*10000 ^ i*S.aV (bl.take k)
structure S.tO (al bl:List Int) (i:Nat) (L:List Int):Prop where
 len:L.length=al.length+bl.length
 rng:∀x∈L,0<=x/\x<10000
 zer:∀j,i+bl.length<=j->L[j]?.getD 0=0
 eq:S.aV L=S.aV (al.take i)*S.aV bl
structure S.mI (al bl:List Int) (i:Nat) (r:Int) (L:List Int):Prop where
 len:L.length=i
 rng:∀x∈L,0<=x/\x<10000
 r01:r=0\/r=1
 eq:S.aV L=S.aV (al.take i) - S.aV (bl.take i)+r*10000 ^ i
theorem AM {x y:Int}(h0:0<=x)(h1:x<9223372036854775808)(hy:0<y):bo .quo (.int .i64 x) (.int .i64 y)=.val (.int .i64 (x / y)):=by obtain ⟨n,rfl⟩:=Int.eq_ofNat_of_zero_le h0;obtain ⟨m,rfl⟩:=Int.eq_ofNat_of_zero_le (by omega:0<=y);have:=DV (x:=n) (y:=m) (by omega) (by omega);rw[this,Int.natCast_ediv]
structure S.qI (x b n:Nat) (i:Nat) (L:List Int):Prop where
 len:L.length=n
 rng:∀z∈L,0<=z/\z<10000
 eq:S.aV (L.drop i)=((x / 10000 ^ i / b:Nat):Int)
theorem SlR.wd {α:Type} [Rp α]{P P':Nat->Prop}{k:Nat}{h h':H}{l:List α}{v:AV}(r:SlR P k h l v)(hf:∀i,P i->P' i/\h'.get i=h.get i):SlR P' k h' l v:=by obtain ⟨w,hw,q⟩:=Rp.mono (k':=k) (P':=P') (h':=h') (show Rp.rp P k h l [v] from ⟨v,rfl,r⟩) hf (Nat.le_refl _);injection hw with hw;subst hw;exact q
structure HS (m:Causal) (c1 c2 la lb lc:AV) (p q:Nat) (gb g:G):Prop where
 fr:Fr gb g
 mp:g.h.get p=.cells 3 [[.int .i64 m.grain,c1,c2]] 0 false false
 ml:g.h.get q=.cells 3 [[la,lb,lc]] 0 false false
 pn:p<gb.nx
 q0:gb.nx<=q
 qn:q<g.nx
section
variable {m:Causal}{c1 c2 la lb lc w c28 vi c90 vj:AV}{A B Z:List Int}{p q:Nat}
end
end
end Hx
end
end
section
namespace Hx
open Go
section
variable {p:List Nat}
theorem sA:zo p 0:=⟨λv _ hb=>by simp at hb,λv _ hb=>by simp at hb⟩
theorem uQ {q:Nat}(ih:zo p q){j:Nat}(hj:j<64)(hd:Sub (Par p j) q):zo p (q ||| S.an j):=by
 refine ⟨λv hv hb=>?_,λv hv hb=>?_⟩
 ·intro u hu;rw[lP,pO hj,Bool.or_eq_true,decide_eq_true_eq] at hb;rw[lP,Bool.or_eq_true];rcases hb with hb | hb
  ·exact .inl (ih.1 v hv hb u hu)
  ·subst hb;exact .inl (hd u hu)
 ·rw[lP,pO hj,Bool.or_eq_true,decide_eq_true_eq] at hb;cases hq:q.testBit v
  ·rw[hq] at hb;simp at hb;subst hb;rw[<-Bool.not_eq_true];intro hu;have:=xE ih.1 hd p.length j hu;rw[hq] at this;cases this
  ·exact ih.2 v hv hq
theorem na {q:Nat}(h:zo p q)(hf:∀v,v<p.length->q.testBit v=true):S.aU p=true :=
 pJ.2 λv hv=>h.2 v hv (hf v hv)
theorem s_ (hp:∀x∈p,x<2 ^ p.length)(h:S.aU p=true){T:Nat}(hst:∀v,v<p.length->T.testBit v=false->¬Sub (Par p v) T):∀v,v<p.length->T.testBit v=true:=by
 rw[pJ] at h;have none:∀r v,v<p.length->T.testBit v=false->S.up p (Par p v) p.length=r->False:=by
  intro r
  induction r using Nat.strongRecOn with
  | _ r ih =>
   intro v hv hb hr;have hns:=hst v hv hb;have:∃u,(Par p v).testBit u=true/\T.testBit u=false:=by
    apply Classical.byContradiction;intro hno;apply hns;intro u hu;cases hc:T.testBit u
    ·exact absurd ⟨u,hu,hc⟩ hno
    ·rfl
   obtain ⟨u,hu,hub⟩:=this;have hul:u<p.length:=CO (wZ hp) hu;have hcl:=AB hp (s:=Par p v) (wZ hp);have hin:(S.up p (Par p v) p.length).testBit u=true:=t8 _ u hu;have hsub:Sub (S.up p (Par p u) p.length) (S.up p (Par p v) p.length):=xE hcl (hcl u hul hin) _;have hlt:S.up p (Par p u) p.length<S.up p (Par p v) p.length:=by refine Nat.lt_of_le_of_ne (Fm hsub) λe=>?_;have:=h u hul;rw[e,hin] at this;cases this
   exact ih _ (by omega) u hul hub rfl
 intro v hv;cases hc:T.testBit v
 ·exact (none _ v hv hc rfl).elim
 ·rfl
end
end Hx
end
section
namespace Hx
open Go
theorem vB:∀a b:List Int,S.ac (a++b)=S.ac a*S.ac b
 | [],b=>by simp[S.ac]
 | x::a,b=>by rw[List.cons_append,ou,ou,vB a b,Int.mul_assoc]
end Hx
end
section
namespace Hx
open Go
def S.aa (n:Net):List Int:=n.nodes.map (·.card)
def S.am (cs ps:List Int):List Int:=ps.map λp=>cs[p.toNat]?.getD 0
def S.ae (n:Net):List Nat:=n.nodes.map λx=>S.af x.parents
def S.aI (gr card:Int)(r:List Int):Bool:=decide ((r.length:Int)=card)&&r.all (λx=>decide (0<=x)&&decide (x<=gr))&&decide (r.sum=gr)
def S.br (k:Int)(x:Node):Bool:=decide (1<=x.card)&&decide (x.card<=4)&&S.aY x.parents k
def S.bu (n:Net)(x:Node):Bool:=decide ((x.rows.length:Int)=S.ac (S.am (S.aa n) x.parents))&&x.rows.all (S.aI n.grain x.card)
def S.aB (n:Net):Bool:=decide (1<=n.grain)&&decide (n.grain<=60)&&decide (1<=n.nodes.length)&&decide (n.nodes.length<=8)&&n.nodes.all (S.br n.nodes.length)&&decide (S.ac (S.aa n)<=1024)&&S.aU (S.ae n)&&n.nodes.all (S.bu n)
structure NR (n:Net):Prop where
 g1:1<=n.grain
 g2:n.grain<=60
 l1:1<=n.nodes.length
 l2:n.nodes.length<=8
 card:∀x∈n.nodes,1<=x.card/\x.card<=4
 places:∀x∈n.nodes,S.aY x.parents n.nodes.length=true
 worlds:S.ac (S.aa n)<=1024
 acyc:S.aU (S.ae n)=true
 rows:∀x∈n.nodes,(x.rows.length:Int)=S.ac (S.am (S.aa n) x.parents)
 row:∀x∈n.nodes,∀r∈x.rows,(r.length:Int)=x.card/\(∀y∈r,0<=y/\y<=n.grain)/\r.sum=n.grain
theorem im {n:Net}:S.aB n=true↔NR n:=by
 simp only[S.aB,S.br,S.bu,S.aI,Bool.and_eq_true,decide_eq_true_eq,List.all_eq_true];constructor
 ·rintro ⟨⟨⟨⟨⟨⟨⟨a,b⟩,c⟩,d⟩,e⟩,f⟩,g⟩,h⟩;exact ⟨a,b,c,d,λx hx=>(e x hx).1,λx hx=>(e x hx).2,f,g,λx hx=>(h x hx).1,λx hx r hr=>⟨((h x hx).2 r hr).1.1,((h x hx).2 r hr).1.2,((h x hx).2 r hr).2⟩⟩
 ·rintro ⟨a,b,c,d,e1,e2,f,g,h1,h2⟩;exact ⟨⟨⟨⟨⟨⟨⟨a,b⟩,c⟩,d⟩,λx hx=>⟨e1 x hx,e2 x hx⟩⟩,f⟩,g⟩,λx hx=>⟨h1 x hx,λr hr=>⟨⟨(h2 x hx r hr).1,(h2 x hx r hr).2.1⟩,(h2 x hx r hr).2.2⟩⟩⟩
theorem gT {l:List Int}{k:Int}(h:S.aY l k=true):∀x∈l,0<=x/\x<k:=by
 intro x hx;obtain ⟨i,hi,he⟩:=List.mem_iff_getElem.1 hx;have:=List.all_eq_true.1 h i (List.mem_range.2 hi);have e:l[i]?.getD 0=x:=by rw[List.getElem?_eq_getElem hi,he];rfl
 simp only[S.bh,Bool.and_eq_true,decide_eq_true_eq,e] at this;omega
theorem qE {l:List Int}{k:Int}(h:S.aY l k=true){i:Nat}{x y:Int}(hx:l[i]?=some x)(hy:l[i+1]?=some y):x<y:=by have hi:=(List.getElem?_eq_some_iff.1 hy).1;have:=List.all_eq_true.1 h (i+1) (List.mem_range.2 hi);simp only[S.bh,Bool.and_eq_true,decide_eq_true_eq,hy,Option.getD_some,Nat.add_sub_cancel,hx] at this;simp at this;omega
theorem xe {l:List Int}{k:Int}(h:S.aY l k=true)(hk:0<=k):(l.length:Int)<=k:=by
 have key:∀(i:Nat) (x:Int),l[i]?=some x->(i:Int)<=x:=by
  intro i
  induction i with
  | zero=>intro x hx;have:=gT h x (List.mem_of_getElem? hx);omega
  | succ i ih =>
   intro x hx;have hi:=(List.getElem?_eq_some_iff.1 hx).1;have h1:=ih l[i] (List.getElem?_eq_getElem (by omega));have:=qE h (List.getElem?_eq_getElem (show i<l.length by omega)) hx;omega
 by_cases hl:l.length=0
 ·omega
 ·have h1:=key (l.length - 1) l[l.length - 1] (List.getElem?_eq_getElem (by omega));have h2:=gT h _ (List.getElem_mem (show l.length - 1<l.length by omega));omega
theorem ei (n:Net):(S.aa n).length=n.nodes.length:=by simp[S.aa]
theorem tS {cs ps:List Int}(hc:∀c∈cs,1<=c/\c<=4)(hp:∀p∈ps,0<=p/\p<cs.length):∀c∈S.am cs ps,1<=c/\c<=4:=λc h=>by obtain ⟨p,h1,rfl⟩:=List.mem_map.1 h;have h2:=hp p h1;rw[List.getElem?_eq_getElem (by omega),Option.getD_some];exact hc _ (List.getElem_mem _)
theorem w_ (cs a b:List Int):S.am cs (a++b)=S.am cs a++S.am cs b:=by simp[S.am]
def S.bG (n:Net)(vals:List Int)(v:Nat):Int:=match n.nodes[v]? with
 | none=>1
 | some x=>(x.rows[(S.bj (S.am (S.aa n) x.parents) (S.am vals x.parents)).toNat]?.getD [])[(vals[v]?.getD 0).toNat]?.getD 0
end Hx
end
section
namespace Hx
open Go
abbrev Sp:Type:=Int×Int×Int
def S.sp (l:List Sp)(i:Nat):Sp:=l[i]?.getD (0,0,0)
def S.aq (l:List Sp)(i:Nat)(e:Int):Bool:=(List.range i).any λj=>decide ((S.sp l j).1 = -1)&&(decide ((S.sp l j).2.1=e) || decide ((S.sp l j).2.2=e))
def S.aH (l:List Sp)(i:Nat)(v:Int):Bool:=(List.range i).any λj=>decide ((S.sp l j).1=v)
def S.aP (l:List Sp)(i:Nat):Bool:=decide (0<=(S.sp l i).2.1)&&decide ((S.sp l i).2.1<(i:Int))&&decide (0<=(S.sp l i).2.2)&&decide ((S.sp l i).2.2<(i:Int))&&!decide ((S.sp l i).2.1=(S.sp l i).2.2)
def S.aQ (l:List Sp)(n:Nat)(i:Nat):Bool:=decide (0<=(S.sp l i).1)&&decide ((S.sp l i).1<(n:Int))&&decide ((S.sp l i).2.1 = -1)&&decide ((S.sp l i).2.2 = -1)
def S.aM (l:List Sp)(n:Nat)(i:Nat):Bool:=if (S.sp l i).1 = -1 then S.aP l i&&!S.aq l i (S.sp l i).2.1&&!S.aq l i (S.sp l i).2.2 else S.aQ l n i&&!S.aH l i (S.sp l i).1
def S.ck (l:List Sp)(n:Nat):Bool:=decide ((l.length:Int)=2*(n:Int) - 1)&&(List.range l.length).all (S.aM l n)&&((List.range n).all λv=>S.aH l l.length (v:Int))&&((List.range (l.length - 1)).all λe=>S.aq l l.length (e:Int))
def S.ak (l:List Sp)(e:Int):Nat->Nat
 | 0=>0
 | j+1=>S.ak l e j+if (S.sp l j).1 = -1/\((S.sp l j).2.1=e\/(S.sp l j).2.2=e) then 1 else 0
def S.bm (l:List Sp)(n:Nat)(i:Nat):Bool:=(S.aQ l n i || decide ((S.sp l i).1 = -1)&&S.aP l i)&&(!S.aQ l n i || (List.range l.length).all λj=>decide (j=i) || !decide ((S.sp l j).1=(S.sp l i).1)) &&
 decide (S.ak l (i:Int) l.length=if i+1<l.length then 1 else 0)
def S.rt (l:List Sp)(n:Nat):Bool:=decide ((l.length:Int)=2*(n:Int) - 1)&&(List.range l.length).all (S.bm l n)
theorem eh {l:List Sp}{i:Nat}{e:Int}:S.aq l i e=true↔∃j,j<i/\(S.sp l j).1 = -1/\((S.sp l j).2.1=e\/(S.sp l j).2.2=e):=by simp[S.aq,List.any_eq_true]
theorem j9 {l:List Sp}{i:Nat}{v:Int}:S.aH l i v=true↔∃j,j<i/\(S.sp l j).1=v:=by simp[S.aH,List.any_eq_true]
theorem e_ {l:List Sp}{i:Nat}:S.aP l i=true↔0<=(S.sp l i).2.1/\(S.sp l i).2.1<(i:Int)/\0<=(S.sp l i).2.2/\(S.sp l i).2.2<(i:Int)/\(S.sp l i).2.1≠(S.sp l i).2.2:=by simp[S.aP,and_assoc]
theorem jM {l:List Sp}{n i:Nat}:S.aQ l n i=true↔0<=(S.sp l i).1/\(S.sp l i).1<(n:Int)/\(S.sp l i).2.1 = -1/\(S.sp l i).2.2 = -1:=by simp[S.aQ,and_assoc]
theorem pP {l:List Sp}{e:Int}:∀{j},(∀k,k<j->¬((S.sp l k).1 = -1/\((S.sp l k).2.1=e\/(S.sp l k).2.2=e)))->S.ak l e j=0
 | 0,_=>rfl
 | j+1,h=>by rw[S.ak,pP λk hk=>h k (by omega),if_neg (h j (by omega))]
theorem xZ {l:List Sp}{e:Int}:∀{j k},k<j->(S.sp l k).1 = -1/\((S.sp l k).2.1=e\/(S.sp l k).2.2=e)->(∀i,i<j->i≠k->¬((S.sp l i).1 = -1/\((S.sp l i).2.1=e\/(S.sp l i).2.2=e)))->S.ak l e j=1
 | j+1,k,hk,h,hn=>by
  rw[S.ak]
  by_cases c:k=j
  ·subst c;rw[pP λi hi=>hn i (by omega) (by omega),if_pos h]
  ·rw[xZ (k:=k) (by omega) h λi hi=>hn i (by omega),if_neg (hn j (by omega) (by omega))]
theorem x_ {l:List Sp}{e:Int}:∀{j i k},i<k->k<j->(S.sp l k).1 = -1/\((S.sp l k).2.1=e\/(S.sp l k).2.2=e)->(S.sp l i).1 = -1/\((S.sp l i).2.1=e\/(S.sp l i).2.2=e)->2<=S.ak l e j
 | j+1,i,k,hik,hk,h,h'=>by
  have mono:∀a,∀{b},b<a->(S.sp l b).1 = -1/\((S.sp l b).2.1=e\/(S.sp l b).2.2=e)->1<=S.ak l e a:=by
   intro a
   induction a with
   | zero=>intro b hb;omega
   | succ a ih =>
    intro b hb hh;rw[S.ak]
    by_cases c:b=a
    ·subst c;rw[if_pos hh];omega
    ·have:=ih (b:=b) (by omega) hh;omega
  rw[S.ak]
  by_cases c:k=j
  ·subst c;have:=mono k hik h';rw[if_pos h];omega
  ·have:=x_ hik (by omega) h h' (j:=j);omega
theorem x9 {l:List Sp}{e:Int}:∀{j},0<S.ak l e j->∃k,k<j/\(S.sp l k).1 = -1/\((S.sp l k).2.1=e\/(S.sp l k).2.2=e)
 | 0,h=>by simp[S.ak] at h
 | j+1,h=>by
  rw[S.ak] at h
  by_cases c:(S.sp l j).1 = -1/\((S.sp l j).2.1=e\/(S.sp l j).2.2=e)
  ·exact ⟨j,by omega,c⟩
  ·rw[if_neg c] at h;obtain ⟨k,hk,hh⟩:=x9 (j:=j) (by omega);exact ⟨k,by omega,hh⟩
def S.a_ (l:List Sp)(j:Nat):List Int:=(List.range j).flatMap λk=>if (S.sp l k).1 = -1 then [(S.sp l k).2.1,(S.sp l k).2.2] else []
def S.aW (l:List Sp)(j:Nat):List Int:=(List.range j).flatMap λk=>if (S.sp l k).1 = -1 then [] else [(S.sp l k).1]
theorem sO (l:List Sp)(j:Nat):S.a_ l (j+1)=S.a_ l j++if (S.sp l j).1 = -1 then [(S.sp l j).2.1,(S.sp l j).2.2] else []:=by simp[S.a_,List.range_succ,List.flatMap_append]
theorem u7 (l:List Sp)(j:Nat):S.aW l (j+1)=S.aW l j++if (S.sp l j).1 = -1 then [] else [(S.sp l j).1]:=by simp[S.aW,List.range_succ,List.flatMap_append]
theorem vG (l:List Sp):∀j,(S.a_ l j).length+2*(S.aW l j).length=2*j
 | 0=>rfl
 | j+1=>by
  have:=vG l j;rw[sO,u7,List.length_append,List.length_append]
  by_cases c:(S.sp l j).1 = -1
  ·rw[if_pos c,if_pos c];simp;omega
  ·rw[if_neg c,if_neg c];simp;omega
theorem u_ {l:List Sp}{e:Int}{j:Nat}:e∈S.a_ l j↔∃k,k<j/\(S.sp l k).1 = -1/\((S.sp l k).2.1=e\/(S.sp l k).2.2=e):=by
 simp only[S.a_,List.mem_flatMap,List.mem_range];constructor
 ·rintro ⟨k,hk,h⟩
  by_cases c:(S.sp l k).1 = -1
  ·rw[if_pos c] at h;simp only[List.mem_cons,List.not_mem_nil,or_false] at h;exact ⟨k,hk,c,h.imp Eq.symm Eq.symm⟩
  ·rw[if_neg c] at h;simp at h
 ·rintro ⟨k,hk,c,h⟩;refine ⟨k,hk,?_⟩;rw[if_pos c];simp only[List.mem_cons,List.not_mem_nil,or_false];exact h.imp Eq.symm Eq.symm
theorem tH {l:List Sp}{v:Int}{j:Nat}:v∈S.aW l j↔∃k,k<j/\(S.sp l k).1≠-1/\(S.sp l k).1=v:=by
 simp only[S.aW,List.mem_flatMap,List.mem_range];constructor
 ·rintro ⟨k,hk,h⟩
  by_cases c:(S.sp l k).1 = -1
  ·rw[if_pos c] at h;simp at h
  ·rw[if_neg c] at h;exact ⟨k,hk,c,by simpa using (List.mem_singleton.1 h).symm⟩
 ·rintro ⟨k,hk,c,h⟩;exact ⟨k,hk,by rw[if_neg c,h];simp⟩
theorem zb {a b:List Int}(ha:a.Nodup)(h:∀x∈a,x∈b):a.length<=b.length:=by
 induction a generalizing b with
 | nil=>simp
 | cons x a ih =>
  rw[List.nodup_cons] at ha;have hx:=h x (by simp);have:=ih (b:=b.erase x) ha.2 λy hy=>(List.mem_erase_of_ne (λe:y=x=>ha.1 (by rw[<-e];exact hy))).2 (h y (by simp[hy]));rw[List.length_erase_of_mem hx] at this;have:=List.length_pos_of_mem hx;simp;omega
theorem Fz {l:List Sp}{n:Nat}(hn:1<=n):S.ck l n=S.rt l n:=by
 apply Bool.eq_iff_iff.2;simp only[S.ck,S.rt,Bool.and_eq_true,decide_eq_true_eq,List.all_eq_true,List.mem_range];constructor
 ·rintro ⟨⟨⟨hl,hel⟩,hlv⟩,hus⟩;refine ⟨hl,λi hi=>?_⟩;have form:∀k,k<l.length->((S.sp l k).1 = -1->S.aP l k=true/\S.aq l k (S.sp l k).2.1=false/\S.aq l k (S.sp l k).2.2=false)/\((S.sp l k).1≠-1->S.aQ l n k=true/\S.aH l k (S.sp l k).1=false):=λk hk=>by
   have:=hel k hk;unfold S.aM at this;constructor
   ·intro c;rw[if_pos c] at this;simpa [and_assoc] using this
   ·intro c;rw[if_neg c] at this;simpa using this
  have noref:∀(k m:Nat) (e:Int),k<m->m<l.length->(S.sp l k).1 = -1/\((S.sp l k).2.1=e\/(S.sp l k).2.2=e)->(S.sp l m).1 = -1/\((S.sp l m).2.1=e\/(S.sp l m).2.2=e)->False:=λk m e hkm hm h1 h2=>by
   obtain ⟨-,u1,u2⟩:=(form m hm).1 h2.1;have hu:S.aq l m e=true:=eh.2 ⟨k,hkm,h1⟩;rcases h2.2 with h | h
   ·rw[h,hu] at u1;cases u1
   ·rw[h,hu] at u2;cases u2
  simp only[S.bm,Bool.and_eq_true,Bool.or_eq_true,decide_eq_true_eq,Bool.not_eq_true',List.all_eq_true,List.mem_range];refine ⟨⟨?_,?_⟩,?_⟩
  ·by_cases c:(S.sp l i).1 = -1
   ·exact .inr ⟨c,((form i hi).1 c).1⟩
   ·exact .inl ((form i hi).2 c).1
  ·by_cases c:(S.sp l i).1 = -1
   ·left;rw[Bool.eq_false_iff];intro h;have:=(jM.1 h).1;omega
   ·right;intro j hj
    by_cases e:j=i
    ·exact .inl e
    ·right;rw[decide_eq_false_iff_not];intro h;rcases Nat.lt_or_gt_of_ne e with h1 | h1
     ·have:=((form i hi).2 c).2;rw[j9.2 ⟨j,h1,h⟩] at this;cases this
     ·have:=((form j hj).2 (by rw[h];exact c)).2;rw[j9.2 ⟨i,h1,h.symm⟩] at this;cases this
  ·by_cases c:i+1<l.length
   ·rw[if_pos c];obtain ⟨k,hk,hh⟩:=eh.1 (hus i (by omega));refine xZ hk hh λm hm hmk hh2=>?_;rcases Nat.lt_or_gt_of_ne hmk with h | h
    ·exact noref m k _ h hk hh2 hh
    ·exact noref k m _ h hm hh hh2
   ·rw[if_neg c];refine pP λk hk hh=>?_;have:=e_.1 ((form k hk).1 hh.1).1;omega
 ·rintro ⟨hl,hrt⟩;have form:∀k,k<l.length->((S.sp l k).1 = -1->S.aP l k=true)/\((S.sp l k).1≠-1->S.aQ l n k=true/\∀j,j<l.length->j≠k->(S.sp l j).1≠(S.sp l k).1)/\S.ak l (k:Int) l.length=if k+1<l.length then 1 else 0:=λk hk=>by
   have:=hrt k hk;simp only[S.bm,Bool.and_eq_true,Bool.or_eq_true,decide_eq_true_eq,Bool.not_eq_true',List.all_eq_true,List.mem_range] at this;obtain ⟨⟨h1,h2⟩,h3⟩:=this;refine ⟨λc=>?_,λc=>?_,h3⟩
   ·rcases h1 with h | h
    ·have:=(jM.1 h).1;omega
    ·exact h.2
   ·have hlf:S.aQ l n k=true:=by
     rcases h1 with h | h
     ·exact h
     ·exact absurd h.1 c
    refine ⟨hlf,λj hj hjk h=>?_⟩;rcases h2 with h2 | h2
    ·rw[hlf] at h2;cases h2
    ·rcases h2 j hj with h' | h'
     ·exact hjk h'
     ·rw[decide_eq_false_iff_not] at h';exact h' h
  have once:∀(k m:Nat) (e:Int),0<=e->e<(l.length:Int)->k<m->m<l.length->(S.sp l k).1 = -1/\((S.sp l k).2.1=e\/(S.sp l k).2.2=e)->(S.sp l m).1 = -1/\((S.sp l m).2.1=e\/(S.sp l m).2.2=e)->False:=λk m e h0 h1 hkm hm hk hh=>by
   obtain ⟨q,rfl⟩:=Int.eq_ofNat_of_zero_le h0;have:=x_ hkm hm hh hk;rw[(form q (by omega)).2.2] at this
   split at this<;>omega
  have elok:∀i,i<l.length->S.aM l n i=true:=λi hi=>by
   unfold S.aM
   by_cases c:(S.sp l i).1 = -1
   ·have hj:=(form i hi).1 c;obtain ⟨a1,a2,a3,a4,a5⟩:=e_.1 hj;have nu:∀e,0<=e->e<(l.length:Int)->((S.sp l i).2.1=e\/(S.sp l i).2.2=e)->S.aq l i e=false:=λe h0 h1 hh=>by rw[Bool.eq_false_iff];intro h;obtain ⟨k,hk,hh2⟩:=eh.1 h;exact once k i e h0 h1 hk hi hh2 ⟨c,hh⟩
    rw[if_pos c,hj,nu _ a1 (by omega) (.inl rfl),nu _ a3 (by omega) (.inr rfl)]
    rfl
   ·obtain ⟨h1,h2⟩:=(form i hi).2.1 c;have:S.aH l i (S.sp l i).1=false:=by rw[Bool.eq_false_iff];intro h;obtain ⟨j,hj,hh⟩:=j9.1 h;exact h2 j (by omega) (by omega) hh
    rw[if_neg c,h1,this];rfl
  have refnd:∀j,j<=l.length->(S.a_ l j).Nodup:=by
   intro j
   induction j with
   | zero=>intro _;exact List.nodup_nil
   | succ j ih =>
    intro hj;rw[sO]
    by_cases c:(S.sp l j).1 = -1
    ·obtain ⟨a1,a2,a3,a4,a5⟩:=e_.1 ((form j (by omega)).1 c);rw[if_pos c,List.nodup_append];refine ⟨ih (by omega),by simp[a5],λa ha b hb hab=>?_⟩;subst hab;obtain ⟨k,hk,hh⟩:=u_.1 ha;simp only[List.mem_cons,List.not_mem_nil,or_false] at hb;rcases hb with hb | hb
     ·exact once k j a (by omega) (by omega) hk (by omega) hh ⟨c,.inl hb.symm⟩
     ·exact once k j a (by omega) (by omega) hk (by omega) hh ⟨c,.inr hb.symm⟩
    ·rw[if_neg c,List.append_nil];exact ih (by omega)
  have lvnd:∀j,j<=l.length->(S.aW l j).Nodup:=by
   intro j
   induction j with
   | zero=>intro _;exact List.nodup_nil
   | succ j ih =>
    intro hj;rw[u7]
    by_cases c:(S.sp l j).1 = -1
    ·rw[if_pos c,List.append_nil];exact ih (by omega)
    ·rw[if_neg c,List.nodup_append];refine ⟨ih (by omega),by simp,λa ha b hb hab=>?_⟩;subst hab;obtain ⟨k,hk,-,hh⟩:=tH.1 ha;have hb:=List.mem_singleton.1 hb;exact ((form j (by omega)).2.1 c).2 k (by omega) (by omega) (by rw[hh,hb])
  have r1:(S.a_ l l.length).length<=l.length - 1:=by
   have:=zb (b:=(List.range (l.length - 1)).map λi:Nat=>(i:Int)) (refnd _ (Nat.le_refl _)) λe he=>by obtain ⟨k,hk,c,hh⟩:=u_.1 he;obtain ⟨a1,a2,a3,a4,a5⟩:=e_.1 ((form k hk).1 c);refine List.mem_map.2 ⟨e.toNat,List.mem_range.2 ?_,?_⟩<;>rcases hh with h | h<;>omega
   simpa using this
  have nleaf:n<=(S.aW l l.length).length:=by have:=vG l l.length;omega
  refine ⟨⟨⟨hl,elok⟩,λv hv=>?_⟩,λe he=>?_⟩
  ·rw[j9];apply Classical.byContradiction;intro hno;have hnm:(v:Int) ∉ S.aW l l.length:=λh=>by obtain ⟨k,hk,-,hh⟩:=tH.1 h;exact hno ⟨k,hk,hh⟩
   have:=zb (a:=(v:Int)::S.aW l l.length) (b:=(List.range n).map λi:Nat=>(i:Int)) (List.nodup_cons.2 ⟨hnm,lvnd _ (Nat.le_refl _)⟩) λe he=>by
    rcases List.mem_cons.1 he with rfl | he
    ·exact List.mem_map.2 ⟨v,List.mem_range.2 hv,rfl⟩
    ·obtain ⟨k,hk,c,hh⟩:=tH.1 he;obtain ⟨b1,b2,-⟩:=jM.1 ((form k hk).2.1 c).1;exact List.mem_map.2 ⟨e.toNat,List.mem_range.2 (by omega),by omega⟩
   simp at this;omega
  ·obtain ⟨-,-,hb⟩:=form e (by omega);rw[if_pos (by omega)] at hb;exact eh.2 (x9 (by omega))
end Hx
end
section
namespace Hx
open Go
section
variable {b card:Nat}
def S.bo (b card p:Nat):Nat:=p / (b*card)*b+p % b
def S.bp (b card p:Nat):Nat:=p / b % card
def S.bI (rows:List (List Int))(b card t:Nat):List Int:=(List.range (rows.length*card)).map λp=>if S.bo b card p*card+S.bp b card p<t then (rows[S.bo b card p]?.getD [])[S.bp b card p]?.getD 0 else 0
def S.bJ (rows:List (List Int))(b card:Nat):List Int:=(List.range (rows.length*card)).map λp=>(rows[S.bo b card p]?.getD [])[S.bp b card p]?.getD 0
end
def S.bA (ps:List Int)(k:Nat)(v:Int):List Int:=ps.take k++v::ps.drop k
end Hx
end
section
namespace Hx
open Go
noncomputable section
abbrev s7:Type:=UInt8×UInt8×List UInt8
abbrev nZ:Type:=UInt8×List s7×List UInt8
abbrev xG:Type:=UInt8×UInt8×UInt8×Int
theorem sT {P:Nat->Prop}{k:Nat}{h:H}{x:s7}{cs:List AV}:Rp.rp P k h x cs↔∃a,cs=[u8v x.1,u8v x.2.1,a]/\SlR P k h x.2.2 a:=by
 constructor
 ·rintro ⟨c1,c2,rfl,h1,c3,c4,rfl,h2,⟨a,rfl,h4⟩⟩;rw[d8.1 h1,d8.1 h2];exact ⟨a,rfl,h4⟩
 ·rintro ⟨a,rfl,h4⟩;exact ⟨[_],[_,a],rfl,d8.2 rfl,[_],[a],rfl,d8.2 rfl,⟨a,rfl,h4⟩⟩
theorem sS {P:Nat->Prop}{k:Nat}{h:H}{x:nZ}{cs:List AV}:Rp.rp P k h x cs↔∃a b,cs=[u8v x.1,a,b]/\SlR P k h x.2.1 a/\SlR P k h x.2.2 b:=by
 constructor
 ·rintro ⟨c1,c2,rfl,h1,c3,c4,rfl,⟨a,rfl,ha⟩,⟨b,rfl,hb⟩⟩;rw[d8.1 h1];exact ⟨a,b,rfl,ha,hb⟩
 ·rintro ⟨a,b,rfl,ha,hb⟩;exact ⟨[_],[a,b],rfl,d8.2 rfl,[a],[b],rfl,⟨a,rfl,ha⟩,⟨b,rfl,hb⟩⟩
theorem Ff {d k k2:Nat}{g:G}{P P2:Nat->Prop}{v w:AV}{l p:List Int}(hd:0<d)(hv:SlR P k g.h l v)(hw:SlR P2 k2 g.h p w)(hp:p.length<1073741824)(hin:∀x∈p,0<=x/\x<l.length) :
  ∃r,aG C0 d N.aF [v,w] g=.val r/\IT 0 (S.am l p) r:=by
 obtain ⟨v',e1,r1⟩:=jT hv d;obtain ⟨w',e2,r2⟩:=jT hw d;rw[qZ];refine cy uG (xs:=[v',w']) (by simp only[aJ,e1,e2]) (by simp[mT]) (cd _) (by decide) hd ?_;simp only[sz,simprocAttr,mT];have n2:=λg=>(r2 .nil).len g;have ra:∀h',ah h' 1 v'=some (l.map ci):=λh'=>(r1 h').ints;have rb:∀h',ah h' 1 w'=some (p.map ci):=λh'=>(r2 h').ints;refine zf (v:=w') (m:=p.length) (by omega) n2 (λj t df g=>df=[]/\St t [(0,v')]/\∃u,tat t 5=u/\Own g 0 u 1 ((S.am l (p.take j)).map ci)) ⟨rfl,by simp[St,sx],_,rfl,.inl ⟨by simp[sx],by simp[S.am]⟩⟩ (by simp[sx]) (by simp[sx]) (by decide)
  (by rintro j t df g v s (rfl | rfl | rfl | rfl | rfl | rfl | rfl)<;>simp[sx,St]) ?_ ?_
 ·rintro j t df g1 hj ⟨rfl,⟨h0,-⟩,u,h5,hu⟩ h6 h1;obtain ⟨x,hx,htk,hm⟩:=aK hj;obtain ⟨hx0,hxl⟩:=hin x hm;obtain ⟨n,rfl⟩:=Int.eq_ofNat_of_zero_le hx0;have hn:n<l.length:=by omega
  simp only[sz,simprocAttr,ra,rb,h0,h1,h5,h6,hx,hj,hn,List.length_map,List.getElem?_map,Option.map_some,ci,List.getElem?_eq_getElem hn];refine aM (new:=[ci l[n]]) (hu.step (Fr.new _ _)) (by simp[sx,sy,ci]) (by simp) (by simp[aT,S.am];omega) λv2 g2 hv2 n2 f2 _ l2=>?_;simp only[sz,simprocAttr,h0,h1,h6,St];refine ⟨_,rfl,?_⟩;rw[htk];simpa [hn,ci,S.am] using hv2
 ·rintro t df g1 ⟨rfl,⟨h0,-⟩,u,h5,hu⟩ -;rw[List.take_length] at hu;simp only[sz,simprocAttr,mD,h5];exact ⟨_,hu.ints (by simp[S.am];omega)⟩
theorem Am {d k:Nat}{g:G}{P:Nat->Prop}{v:AV}{n:Net}(hd:0<d)(hm:Agg n P k g.h v)(hn:n.nodes.length<1073741824) :
  ∃r,aG C0 d N.aH [v] g=.val r/\IT 0 (S.aa n) r:=by
 obtain ⟨v',e,cs,rfl,hc⟩:=mJ (gO n) (by decide) d hm;obtain ⟨b,rfl,hN⟩:=lT.1 hc;obtain ⟨rows,r1,r2,r3,r4⟩:=hN.all;have r1:∀h',ah h' 3 b=some rows:=r1;rw[ol];refine cy qc (xs:=[.agg [.int .i64 n.grain,b]]) (by simp only[aJ,e]) (by simp[jk]) (cd _) (by decide) hd ?_;simp only[sz,simprocAttr,jk,kM,jD];refine dg n.nodes.length (by omega) (λj t df g=>df=[]/\tat t 1=.hptr 0 0 0 0/\g.h.get 0=.cells 2 [[.int .i64 n.grain,b]] 0 false false/\1<=g.nx/\∃u,tat t 3=u/\Own g 1 u 1 (((n.nodes.take j).map (·.card)).map ci))
  ⟨rfl,by simp[sx],by simp[sx],by simp[sx],_,rfl,.inl ⟨by simp[sx],rfl⟩⟩ (by simp[sx]) (by decide)
  (by rintro j t df g v s (rfl | rfl | rfl)<;>simp[sx]) ?_ ?_ ?_
 ·rintro j t df g hj ⟨rfl,h1,hg,hnx,u,h3,hu⟩ h4;simp only[sz,simprocAttr,h1,h4,hg,hN.len];exact ⟨hnx,u,h3,hu⟩
 ·rintro j t df g hj ⟨rfl,h1,hg,hnx,u,h3,hu⟩ h4;obtain ⟨x,hx,htk,hm⟩:=aK hj;obtain ⟨row,q1,q2⟩:=r3 j x hx;obtain ⟨a',b',rfl,ha',-⟩:=i_.1 q2;have hlt:j<rows.length:=by omega
  have hry:=r4 (by omega);simp only[sz,simprocAttr,h1,h3,h4,hg,r1,hlt,q1,hry];refine aM (new:=[ci x.card]) (hu.step (Fr.new _ _)) (by simp[sx,sy,ci]) (by simp) (by simp[aT];omega) λv2 g2 hv2 n2 f2 _ l2=>?_;simp only[sz,simprocAttr,h1,h4];refine ⟨?_,?_,_,rfl,?_⟩
  ·rw[f2 0 (by simp) (λe=>by have:=(hu.lt e).1;omega),G.new_h,aN _ _ _ (by omega),hg]
  ·simp at n2;omega
  ·rw[htk];simpa [ci] using hv2
 ·rintro t df g ⟨rfl,h1,hg,hnx,u,h3,hu⟩;rw[List.take_length] at hu;simp only[sz,simprocAttr,jE,h3];exact ⟨_,hu.ints (by simp;omega)⟩
theorem Ai {d k:Nat}{g:G}{P:Nat->Prop}{v:AV}{n:Net}{i:Nat}{x:Node}(hd:0<d)(hm:Agg n P k g.h v)(hn:n.nodes.length<1073741824)(hx:n.nodes[i]?=some x)(hl:x.parents.length<1073741824)(hin:∀p∈x.parents,0<=p/\p<n.nodes.length) :
  ∃r,aG C0 d N.aJ [v,.int .i64 (i:Int)] g=.val r/\IT 0 (S.am (S.aa n) x.parents) r:=by
 obtain ⟨v',e,cs,rfl,hc⟩:=mJ (gO n) (by decide) d hm;have hc':=hc;obtain ⟨b,rfl,hN⟩:=lT.1 hc;have hm':∀h,Agg n NoP (max k d) h (.agg [.int .i64 n.grain,b]):=λh=>⟨_,rfl,Rp.tree hc' (Nat.le_refl _)⟩;obtain ⟨rows,r1,r2,r3,r4⟩:=hN.all;have r1:∀h',ah h' 3 b=some rows:=r1;obtain ⟨row,q1,q2⟩:=r3 i x hx;obtain ⟨a',b',rfl,ha',-⟩:=i_.1 q2;have hil:=(List.getElem?_eq_some_iff.1 hx).1;have hlt:i<rows.length:=by omega
 have hry:=r4 (by omega);rw[jX];refine cy lp (xs:=[.agg [.int .i64 n.grain,b],.int .i64 (i:Int)]) (by simp only[aJ,e,l0 0]) (by simp[dW]) (cd _) (by decide) hd ?_;simp only[sz,simprocAttr,dW,fE];refine gu (Am (Nat.succ_pos d) (hm' _) hn) λrc hrc=>?_;have hat:=λg=>Ff (d:=d+1) (g:=g) (P:=NoP) (P2:=NoP) (k:=0) (k2:=max k d) (l:=S.aa n) (p:=x.parents) (Nat.succ_pos d) (hrc.sl g.h) (ha'.tree (h':=g.h) (Nat.le_refl _)) hl (λp hp=>by rw[ei];exact hin p hp);simp only[sz,simprocAttr,r1,hlt,q1,hry];refine gu (hat _) λr hr=>?_;simp only[sz,simprocAttr];obtain ⟨w,hw,hs⟩:=hr;exact ⟨_,w,hw,hs.tree (Nat.le_refl _)⟩
theorem CA {d k:Nat}{g:G}{P:Nat->Prop}{v:AV}{l:List Int}(hd:0<d)(hv:SlR P k g.h l v):aG C0 d N.au [v] g=.val (.int .i64 (S.aT l)):=by have b:=yx hv.ints;have:=Ec hd (zX hv.ints) (by rw[b];exact hv.1);rwa [b] at this
theorem lO {g:G}{v:AV}{n:Net}(d:Nat)(hm:Agg n NoP 0 g.h v):∃b rows,v=.agg [.int .i64 n.grain,b]/\Hx.snap g.h d aB v=some v/\(∀h,Agg n NoP 0 h v)/\SlR NoP 0 .nil n.nodes b/\(∀h,ah h 3 b=some rows)/\rows.length=n.nodes.length /\
  (∀(i:Nat) (x:Node),n.nodes[i]?=some x->∃pa ra,rows[i]?=some [.int .i64 x.card,pa,ra]/\i<rows.length/\SlR NoP 0 .nil x.parents pa/\SlR NoP 0 .nil x.rows ra)/\(0<n.nodes.length->rB b=true):=by
 have e:=pK d hm;obtain ⟨cs,rfl,hc⟩:=hm;have hc':=hc;obtain ⟨b,rfl,hN⟩:=lT.1 hc;have hN:=hN.tree (h':=.nil) (Nat.le_refl _);obtain ⟨rows,r1,r2,r3,r4⟩:=hN.all;refine ⟨b,rows,rfl,e,λh=>⟨_,rfl,Rp.tree hc' (Nat.le_refl _)⟩,hN,r1,r2,λi x hx=>?_,r4⟩;obtain ⟨row,q1,q2⟩:=r3 i x hx;obtain ⟨a',b',rfl,ha',hb'⟩:=i_.1 q2;exact ⟨a',b',q1,by rw[r2];exact (List.getElem?_eq_some_iff.1 hx).1,ha',hb'⟩
theorem D8 {k:Nat}{l:List (List Int)}{b:AV}(hb:SlR NoP k .nil l b):∃rows:List (List AV),(∀h,ah h 1 b=some rows)/\rows.length=l.length/\(∀(i:Nat) (r:List Int),l[i]?=some r->∃z,rows[i]?=some [z]/\i<rows.length/\SlR NoP k .nil r z)/\(0<l.length->rB b=true):=by obtain ⟨rows,r1,r2,r3,r4⟩:=hb.all;refine ⟨rows,r1,r2,λi r hr=>?_,r4⟩;obtain ⟨row,q1,q2⟩:=r3 i r hr;obtain ⟨z,rfl,hz⟩:=mf.1 q2;exact ⟨z,q1,by rw[r2];exact (List.getElem?_eq_some_iff.1 hr).1,hz⟩
section
variable {d:Nat}{b pa ra z:AV}{gr card:Int}{r:List Int}
def LR5 (v:Nat)(q:Nat):List (Nat×AV):=[(1,.hptr 0 0 0 0),(6,.int .i64 (v:Int)),(7,.hptr q 0 0 0)]
structure RJ1 (gr:Int) (r:List Int) (v q i j:Nat) (t:T):Prop where
 st:St t ((8,.int .i64 (i:Int))::LR5 v q)
 s9:tat t 9=.int .i64 (r.take j).sum
 all:∀y∈r.take j,0<=y/\y<=gr
structure RJ4 (gr card:Int) (rws:List (List Int)) (v q j:Nat) (t:T):Prop where
 st:St t (LR5 v q)
 all:∀r∈rws.take j,S.aI gr card r=true
structure RJ0 (n:Net) (b:AV) (j:Nat) (t:T) (g:G):Prop where
 st:St t [(1,.hptr 0 0 0 0),(3,.int .i64 (S.ac ((S.aa n).take j)))]
 hg:g.h.get 0=.cells 2 [[.int .i64 n.grain,b]] 0 false false
 nx:1<=g.nx
 all:∀x∈n.nodes.take j,S.br n.nodes.length x=true
structure RJ6 (n:Net) (b:AV) (j:Nat) (t:T) (g:G):Prop where
 st:St t [(1,.hptr 0 0 0 0)]
 hg:g.h.get 0=.cells 2 [[.int .i64 n.grain,b]] 0 false false
 nx:1<=g.nx
 all:∀x∈n.nodes.take j,S.bu n x=true
end
end
end Hx
end
section
namespace Hx
open Go
noncomputable section
def OwnC (g:G)(b id:Nat)(l tl:List Int):Prop:=b<=id/\id<g.nx/\g.h.get id=.cells 1 (l.map ci++tl.map ci) 0 false false
theorem OwnC.rows {g:G}{b id:Nat}{l tl:List Int}(h:OwnC g b id l tl):ah g.h 1 (.hsl id 0 0 l.length none)=some (l.map ci):=by rw[cT,h.2.2,bD,if_pos (by simp),List.drop_zero,List.take_left' (by simp)]
theorem OwnC.fr {g g':G}{b id:Nat}{l tl:List Int}(h:OwnC g b id l tl)(hn:g.nx<=g'.nx)(hf:g'.h.get id=g.h.get id):OwnC g' b id l tl:=⟨h.1,Nat.lt_of_lt_of_le h.2.1 hn,by rw[hf,h.2.2]⟩
theorem FI {g:G}{b n:Nat}{K:AV->G->Prop}{D:ADf->Prop}(hn:n<=1000)(hb:b<=g.nx)(k:∀g',OwnC g' b g.nx [] (List.replicate n 0)->g'.nx=g.nx+1->(∀i,i<g.nx->g'.h.get i=g.h.get i)->K (.hsl g.nx 0 0 0 none) g') :
  (Aa 1 8 [.int .i64 0] (.int .i64 0) (.int .i64 (n:Int)) g).sat K g D:=by
 have h1:n<=aT:=by unfold aT;omega
 have h2:n*8<=aT:=by unfold aT;omega
 have key:Aa 1 8 [.int .i64 0] (.int .i64 0) (.int .i64 (n:Int)) g=.upd (.hsl g.nx 0 0 0 none) (g.new (.cells 1 (eO n [.int .i64 0]) 0 false false)):=by
  show (match cq aT (.int .i64 (.ofNat n)) with
   | some cn=>match cq cn (.int .i64 0) with
    | some ln=>ak (Nat.ble (cn*8) aT) (OR.upd (.hsl g.nx 0 0 ln none) (g.new (.cells 1 (eO cn [.int .i64 0]) 0 false false))) .fail
    | none=>.fail
   | none=>.fail)=_
  have a1:cq aT (.int .i64 (.ofNat n))=some n:=by show ak (Nat.ble n aT) (some n) none=_;rw[aa,if_pos (by simpa using h1)]
  have a2:cq n (.int .i64 0)=some 0:=by show ak (Nat.ble 0 n) (some 0) none=_;rw[aa,if_pos (by simp)]
  rw[a1];dsimp only;rw[a2];dsimp only;rw[aa,if_pos (by simpa using h2)]
 rw[key];refine k _ ⟨hb,by simp,?_⟩ (by simp) (λi hi=>?_)
 ·simp[bi,eO,ci]
 ·rw[G.new_h,aN _ _ _ (by omega)]
theorem AJ {g:G}{b id:Nat}{l tl:List Int}{x y:Int}{w:AV}{K:AV->G->Prop}{D:ADf->Prop}(hv:OwnC g b id l (y::tl))(hx:ah g.h 1 w=some [ci x])(hr:l.length<=1000)
  (k:∀g',OwnC g' b id (l++[x]) tl->g'.nx=g.nx->(∀i,i≠id->g'.h.get i=g.h.get i)->K (.hsl id 0 0 (l++[x]).length none) g'):(dE 1 8 (.hsl id 0 0 l.length none) w g).sat K g D:=by
 unfold dE;rw[hx];obtain ⟨h1,h2,h3⟩:=hv;simp only[a_,G.get_eq,h3,aq,aa,Nat.beq_refl,Bool.true_and,Nat.ble_eq,Bool.and_eq_true,Nat.zero_add,Option.getD_none,Nat.sub_zero,List.length_append,List.length_map,List.length_cons,List.length_nil];rw[if_pos ⟨by omega,by unfold aT;omega⟩,if_pos (by omega)];have hnb:ga false=true:=rfl;rw[if_pos ⟨by omega,hnb⟩];have e:gM (l.map ci++(y::tl).map ci) l.length [ci x]=(l++[x]).map ci++tl.map ci:=by simp only[gM,fe];rw[List.map_append,List.append_assoc,List.map_cons,List.set_append_right _ _ (by simp)];simp
 rw[e];have k:=k (g.put id (.cells 1 ((l++[x]).map ci++tl.map ci) 0 false false)) ⟨h1,by simpa using h2,by simp[bi]⟩ (by simp) (λi hi=>by rw[G.put_h,aN _ _ _ hi]);have e3:l.length+1=(l++[x]).length:=by simp
 rw[e3];exact k
def Fx (p:List Nat):VS:=λP k h v=>∃o:List Int,True/\zq (One o) (One (S.aU p)) P k h v
theorem Aw {d k:Nat}{g:G}{P:Nat->Prop}{v:AV}{p:List Nat}(hd:0<d)(hv:SlR P k g.h p v)(hn:p.length<=8)(hp:∀x∈p,x<2 ^ p.length) :
  ∃z,aG C0 d N.aE [v] g=.val z/\Fx p NoP 0 .nil z:=by
 obtain ⟨v',e,r1⟩:=jT hv d;have hlt:=s8 hv;rw[pi];refine cy rg (xs:=[v']) (by simp only[aJ,e]) (by simp[j5]) (mi λo=>nV (m:=1) (cd _) (cd _) (by decide) (by decide)) (by decide) hd ?_;have vl:∀g,eN .slice v' g=.val (.int .i64 (p.length:Int)):=λg=>(r1 .nil).len g;simp only[sz,simprocAttr,j5,vl];refine FI (b:=0) (n:=p.length) (by omega) (Nat.zero_le _) λg1 hu hn1 hf1=>?_;obtain ⟨id,hid⟩:∃id,id=G.empty.nx:=⟨_,rfl⟩;rw[<-hid] at hu ⊢;clear hid hn1 hf1;simp only[sz,simprocAttr];refine qU (λn t df g=>df=[]/\∃(L:List Nat) (D:Nat) (tl:List Int),n=p.length - L.length/\L.length+tl.length=p.length/\zp p L/\EX D L/\zo p D/\St t [(0,v'),(4,.hsl id 0 0 (L.map λi:Nat=>(i:Int)).length none),(5,.int .u64 (D:Int))]/\OwnC g 0 id (L.map λi:Nat=>(i:Int)) tl) p.length
  ⟨rfl,[],0,List.replicate p.length 0,by simp,by simp,⟨by simp,by simp⟩,⟨by decide,by simp⟩,sA,by simp[sx,St],hu⟩ ?_
 rintro n t df g ⟨rfl,L,D,tl,rfl,hLt,hO,hD,hG,⟨h0,h4,h5,-⟩,hu⟩;have hLl:=Ci hO;have hul:∀g',eN .slice (.hsl id 0 0 (L.map λi:Nat=>(i:Int)).length none) g'=.val (.int .i64 (L.length:Int)):=λg'=>by rw[l8 hu.rows];simp
 simp only[sz,simprocAttr,kH,h0,h4,vl,hul];refine jU (λhb=>?_) (λhb=>?_)
 ·have hlt2:L.length<p.length:=by simpa using hb
  obtain ⟨y,tl,rfl⟩:∃y tl',tl=y::tl':=by
   cases tl with
   | nil=>simp at hLt;omega
   | cons y tl=>exact ⟨y,tl,rfl⟩
  simp only[sz,simprocAttr,h0,vl,kG];refine bf (m:=p.length) (by omega) (λj t df g'=>df=[]/\g'=g/\St t [(0,v'),(16,v'),(4,.hsl id 0 0 (L.map λi:Nat=>(i:Int)).length none),(5,.int .u64 (D:Int))]/\∀v,v<j->D.testBit v=true\/¬Sub (Par p v) D)
   ⟨rfl,rfl,by simp[sx,St,h0,h4,h5],λv hv=>by omega⟩ (by simp[sx]) (by simp[sx]) (by decide) (by rintro j t df g v s (rfl | rfl | rfl)<;>simp[sx,St]) ?_ ?_
  ·rintro j t df g' hj ⟨rfl,rfl,⟨h0,h16,h4,h5,-⟩,hall⟩ h18 h17;obtain ⟨x,hx,-,hxm⟩:=aK hj;have hpj:Par p j=x:=by simp[Par,hx]
   have hxl:=hlt x hxm;have hjl:j<(p.map cu).length:=by simpa using hj
   have hjr:(p.map cu)[j]?=some (cu x):=by rw[List.getElem?_map,hx];rfl
   have b1:=tc .i64 D j hD.1;have hdv:D / 2 ^ j<18446744073709551616:=Nat.lt_of_le_of_lt (Nat.div_le_self _ _) hD.1;have b2:bo .and (.int .u64 ((D / 2 ^ j:Nat):Int)) (.int .u64 1)=.val (.int .u64 ((D / 2 ^ j &&& 1:Nat):Int)):=tb _ 1 hdv (by decide);have b3:=wi x D hxl hD.1;have ra:=λh=>(r1 h).nats;have hbit:D.testBit j = !decide (((D / 2 ^ j &&& 1:Nat):Int)=0):=by
    rw[<-nG,S.bg];have h2:D / 2 ^ j &&& 1=(D / 2 ^ j) % 2:=Nat.and_one_is_mod _;rw[h2];have:=Nat.mod_lt (D / 2 ^ j) (show 0<2 by decide)
    by_cases h3:D / 2 ^ j % 2=0
    ·rw[h3];simp
    ·have h4:D / 2 ^ j % 2=1:=by omega
     rw[h4];simp
   have next:(D.testBit j=true\/¬Sub (Par p j) D)->∀v,v<j+1->D.testBit v=true\/¬Sub (Par p v) D:=λh v hv=>by
    by_cases e:v=j
    ·subst e;exact h
    ·exact hall v (by omega)
   by_cases c1:((D / 2 ^ j &&& 1:Nat):Int)=0
   ·by_cases c2:((x ^^^ (x &&& D):Nat):Int)=0
    ·have hd0:S.bf x D=0:=by simpa [S.bf] using c2
     have hsub:=se.1 hd0;have hjL:j ∉ L:=λh=>by have:=(hD.2 j).2 h;rw[hbit,c1] at this;simp at this
     have hb2:D ||| S.an j<18446744073709551616:=Ch hD.1 (jb j);simp only[sz,simprocAttr,h16,h4,h5,h18,b1,b2,b3,ra,hjl,hjr,cu,c1,c2];refine AJ (x:=(j:Int)) (hu.fr (by simp) (by rw[G.new_h,aN _ _ _ (by have:=hu.2.1;omega)])) (by simp[sx,sy,ci]) (by simp;omega) λg2 hu2 n2 f2=>?_;have hone:bo .shl (.int .u64 1) (.int .i64 (j:Int))=.val (.int .u64 (S.an j:Int)):=eD .i64 j;have e1:(L.map λi:Nat=>(i:Int))++[(j:Int)]=(L++[j]).map λi:Nat=>(i:Int):=by simp
     rw[e1] at hu2 ⊢;simp only[sz,simprocAttr,h5,hone,oe _ _ hD.1 (jb j)];refine ⟨p.length - (L++[j]).length,by simp;omega,L++[j],D ||| S.an j,tl,rfl,by simp at hLt ⊢;omega,Ah hO hjL hj λq hq=>?_,At hD (by omega),uQ hG (by omega) (by rw[hpj];exact hsub),by simp[sx,St,h0],hu2⟩;rw[hpj] at hq;exact (hD.2 q).1 (hsub q hq)
    ·have hns:¬Sub (Par p j) D:=λh=>c2 (by
      have:=se.2 h;rw[hpj] at this;simp[S.bf] at this;simp[this])
     simp only[sz,simprocAttr,h0,h16,h4,h5,h18,h17,b1,b2,b3,ra,hjl,hjr,cu,c1,c2,St];exact next (.inr hns)
   ·simp only[sz,simprocAttr,h0,h16,h4,h5,h18,h17,b1,b2,ra,hjl,hjr,cu,c1,St];exact next (.inl (by rw[hbit,decide_eq_false c1];rfl))
  ·rintro t df g' ⟨rfl,rfl,-,hall⟩;obtain ⟨v0,hv0,hv0'⟩:=DC hO hlt2;have hac:S.aU p=false:=by
    cases hc:S.aU p with
    | false=>rfl
    | true =>
     have:=s_ hp hc (T:=D) (λv hv hb=>by
      rcases hall v hv with h | h
      ·rw[h] at hb;cases hb
      ·exact h) v0 hv0
     exact absurd ((hD.2 v0).1 this) hv0'
   simp only[sz,simprocAttr,kI];exact ⟨λ_=>True,[],.nils,.bool false,rfl,⟨.nils,rfl,by show 0<9223372036854775808;decide,rfl⟩,nR.2 (by rw[hac])⟩
 ·have hge:p.length<=L.length:=by simp at hb;omega
  have htl:tl=[]:=List.eq_nil_of_length_eq_zero (by omega);subst htl;have hfull:=Ag hO hge;have hac:=na hG λv hv=>(hD.2 v).2 (hfull.1 v hv);simp only[sz,simprocAttr,kJ,h4];refine ⟨λ_=>True,L.map (λi:Nat=>(i:Int)),_,_,rfl,⟨_,rfl,by simp;omega,trivial,_,hu.rows,All2.of_map (λa=>bj.2 rfl) _⟩,nR.2 (by rw[hac])⟩
theorem An {C:Cfg}{d id nt:Nat}{t:T}{ps:List Nat}{assign body:Code}{a b:SC}{dfr:Nat}{args:List AV}{g:G}{K:AV->G->Prop}{D:ADf->Prop}{t':T}
  (hg:g.h.get id=.loop nt t ps assign body dfr .ready none) (ha:dA C nt assign=a) (hb:dA C nt body=b) (hp:dJ t nt ps args=some t')
  (h:wp C d (some id) a (λe t1 df g1=>e=.norm/\df=[]/\g1=g /\
   wp C d (some id) b (λe _ df g2=>df=[]/\g2.h.get id=.loop nt t ps assign body dfr .busy none/\((e=.norm/\K (.bool true) (g2.put id (.loop nt t ps assign body dfr .ready none)))\/(e=.ret/\K (.bool false) (g2.put id (.loop nt t ps assign body dfr .done (some .ret))))))
    t1 [] (g.put id (.loop nt t ps assign body dfr .busy none))) t' [] g) :
  (c_ (I C) d id args g).sat K g D:=by
 subst ha;subst hb;unfold c_;rw[show g.get id=_ from hg];dsimp only;rw[hp];dsimp only;have h1:=rJ h;cases hc:(I C).code nt d (some id) assign t' [] g with
 | fail=>rw[hc] at h1;exact h1.elim
 | ok e t1 df g1 =>
  rw[hc] at h1;obtain ⟨rfl,rfl,rfl,h2⟩:=h1;dsimp only;rw[show g1.get id=_ from hg];dsimp only;have h3:=rJ h2;cases hc2:(I C).code nt d (some id) body t1 [] (g1.put id (.loop nt t ps assign body dfr .busy none)) with
  | fail=>rw[hc2] at h3;exact h3.elim
  | ok e t2 df2 g2 =>
   rw[hc2] at h3;obtain ⟨rfl,h4,h5⟩:=h3;dsimp only;rw[show g2.get id=_ from h4];rcases h5 with ⟨rfl,h5⟩ | ⟨rfl,h5⟩<;>exact h5
theorem xF {C:Cfg}{d nt:Nat}{f:Od}{ps:List Nat}{a b:SC}{Q:QT}{t:T}{df:List ADf}{g:G}{fn:Nat}{first cap:List AV}{s:SF}(hv:f.get t=.clo fn first cap)(he:C.ext fn=none)(hs:nFn C fn=some s)
  (hl:(first++(.yld (g.nx+1)::cap)).length<=s.nt)
  (h:∀assign body,dA C nt assign=a->dA C nt body=b ->
   wp C d none s.code (fnQ C d s.res λ_ g2=>∃nt' t' ps' as' bd' dfr',(g2.h.get (g.nx+1)=.loop nt' t' ps' as' bd' dfr' .ready none/\Q .norm t (.mark g.nx::df) (g2.put (g.nx+1) (.loop nt' t' ps' as' bd' dfr' .exhausted none))) \/
     (g2.h.get (g.nx+1)=.loop nt' t' ps' as' bd' dfr' .done (some .ret)/\Q .ret t (.mark g.nx::df) (g2.put (g.nx+1) (.loop nt' t' ps' as' bd' dfr' .exhausted (some .ret)))))
    (bW 0 (first++(.yld (g.nx+1)::cap)) .nil) [] ((g.new (.dfr true)).new (.loop nt t ps assign body g.nx .ready none))) :
  wp C d none (.rng nt f ps a b) Q t df g:=by
 intro assign body ha hb;have h:=l4 hs hl (h assign body ha hb);show (bE C (I C) nt d none (f.get t) ps assign body t (.mark g.nx::df) g.nx (g.new (.dfr true))).sat Q;rw[hv];unfold bE;dsimp only;rw[he];show (match (I C).call d fn (first++(AV.yld (g.nx+1)::cap)) ((g.new (.dfr true)).new (.loop nt t ps assign body g.nx .ready none)) with
  | .ok _ g2=>cJ (I C) nt d none (g.nx+1) t (.mark g.nx::df) g2
  | .fail=>.fail).sat Q
 cases hc:(I C).call d fn (first++(AV.yld (g.nx+1)::cap)) ((g.new (.dfr true)).new (.loop nt t ps assign body g.nx .ready none)) with
 | fail=>rw[hc] at h;exact h.elim
 | ok v g2 =>
  rw[hc] at h;obtain ⟨nt',t',ps',as',bd',dfr',h⟩:=h;show (cJ (I C) nt d none (g.nx+1) t (.mark g.nx::df) g2).sat Q;unfold cJ;rcases h with ⟨h1,h2⟩ | ⟨h1,h2⟩
  ·rw[show g2.get (g.nx+1)=_ from h1];exact h2
  ·rw[show g2.get (g.nx+1)=_ from h1];dsimp only;rw[we];exact h2
def RwV (x:Node):VS:=λP k h v=>∃p,v=.clo N.ae [] [p] /\
 ((∃id cs,p=.hptr id 0 0 0/\P id/\h.get id=.cells 3 [cs] 0 false false/\Rp.rp P k h x cs)\/∃t cs,p=.tptr t 3 [cs] 0 0/\t<=k/\Rp.rp NoP k .nil x cs)
theorem Fl (x:Node):Snb (RwV x) 2:=by
 refine ⟨λ{P k h v n} d r hn=>?_,λ{k h v n} r hn=>?_⟩
 ·obtain ⟨p,rfl,r⟩:=r;obtain ⟨n,rfl⟩:∃q,n=q+2:=⟨n - 2,by omega⟩;rcases r with ⟨id,cs,rfl,-,hg,r⟩ | ⟨t,cs,rfl,ht,r⟩
  ·obtain ⟨cs',e,r'⟩:=Rp.snap (n:=n) d r (by show (_:Nat)<=n;exact Nat.le_trans (show Rp.dp Node<=20 by decide) (by omega)) (by decide);obtain ⟨m,e2,l2⟩:=Rp.tag (n:=aB) r' (by decide);refine ⟨.clo N.ae [] [.tptr (Nat.max d (Nat.max m 0)) 3 [cs'] 0 0],?_,_,rfl,.inr ⟨_,cs',rfl,?_,r'⟩⟩
   ·have:Hx.snap h d (n+1) (.hptr id 0 0 0)=some (.tptr (Nat.max d (Nat.max m 0)) 3 [cs'] 0 0):=by simp only[Hx.snap,hg,show Nat.beq 0 0=true from rfl,aJ,e,eg,fp,e2]
    simp only[Hx.snap,aJ] at this ⊢;rw[this]
   ·show max d (max m 0)<=max k d;omega
  ·refine ⟨.clo N.ae [] [.tptr t 3 [cs] 0 0],rfl,_,rfl,.inr ⟨t,cs,rfl,by omega,Rp.mono r (λi hi=>hi.elim) (by omega)⟩⟩
 ·obtain ⟨p,rfl,r⟩:=r;obtain ⟨n,rfl⟩:∃q,n=q+2:=⟨n - 2,by omega⟩;rcases r with ⟨id,cs,rfl,hP,-⟩ | ⟨t,cs,rfl,ht,r⟩
  ·exact hP.elim
  ·exact ⟨Nat.max t 0,rfl,by show max t 0<=k;omega⟩
theorem Cc {d:Nat}{g:G}{v:AV}{x:Node}(hd:0<d)(hm:Agg x NoP 0 g.h v) :
  ∃pa ra,aG C0 d N.aq [v] g=.val (.clo N.ae [] [.tptr 0 3 [[.int .i64 x.card,pa,ra]] 0 0])/\SlR NoP 0 .nil x.parents pa/\SlR NoP 0 .nil x.rows ra:=by
 have e0:=pK d hm;obtain ⟨cs,rfl,hc⟩:=hm;obtain ⟨a,b,rfl,hR,hN⟩:=i_.1 hc;have key:∃r,aG C0 d N.aq [.agg [.int .i64 x.card,a,b]] g=.val r/\RwV x NoP 0 .nil r:=by rw[qY];refine cy uF (xs:=[.agg [.int .i64 x.card,a,b]]) (by simp only[aJ,e0]) (by simp[mS]) (Fl x) (by decide) hd ?_;simp only[sz,simprocAttr,mS,nC];exact ⟨λ_=>True,_,rfl,.inl ⟨0,_,rfl,trivial,by simp[sx],Rp.tree hc (Nat.le_refl _)⟩⟩
 obtain ⟨r,h1,p,rfl,h2⟩:=key;rcases h2 with ⟨id,cs,rfl,hP,-⟩ | ⟨t,cs,rfl,ht,hr⟩
 ·exact hP.elim
 ·have:t=0:=by omega
  subst this;obtain ⟨a',b',rfl,hR',hN'⟩:=i_.1 hr;exact ⟨a',b',h1,hR',hN'⟩
theorem A8 (fo l sz i off:Nat)(rows:List (List AV)):wF fo (.tptr l sz rows i off)=.val (.tptr l sz rows i (off+fo)):=rfl
theorem Cx {d id:Nat}{c:Int}{pa ra:AV}{rws:List (List Int)}{g0:G}{K:AV->G->Prop}(hra:SlR NoP 0 .nil rws ra)(J:Nat->H->Prop)(E:G->Prop)
  (step:∀(j:Nat) (r:List Int) (z:AV) (g:G) (K':AV->G->Prop) (D:ADf->Prop),rws[j]?=some r->SlR NoP 0 .nil r z->g0.nx<=g.nx->J j g.h ->
   (∀g',J (j+1) g'.h->g.nx<=g'.nx->K' (.bool true) g')->(∀g',E g'->K' (.bool false) g')->(c_ (I C0) d id [.int .i64 (j:Int),z] g).sat K' g D)
  (h0:J 0 g0.h) (fin:∀g',J rws.length g'.h->g0.nx<=g'.nx->K (.tup []) g') (finE:∀g',E g'->K (.tup []) g') :
  wp C0 d none dG.code (fnQ C0 d dG.res K) (bW 0 [.yld id,.tptr 0 3 [[.int .i64 c,pa,ra]] 0 0] .nil) [] g0:=by
 obtain ⟨rr,s1,s2,s3,s4⟩:=D8 hra;simp only[sz,simprocAttr,dG,kC,A8,z_,hra.len];refine bf (m:=rws.length) hra.1 (λj t df g=>df=[]/\St t [(0,.yld id),(6,ra)]/\J j g.h/\g0.nx<=g.nx) ⟨rfl,by simp[St,sx],h0,Nat.le_refl _⟩ (by simp[sx]) (by simp[sx]) (by decide) (by rintro j t df g v s (rfl | rfl | rfl)<;>simp[St,sx]) ?_ ?_
 ·rintro j t df g hj ⟨rfl,⟨h0,h6,-⟩,hJ,hn⟩ h8 h7;obtain ⟨r,hr,-,-⟩:=aK hj;obtain ⟨z,q2,q3,hz⟩:=s3 j r hr;have hry:=s4 (by omega);simp only[sz,simprocAttr,h0,h6,h8,s1,q2,q3];show (c_ (I C0) d id [.int .i64 (j:Int),z] g).sat _ _ _;refine step j r z g _ _ hr hz hn hJ (λg' hJ' hn'=>?_) λg' hE=>?_
  ·simp only[sz,simprocAttr,h7,h8];simp[St,sx,h0,h6,hJ',Nat.le_trans hn hn']
  ·simp only[sz,simprocAttr];exact finE g' hE
 ·rintro t df g ⟨rfl,-,hJ,hn⟩;simp only[sx,↓reduceIte];exact fin g hJ hn
theorem wE:C0.ext N.ae=none:=by kernel_rfl
structure RowQ (b:Nat) (g2 g3:G) (e:Ex) (A B:Prop):Prop where
 nx:g2.nx<=g3.nx
 fr:∀i,b<=i->i<g2.nx->g3.h.get i=g2.h.get i
 st:(e=.norm/\A)\/(e=.ret/\B)
theorem Cw {d nt y p q:Nat}{c:Int}{pa ra:AV}{rws:List (List Int)}{ca cb:SC}{Q:QT}{t:T}{g:G}(hra:SlR NoP 0 .nil rws ra)(hv:tat t y=.clo N.ae [] [.tptr 0 3 [[.int .i64 c,pa,ra]] 0 0])(hp:p<nt)(hq:q<nt)
  (J:Nat->H->Prop) (E:H->Prop) (hJ:∀j h h',(∀i,i<g.nx->h'.get i=h.get i)->J j h->J j h') (hE:∀h h',(∀i,i<g.nx->h'.get i=h.get i)->E h->E h') (h0:J 0 g.h)
  (step:∀(j:Nat) (r:List Int) (z:AV) (g1:G),rws[j]?=some r->SlR NoP 0 .nil r z->J j g1.h->g.nx+2<=g1.nx ->
   wp C0 d (some (g.nx+1)) ca (λe t1 df g1'=>e=.norm/\df=[]/\g1'=g1/\∀g2:G,g2.nx=g1.nx->(∀i,i≠g.nx+1->g2.h.get i=g1.h.get i) ->
    wp C0 d (some (g.nx+1)) cb (λe _ df g3=>df=[]/\RowQ g.nx g2 g3 e (J (j+1) g3.h) (E g3.h)) t1 [] g2)
    (iC (iC t p (.int .i64 (j:Int))) q z) [] g1)
  (fin:∀g',J rws.length g'.h->g.nx+2<=g'.nx->g'.h.get g.nx=.dfr true->Q .norm t [.mark g.nx] g')
  (finE:∀g',E g'.h->g.nx+2<=g'.nx->g'.h.get g.nx=.dfr true->Q .ret t [.mark g.nx] g') :
  wp C0 d none (.rng nt (.t y) [p,q] ca cb) Q t [] g:=by
 refine xF (fn:=N.ae) (first:=[]) (cap:=[.tptr 0 3 [[.int .i64 c,pa,ra]] 0 0]) (s:=dG) hv wE rf (by simp[dG]) ?_;intro assign body ha hb;have e1:((g.new (.dfr true)).new (.loop nt t [p,q] assign body g.nx .ready none)).nx=g.nx+2:=by simp
 refine Cx (g0:=(g.new (.dfr true)).new (.loop nt t [p,q] assign body g.nx .ready none)) (id:=g.nx+1) hra
  (λj h=>J j h/\h.get g.nx=.dfr true/\h.get (g.nx+1)=.loop nt t [p,q] assign body g.nx .ready none)
  (λg'=>E g'.h/\g'.h.get g.nx=.dfr true/\g'.h.get (g.nx+1)=.loop nt t [p,q] assign body g.nx .done (some .ret)/\g.nx+2<=g'.nx) ?_ ?_ ?_ ?_
 ·rintro j r z g1 K' D hr hz hn ⟨a1,a2,a3⟩ kk kE;rw[e1] at hn;refine An a3 ha hb (t':=iC (iC t p (.int .i64 (j:Int))) q z) ?_ ?_
  ·simp only[dJ,aa,Nat.blt_eq,if_pos hp,if_pos hq];rfl
  ·refine fm _ (step j r z g1 hr hz a1 (by omega)) ?_;rintro e t1 df g1' ⟨rfl,rfl,rfl,h⟩;refine ⟨rfl,rfl,rfl,?_⟩;have hl:g.nx+1<g1'.nx:=by omega
   refine fm _ (h (g1'.put (g.nx+1) (.loop nt t [p,q] assign body g.nx .busy none)) (by simp) (λi hi=>by simp[H.get_put,hi])) ?_;rintro e t2 df g3 ⟨rfl,⟨b2,b3,b1⟩⟩;have b4:g3.h.get (g.nx+1)=.loop nt t [p,q] assign body g.nx .busy none:=by rw[b3 _ (by omega) (by simpa using hl)];simp[H.get_put]
   have b5:g3.h.get g.nx=.dfr true:=by rw[b3 _ (by omega) (by simp;omega)];simp[H.get_put,a2]
   refine ⟨rfl,b4,?_⟩;rcases b1 with ⟨rfl,b1⟩ | ⟨rfl,b1⟩
   ·refine .inl ⟨rfl,kk _ ⟨hJ _ g3.h _ (λi hi=>by simp[H.get_put,show ¬i=g.nx+1 by omega]) b1,?_,?_⟩ (by simpa using b2)⟩
    ·simp[H.get_put,b5]
    ·simp[H.get_put]
   ·refine .inr ⟨rfl,kE _ ⟨hE g3.h _ (λi hi=>by simp[H.get_put,show ¬i=g.nx+1 by omega]) b1,?_,?_,?_⟩⟩
    ·simp[H.get_put,b5]
    ·simp[H.get_put]
    ·simp at b2 ⊢;omega
 ·refine ⟨hJ 0 g.h _ (λi hi=>?_) h0,?_,?_⟩
  ·simp[H.get_put,show ¬i=g.nx+1 by omega,show ¬i=g.nx by omega]
  ·simp[H.get_put]
  ·simp[H.get_put]
 ·rintro g' ⟨a1,a2,a3⟩ hn;rw[e1] at hn;refine ⟨_,_,_,_,_,_,.inl ⟨a3,fin _ (hJ _ g'.h _ (λi hi=>by simp[H.get_put,show ¬i=g.nx+1 by omega]) a1) (by simpa using hn) ?_⟩⟩;simp[H.get_put,a2]
 ·rintro g' ⟨a1,a2,a3,hn⟩;refine ⟨_,_,_,_,_,_,.inr ⟨a3,finE _ (hE g'.h _ (λi hi=>by simp[H.get_put,show ¬i=g.nx+1 by omega]) a1) (by simpa using hn) ?_⟩⟩;simp[H.get_put,a2]
end
end Hx
end
