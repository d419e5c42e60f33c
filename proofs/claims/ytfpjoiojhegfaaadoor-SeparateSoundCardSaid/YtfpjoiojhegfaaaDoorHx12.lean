/- A part of the proof: an interpreter over abstract values, shown right against the model, and what the functions of the chapter compute on it. -/
import Derived.Test.YtfpjoiojhegfaaaDoorHx11
set_option linter.unusedVariables false
set_option linter.unusedSimpArgs false
set_option linter.unnecessarySimpa false
section
namespace Hx
open Classical
noncomputable def S.aq (p:Nat->Prop):Nat->Nat
 | 0=>0
 | n+1=>S.aq p n ||| if p n then 2 ^ n else 0
theorem pB (p:Nat->Prop)(i:Nat):∀n,(S.aq p n).testBit i=decide (i<n/\p i)
 | 0=>by simp[S.aq]
 | n+1=>by
  rw[S.aq,Nat.testBit_or,pB p i n]
  by_cases h:p n
  ·rw[if_pos h,Nat.testBit_two_pow]
   by_cases e:n=i
   ·subst e;simp[h]
   ·have e2:(i<n+1)↔i<n:=by omega
    simp[e,e2]
  ·rw[if_neg h,Nat.zero_testBit,Bool.or_false]
   by_cases e:n=i
   ·subst e;simp[h]
   ·have e2:(i<n+1)↔i<n:=by omega
    simp[e2]
theorem iF {p:Nat->Prop}{i n:Nat}:(S.aq p n).testBit i=true↔i<n/\p i:=by rw[pB,decide_eq_true_iff]
theorem tS (p:Nat->Prop)(n:Nat):S.aq p n<2 ^ n:=by
 refine Nat.lt_pow_two_of_testBit _ fun i hi=>?_
 rw[pB]
 simp;omega
theorem xB {p:Nat->Prop}{n x:Nat}(h:∀i,x.testBit i=true↔i<n/\p i):x=S.aq p n:=by
 refine Nat.eq_of_testBit_eq fun i=>?_
 rw[pB,Bool.eq_iff_iff,h i,decide_eq_true_iff]
theorem jD {p q:Nat->Prop}{n:Nat}(h:∀i,i<n->(p i↔q i)):S.aq p n=S.aq q n:=by
 refine xB fun i=>?_
 rw[pB,decide_eq_true_iff]
 exact ⟨fun ⟨a,b⟩=>⟨a,(h i a).1 b⟩,fun ⟨a,b⟩=>⟨a,(h i a).2 b⟩⟩
inductive Sx (E:Nat->Nat->Prop) (Z A:Nat->Prop):Nat×Bool->Nat×Bool->Prop
 | dn {v c:Nat} {d:Bool}:¬Z v->E v c->Sx E Z A (v,d) (c,true)
 | up {v p:Nat} {d:Bool}:(d=true->A v)->(d=false->¬Z v)->E p v->Sx E Z A (v,d) (p,false)
structure Dst (R:Nat×Bool->Nat×Bool->Prop) (T:Nat×Bool->Prop) (L L':List (Nat×Bool)):Prop where
 pre:∀s∈L,s∈L'
 good:∀s∈L',T s
 cl:∀s∈L',s ∉ L->∀t,R s t->t∈L'
theorem Dst.refl {R:Nat×Bool->Nat×Bool->Prop}{T:Nat×Bool->Prop}{L:List (Nat×Bool)}(h:∀s∈L,T s):Dst R T L L:=⟨fun _ h=>h,h,fun s h hn=>absurd h hn⟩
theorem Dst.tr {R:Nat×Bool->Nat×Bool->Prop}{T:Nat×Bool->Prop}{L L1 L2:List (Nat×Bool)}(h1:Dst R T L L1)(h2:Dst R T L1 L2):Dst R T L L2:=by
 refine ⟨fun s h=>h2.pre s (h1.pre s h),h2.good,fun s hs hn t ht=>?_⟩
 by_cases h:s∈L1
 ·exact h2.pre t (h1.cl s h hn t ht)
 ·exact h2.cl s hs h t ht
theorem Dst.visit {R:Nat×Bool->Nat×Bool->Prop}{T:Nat×Bool->Prop}{L L':List (Nat×Bool)}{s:Nat×Bool}(h:Dst R T (L++[s]) L')(hs:∀t,R s t->t∈L'):Dst R T L L'/\s∈L':=by
 refine ⟨⟨fun t ht=>h.pre t (by simp[ht]),h.good,fun t ht hn u hu=>?_⟩,h.pre s (by simp)⟩
 by_cases e:t=s
 ·subst e;exact hs u hu
 ·exact h.cl t ht (by simp[hn,e]) u hu
def S.aV (n:Nat)(L:List (Nat×Bool)):Nat:=((List.range n).filter fun v=>decide ((v,false) ∉ L)).length+((List.range n).filter fun v=>decide ((v,true) ∉ L)).length
theorem qX {l:List Nat}{p q:Nat->Bool}(h:∀v∈l,p v=true->q v=true):(l.filter p).length<=(l.filter q).length:=by
 induction l with
 | nil=>simp
 | cons a l ih =>
  have i:=ih fun v hv=>h v (List.mem_cons_of_mem _ hv)
  have h0:=h a (by simp)
  rw[List.filter_cons,List.filter_cons]
  split
  ·rename_i hp
   rw[if_pos (h0 hp)]
   simp;exact i
  ·split
   ·simp;omega
   ·exact i
theorem BO {l:List Nat}{p q:Nat->Bool}(h:∀v∈l,p v=true->q v=true){x:Nat}(hx:x∈l)(h1:p x=false)(h2:q x=true):(l.filter p).length<(l.filter q).length:=by
 induction l with
 | nil=>cases hx
 | cons a l ih =>
  have i:=qX fun v hv=>h v (List.mem_cons_of_mem _ hv)
  have h0:=h a (by simp)
  rw[List.filter_cons,List.filter_cons]
  rcases List.mem_cons.1 hx with rfl | hx
  ·rw[h1,h2]
   simp;omega
  ·have:=ih (fun v hv=>h v (List.mem_cons_of_mem _ hv)) hx
   split
   ·rename_i hp
    rw[if_pos (h0 hp)]
    simp;exact this
   ·split
    ·simp;omega
    ·exact this
theorem tG {n:Nat}{L L':List (Nat×Bool)}(h:∀s∈L,s∈L'):S.aV n L'<=S.aV n L:=by
 have a:=qX (l:=List.range n) (p:=fun v=>decide ((v,false) ∉ L')) (q:=fun v=>decide ((v,false) ∉ L)) fun v _ hv=>by
  rw[decide_eq_true_iff] at hv ⊢
  exact fun h'=>hv (h _ h')
 have b:=qX (l:=List.range n) (p:=fun v=>decide ((v,true) ∉ L')) (q:=fun v=>decide ((v,true) ∉ L)) fun v _ hv=>by
  rw[decide_eq_true_iff] at hv ⊢
  exact fun h'=>hv (h _ h')
 unfold S.aV
 omega
theorem HP {n:Nat}{L:List (Nat×Bool)}{s:Nat×Bool}(hs:s ∉ L)(hn:s.1<n):S.aV n (L++[s])<S.aV n L:=by
 obtain ⟨v,d⟩:=s
 have m:∀d':Bool,∀u∈List.range n,decide ((u,d') ∉ L++[(v,d)])=true->decide ((u,d') ∉ L)=true:=fun d' u _ h=>by
  rw[decide_eq_true_iff] at h ⊢
  exact fun h'=>h (by simp[h'])
 unfold S.aV
 cases d with
 | false =>
  have a:=BO (m false) (x:=v) (List.mem_range.2 hn) (by simp) (by simpa using hs)
  have b:=qX (m true)
  omega
 | true =>
  have a:=BO (m true) (x:=v) (List.mem_range.2 hn) (by simp) (by simpa using hs)
  have b:=qX (m false)
  omega
def m9 (Z:Nat->Prop)(L:List (Nat×Bool))(v:Nat):Prop:=(∃d,(v,d)∈L)/\¬Z v
theorem G2 {Z:Nat->Prop}{L:List (Nat×Bool)}{v n:Nat}{d:Bool}(hv:v<n)(hz:¬Z v):S.aq (m9 Z (L++[(v,d)])) n=S.aq (m9 Z L) n ||| 2 ^ v:=by
 symm
 refine xB fun i=>?_
 rw[Nat.testBit_or,pB,Nat.testBit_two_pow,Bool.or_eq_true,decide_eq_true_iff,decide_eq_true_iff]
 constructor
 ·rintro (⟨h1,⟨e,h2⟩,h3⟩ | rfl)
  ·exact ⟨h1,⟨e,by simp[h2]⟩,h3⟩
  ·exact ⟨hv,⟨d,by simp⟩,hz⟩
 ·rintro ⟨h1,⟨e,h2⟩,h3⟩
  rcases List.mem_append.1 h2 with h | h
  ·exact .inl ⟨h1,⟨e,h⟩,h3⟩
  ·simp at h
   exact .inr h.1.symm
theorem H5 {Z:Nat->Prop}{L:List (Nat×Bool)}{v n:Nat}{d:Bool}(hz:Z v):S.aq (m9 Z (L++[(v,d)])) n=S.aq (m9 Z L) n:=by
 refine jD fun i _=>?_
 constructor
 ·rintro ⟨⟨e,h2⟩,h3⟩
  rcases List.mem_append.1 h2 with h | h
  ·exact ⟨⟨e,h⟩,h3⟩
  ·simp at h
   exact absurd (h.1 ▸ hz) h3
 ·rintro ⟨⟨e,h2⟩,h3⟩
  exact ⟨⟨e,by simp[h2]⟩,h3⟩
theorem BF {E:Nat->Nat->Prop}{Z X:Nat->Prop}{L:List (Nat×Bool)}(h:Dst (Sx E Z (An E Z)) (fun s=>Rs E Z X s.1 s.2) [] L)(hx:∀x,X x->(x,false)∈L)(v:Nat)(d:Bool):(v,d)∈L↔Rs E Z X v d:=by
 constructor
 ·exact fun h'=>h.good _ h'
 ·intro h'
  induction h' with
  | st h1=>exact hx _ h1
  | @dn v c d _ o e ih=>exact h.cl _ ih (by simp) _ (.dn (by cases d<;>exact o) e)
  | @up v p d _ o e ih =>
   refine h.cl _ ih (by simp) _ (.up (fun hd=>?_) (fun hd=>?_) e)
   ·subst hd;exact o
   ·subst hd;exact o
theorem HF {E:Nat->Nat->Prop}{Z X:Nat->Prop}{s t:Nat×Bool}(hs:Rs E Z X s.1 s.2)(h:Sx E Z (An E Z) s t):Rs E Z X t.1 t.2:=by
 cases h with
 | @dn v c d hz e=>exact hs.dn (by cases d<;>exact hz) e
 | @up v p d h1 h2 e =>
  refine hs.up ?_ e
  cases d with
  | true=>exact h1 rfl
  | false=>exact h2 rfl
end Hx
end
section
namespace Hx
open Go
section
variable {p:List Nat}
def Eg (p:List Nat)(u v:Nat):Prop:=(Par p v).testBit u=true
def Bt (s v:Nat):Prop:=s.testBit v=true
theorem s_ (hp:∀x∈p,x<2 ^ p.length){u v:Nat}(h:Eg p u v):u<p.length/\v<p.length:=by
 refine ⟨qi (uf hp) h,?_⟩
 rcases Nat.lt_or_ge v p.length with h1 | h1
 ·exact h1
 ·unfold Eg Par at h
  rw[List.getElem?_eq_none h1] at h
  simp at h
theorem KS {s:Nat}(hp:∀x∈p,x<2 ^ p.length)(hc:Cl p s){u v:Nat}(h:Ds (Eg p) u v)(hv:s.testBit v=true):s.testBit u=true:=by
 induction h with
 | rf=>exact hv
 | st e _ ih=>exact hc _ (s_ hp e).2 (ih hv) _ e
theorem Ja (hp:∀x∈p,x<2 ^ p.length){s:Nat}(hs:s<2 ^ p.length)(v:Nat):(S.up p s p.length).testBit v=true↔An (Eg p) (Bt s) v:=by
 constructor
 ·intro h
  have hc:Cl p (S.aq (An (Eg p) (Bt s)) p.length):=fun u hu hb x hx=>by
   rw[iF] at hb ⊢
   exact ⟨(s_ hp hx).1,An.up hx hb.2⟩
  have hsub:Sub s (S.aq (An (Eg p) (Bt s)) p.length):=fun u hu=>by
   rw[iF]
   exact ⟨qi hs hu,An.of hu⟩
  have:=xU hc hsub p.length v h
  rw[iF] at this
  exact this.2
 ·rintro ⟨z,hz,hd⟩
  exact KS hp (r_ hp hs) hd (q9 _ z hz)
theorem Kg {a b:Nat}:a &&& b≠0↔∃v,a.testBit v=true/\b.testBit v=true:=by
 constructor
 ·intro h
  apply Classical.byContradiction
  intro hno
  apply h
  refine Nat.eq_of_testBit_eq fun v=>?_
  rw[Nat.testBit_and,Nat.zero_testBit]
  cases h1:a.testBit v<;>cases h2:b.testBit v<;>first | rfl | exact absurd ⟨v,h1,h2⟩ hno
 ·rintro ⟨v,h1,h2⟩ h
  have:=congrArg (·.testBit v) h
  simp[h1,h2] at this
end
end Hx
end
section
namespace Hx
inductive Tw (E:Nat->Nat->Prop) (x:Nat):List Nat->Prop
 | one:Tw E x [x]
 | ext {v w:Nat} {r:List Nat}:Tw E x (v::r)->E v w\/E w v->w ∉ v::r->Tw E x (w::v::r)
end Hx
end
section
namespace Hx
open Go
noncomputable section
theorem G3 {q:Nat->Prop}{n:Nat}(h:∀i,i<n->¬q i):S.aq q n=0 :=
 (xB (n:=n) (p:=q) fun i=>by
  rw[Nat.zero_testBit]
  exact ⟨fun h'=>(by cases h'),fun ⟨a,b⟩=>(h i a b).elim⟩).symm
theorem Kv {p q:Nat->Prop}{n v:Nat}(hv:v<n)(h:∀i,q i↔p i\/i=v):S.aq q n=S.aq p n ||| 2 ^ v:=by
 symm
 refine xB fun i=>?_
 rw[Nat.testBit_or,Nat.testBit_two_pow,Bool.or_eq_true,iF,decide_eq_true_iff,h]
 constructor
 ·rintro (⟨a,b⟩ | e)
  ·exact ⟨a,.inl b⟩
  ·exact ⟨by omega,.inr e.symm⟩
 ·rintro ⟨a,b | e⟩
  ·exact .inl ⟨a,b⟩
  ·exact .inr e.symm
def S.aI (p:List Nat)(j i:Nat):List Nat:=(List.range p.length).map fun u=>S.aq (fun v=>Eg p u v/\(v<j\/v=j/\u<i)) p.length
def S.bz (p:List Nat):List Nat:=(List.range p.length).map fun u=>S.aq (Eg p u) p.length
theorem rI {p:List Nat}{j i:Nat}:(S.aI p j i).length=p.length:=by simp[S.aI]
theorem yA {p:List Nat}:(S.bz p).length=p.length:=by simp[S.bz]
theorem rK {p:List Nat}{j i u:Nat}(h:u<p.length):(S.aI p j i)[u]?=some (S.aq (fun v=>Eg p u v/\(v<j\/v=j/\u<i)) p.length):=by simp[S.aI,h]
theorem FS {p:List Nat}:S.aI p 0 0=List.replicate p.length 0:=by
 refine List.ext_getElem? fun u=>?_
 by_cases h:u<p.length
 ·rw[rK h,List.getElem?_replicate,if_pos h,G3]
  rintro i - ⟨-,h | h⟩<;>omega
 ·rw[List.getElem?_eq_none (by rw[rI];omega),List.getElem?_eq_none (by simp;omega)]
theorem F2 {p:List Nat}{j:Nat}:S.aI p j p.length=S.aI p (j+1) 0 :=
 List.map_congr_left fun u hu=>jD fun v hv=>by
  have hu:=List.mem_range.1 hu
  constructor
  ·rintro ⟨a,b⟩;exact ⟨a,by omega⟩
  ·rintro ⟨a,b⟩;exact ⟨a,by omega⟩
theorem HK {p:List Nat}:S.aI p p.length 0=S.bz p :=
 List.map_congr_left fun u hu=>jD fun v hv=>⟨fun a=>a.1,fun a=>⟨a,.inl hv⟩⟩
theorem IG {x i:Nat}:x / 2 ^ i &&& 1=if x.testBit i then 1 else 0:=by
 rw[Nat.and_one_is_mod,Nat.testBit_eq_decide_div_mod_eq]
 have:=Nat.mod_lt (x / 2 ^ i) (show 0<2 by decide)
 by_cases h:x / 2 ^ i % 2=1
 ·rw[if_pos (by rw[decide_eq_true_iff];exact h),h]
 ·rw[if_neg (by rw[decide_eq_true_iff];exact h)];omega
theorem EU {p:List Nat}{j i x:Nat}(hi:i<p.length)(hj:j<p.length)(h8:p.length<=8)(hx:p[j]?=some x) :
  (S.aI p j i).set i (S.aq (fun v=>Eg p i v/\(v<j\/v=j/\i<i)) p.length ||| (x / 2 ^ i &&& 1)*2 ^ j % 18446744073709551616)=S.aI p j (i+1):=by
 have h2:(2:Nat) ^ j<=2 ^ 8:=Nat.pow_le_pow_right (by decide) (by omega)
 have hPx:Par p j=x:=by simp[Par,hx]
 have hE:Eg p i j↔x.testBit i=true:=by rw[Eg,hPx]
 refine List.ext_getElem? fun u=>?_
 by_cases e:i=u
 ·subst e
  rw[List.getElem?_set_self (by rw[rI];exact hi),rK hi,IG]
  congr 1
  by_cases hb:x.testBit i=true
  ·rw[if_pos hb,Nat.one_mul,Nat.mod_eq_of_lt (by omega)]
   refine (Kv hj fun v=>?_).symm
   constructor
   ·rintro ⟨a,b⟩
    by_cases ev:v=j
    ·exact .inr ev
    ·exact .inl ⟨a,by omega⟩
   ·rintro (⟨a,b⟩ | rfl)
    ·exact ⟨a,by omega⟩
    ·exact ⟨hE.2 hb,by omega⟩
  ·rw[if_neg hb,Nat.zero_mul,Nat.zero_mod,Nat.or_zero]
   refine jD fun v _=>?_
   constructor
   ·rintro ⟨a,b⟩;exact ⟨a,by omega⟩
   ·rintro ⟨a,b⟩
    refine ⟨a,?_⟩
    by_cases ev:v=j
    ·subst ev;exact absurd (hE.1 a) hb
    ·omega
 ·rw[List.getElem?_set_ne e]
  by_cases h:u<p.length
  ·rw[rK h,rK h]
   refine congrArg some (jD fun v _=>?_)
   constructor<;>exact fun ⟨a,b⟩=>⟨a,by omega⟩
  ·rw[List.getElem?_eq_none (by rw[rI];omega),List.getElem?_eq_none (by rw[rI];omega)]
def S.bg (p:List Nat):Bool:=decide (1<=p.length)&&decide (p.length<=8)&&p.all (fun x=>decide (x<2 ^ p.length))&&S.aZ p
structure GOk (p:List Nat):Prop where
 l1:1<=p.length
 l8:p.length<=8
 hp:∀x∈p,x<2 ^ p.length
 ac:S.aZ p=true
theorem rO {p:List Nat}:S.bg p=true↔GOk p:=by
 simp only[S.bg,Bool.and_eq_true,decide_eq_true_eq,List.all_eq_true]
 exact ⟨fun ⟨⟨⟨a,b⟩,c⟩,d⟩=>⟨a,b,c,d⟩,fun ⟨a,b,c,d⟩=>⟨⟨⟨a,b⟩,c⟩,d⟩⟩
theorem J5 {p:List Nat}(h:¬GOk p):S.bg p=false:=by
 cases e:S.bg p with
 | false=>rfl
 | true=>exact absurd (rO.1 e) h
def S.gr (p:List Nat):List Nat×List Nat:=if S.bg p then (p,S.bz p) else ([],[])
theorem AF {n:Net}{ls:List (List Int)}{P:Nat->Prop}{k:Nat}{h:H}{v:AV}(hv:HZ n ls P k h v) :
  ∃y cs,v=.tup [.agg cs,.int .i64 (S.aW n ls)]/\(S.aW n ls=0->QnOk n y)/\Rp.rp P k h y cs/\∃a1 a2 a3 a4,cs=[a1,a2,a3,a4]:=by
 obtain ⟨y,hy,a,c,rfl,⟨cs,rfl,hc⟩,hi⟩:=hv
 have hi:=aX.1 hi
 injection hi with hi
 subst hi
 obtain ⟨a2,a3,a4,rfl,-⟩:=qV.1 hc
 exact ⟨y,_,rfl,hy,hc,_,_,_,_,rfl⟩
structure GvJ (g0:G) (q:Nat) (s:Int) (h:H):Prop where
 fr:∀i,i<g0.nx->i≠q->h.get i=g0.h.get i
 hq:h.get q=.cells 1 [[.int .i64 s]] 0 false false
structure ND where
 c:Nat->Int
 P:Nat->List Int
 m:Nat->Nat
 R:Nat->Nat->List Int
 o:Nat->Nat
def LN (n:Nat)(D:ND):Ky->Prop:=fun k=>k=(0,0)\/∃i q,k=(i+1,q)/\i<n/\q<2+D.o i
theorem LN.z {n:Nat}{D:ND}:LN n D (0,0):=.inl rfl
theorem LN.s {n:Nat}{D:ND}{i q:Nat}(h:i<n)(hq:q<2+D.o i):LN n D (i+1,q):=.inr ⟨i,q,rfl,h,hq⟩
theorem LN.p {n:Nat}{D:ND}{i:Nat}(h:i<n):LN n D (i+1,0):=LN.s h (by omega)
theorem LN.r {n:Nat}{D:ND}{i:Nat}(h:i<n):LN n D (i+1,1):=LN.s h (by omega)
def fm (D:ND)(V:Ky->AV)(i:Nat):List AV:=[.int .i64 (D.c i),V (i+1,0),V (i+1,1)]
def A0 (V:Ky->AV)(i r:Nat):List AV:=[V (i+1,2+r)]
structure BN (K n:Nat) (V:Ky->AV) (E:Ky->En) (D:ND):Prop where
 ns:E (0,0)=.sl 3 ((List.range n).map (fm D V))
 ps:∀i,i<n->E (i+1,0)=.sl 1 ((D.P i).map ci)/\(D.P i).length<=K
 rs:∀i,i<n->E (i+1,1)=.sl 1 ((List.range (D.m i)).map (A0 V i))/\D.m i<=K
 rr:∀i r,i<n->r<D.m i->(D.R i r).length<=K/\((r<D.o i/\E (i+1,2+r)=.sl 1 ((D.R i r).map ci))\/SlR NoP 0 .nil (D.R i r) (V (i+1,2+r)))
def ND.node (D:ND)(i:Nat):Node:=⟨D.c i,D.P i,(List.range (D.m i)).map (D.R i)⟩
theorem CX {g:G}{b:Nat}{v:AV}{l:List Int}{P:Nat->Prop}(h:Own g b v 1 (l.map ci))(hl:l.length<9223372036854775808)(hp:∀i,b<=i->P i):SlR P 0 g.h l v :=
 Own.sl (α:=Int) h hl (All2.of_map (fun a=>aX.2 rfl) _) fun i hi=>hp i (h.lt hi).1
theorem BN.rows {g:G}{b K n i:Nat}{V:Ky->AV}{E:Ky->En}{D:ND}{L:Ky->Prop}(hB:BN K n V E D)(hH:Hp g b L V E)(hL:∀k,LN n D k->L k)(hK:K<=1000000)(hi:i<n):SlR (fun j=>b<=j) 0 g.h ((List.range (D.m i)).map (D.R i)) (V (i+1,1)):=by
 obtain ⟨h1,h2⟩:=hB.rs i hi
 have ho:=hH.own (hL _ (LN.r hi)) h1
 refine Own.sl (α:=List Int) ho (by simp;omega) (sn fun r hr=>?_) fun j hj=>(ho.lt hj).1
 have hr:=List.mem_range.1 hr
 obtain ⟨h4,h3⟩:=hB.rr i r hi hr
 rcases h3 with ⟨h5,h3⟩ | h3
 ·exact cA.2 ⟨_,rfl,CX (hH.own (hL _ (LN.s hi (by omega))) h3) (by omega) fun _ h=>h⟩
 ·exact cA.2 ⟨_,rfl,(h3.tree (h':=g.h) (Nat.le_refl 0)).wd fun _ h=>h.elim⟩
theorem Hp.off {κ:Type} [DecidableEq κ]{g:G}{b:Nat}{L:κ->Prop}{V:κ->AV}{E:κ->En}{k:κ}{x:AV}(h:Hp g b L V E)(hk:¬L k):Hp g b L (ups V k x) E:=by
 have ne:∀j,L j->j≠k:=fun j hj e=>hk (by rw[<-e];exact hj)
 exact ⟨fun j hj=>by rw[ah V x (ne j hj)];exact h.ok j hj,fun j l hj hl hne id=>by rw[ah V x (ne j hj),ah V x (ne l hl)];exact h.sep j l hj hl hne id,h.nx⟩
theorem BN.pars {g:G}{b K n i:Nat}{V:Ky->AV}{E:Ky->En}{D:ND}{L:Ky->Prop}(hB:BN K n V E D)(hH:Hp g b L V E)(hL:∀k,LN n D k->L k)(hK:K<=1000000)(hi:i<n):SlR (fun j=>b<=j) 0 g.h (D.P i) (V (i+1,0)):=by
 obtain ⟨h1,h2⟩:=hB.ps i hi
 exact CX (hH.own (hL _ (LN.p hi)) h1) (by omega) fun _ h=>h
theorem BN.nodes {g:G}{b K n:Nat}{V:Ky->AV}{E:Ky->En}{D:ND}{L:Ky->Prop}(hB:BN K n V E D)(hH:Hp g b L V E)(hL:∀k,LN n D k->L k)(hK:K<=1000000)(hn:n<=1000000):SlR (fun j=>b<=j) 0 g.h ((List.range n).map D.node) (V (0,0)):=by
 have ho:=hH.own (hL _ LN.z) hB.ns
 refine Own.sl (α:=Node) ho (by simp;omega) (sn fun i hi=>?_) fun j hj=>(ho.lt hj).1
 have hi:=List.mem_range.1 hi
 exact eN.2 ⟨_,_,rfl,hB.pars hH hL hK hi,hB.rows hH hL hK hi⟩
theorem l6 {α:Type}(f:Nat->α){n i:Nat}(x:α)(hi:i<n):((List.range n).map f).set i x=(List.range n).map (ups f i x):=by
 refine List.ext_getElem (by simp) fun j h1 h2=>?_
 rw[List.getElem_set]
 by_cases e:i=j
 ·subst e;simp[aF]
 ·rw[if_neg e];simp[ah _ _ (Ne.symm e)]
theorem fB {α:Type}(f:Nat->α){n i:Nat}(hi:i<n):((List.range n).map f)[i]?=some (f i):=by simp[hi]
theorem uH {D D':ND}{V V':Ky->AV}{n i:Nat}{row:List AV}(h0:row=fm D' V' i)(h:∀j,j<n->j≠i->fm D V j=fm D' V' j):(List.range n).map (ups (fm D V) i row)=(List.range n).map (fm D' V'):=by
 refine List.map_congr_left fun j hj=>?_
 have hj:=List.mem_range.1 hj
 by_cases e:j=i
 ·subst e;rw[aF,h0]
 ·rw[ah _ _ e,h j hj e]
def IU (gr c:Int)(l:List Int):Prop:=(l.length:Int)=c/\(∀y∈l,0<=y/\y<=gr)/\l.sum=gr
def KW (gr:Int)(C:Nat):VS:=fun P k h v=>∃l:List Int,(l.length=C/\IU gr C l)/\One l P k h v
def S.rq (gr s x:Int):Int:=gr*x / s
theorem C3 (gr s:Int):S.rq gr s 0=0:=by simp[S.rq]
theorem Bs {gr s:Int}(hs:0<=s)(hg:0<=gr):∀l:List Int,(∀x∈l,0<=x/\x<=s)->0<=(l.map (S.rq gr s)).sum/\(l.map (S.rq gr s)).sum*s<=gr*l.sum
 | [],_=>by simp
 | x::l,h=>by
  have ih:=Bs hs hg l fun y hy=>h y (List.mem_cons_of_mem _ hy)
  have hx:=h x (List.mem_cons_self ..)
  have h1:0<=S.rq gr s x:=Int.ediv_nonneg (Int.mul_nonneg hg hx.1) hs
  have h2:S.rq gr s x*s<=gr*x:=by
   by_cases e:s=0
   ·have:x=0:=by omega
    subst this;simp[S.rq,e]
   ·exact Int.ediv_mul_le _ e
  simp only[List.map_cons,List.sum_cons]
  refine ⟨by omega,?_⟩
  rw[Int.add_mul,Int.mul_add]
  omega
theorem tJ:∀(l:List Int),(∀x∈l,0<=x)->0<=l.sum/\∀x∈l,x<=l.sum
 | [],_=>by simp
 | a::l,h=>by
  have ih:=tJ l fun y hy=>h y (List.mem_cons_of_mem _ hy)
  have ha:=h a (List.mem_cons_self ..)
  simp only[List.sum_cons]
  refine ⟨by omega,fun x hx=>?_⟩
  rcases List.mem_cons.1 hx with rfl | hx
  ·omega
  ·have:=ih.2 x hx;omega
theorem By:∀(l:List Int) (i:Nat) (x y:Int),l[i]?=some x->(l.set i y).sum=l.sum - x+y
 | [],i,x,y,h=>by simp at h
 | a::l,0,x,y,h=>by
  simp at h;subst h
  simp only[List.set_cons_zero,List.sum_cons];omega
 | a::l,i+1,x,y,h=>by
  rw[List.set_cons_succ,List.sum_cons,List.sum_cons,By l i x y (by simpa using h)];omega
theorem Ih {gr s:Int}{X:List Int}{la:Nat}(hg:0<=gr)(hX:∀x∈X,0<=x/\x<=s)(hs:s=X.sum)(hla:la<X.length){x:Int}(hx:(X.map (S.rq gr s))[la]?=some x):IU gr X.length ((X.map (S.rq gr s)).set la (x+(gr - (X.map (S.rq gr s)).sum)))/\0<=x+(gr - (X.map (S.rq gr s)).sum)/\x+(gr - (X.map (S.rq gr s)).sum)<=gr:=by
 have hs0:0<=s:=by rw[hs];exact (tJ X fun x hx=>(hX x hx).1).1
 have hq:=Bs hs0 hg X hX
 have hle:(X.map (S.rq gr s)).sum<=gr:=by
  by_cases e:s=0
  ·have h0:∀x∈X,x=0:=fun x hx=>by have:=hX x hx;omega
   have:X.map (S.rq gr s)=List.replicate X.length 0:=by
    rw[List.eq_replicate_iff]
    refine ⟨by simp,fun y hy=>?_⟩
    obtain ⟨z,hz,rfl⟩:=List.mem_map.1 hy
    rw[h0 z hz,C3]
   rw[this]
   have:∀n:Nat,(List.replicate n (0:Int)).sum=0:=fun n=>by induction n with
    | zero=>rfl
    | succ n ih=>rw[List.replicate_succ,List.sum_cons,ih];rfl
   rw[this];exact hg
  ·have h1:=hq.2
   rw[<-hs] at h1
   exact Int.le_of_mul_le_mul_right h1 (by omega)
 have hn:∀y∈X.map (S.rq gr s),0<=y:=fun y hy=>by
  obtain ⟨z,hz,rfl⟩:=List.mem_map.1 hy
  exact Int.ediv_nonneg (Int.mul_nonneg hg (hX z hz).1) hs0
 have hx0:=hn x (List.mem_of_getElem? hx)
 have hsum:((X.map (S.rq gr s)).set la (x+(gr - (X.map (S.rq gr s)).sum))).sum=gr:=by rw[By _ _ _ _ hx];omega
 have hn2:∀y∈(X.map (S.rq gr s)).set la (x+(gr - (X.map (S.rq gr s)).sum)),0<=y:=fun y hy=>by
  rcases List.mem_or_eq_of_mem_set hy with h | rfl
  ·exact hn y h
  ·omega
 have hb:=tJ _ hn2
 rw[hsum] at hb
 refine ⟨⟨by simp,fun y hy=>⟨hn2 y hy,hb.2 y hy⟩,hsum⟩,by omega,hb.2 _ ?_⟩
 exact List.mem_set (by simpa using hla) _
structure Rw1 (gr:Int) (nv u:AV) (C F j:Nat) (t:T) (g:G):Prop where
 st:St t [(0,.int .i64 gr),(1,.int .i64 (C:Int)),(2,nv),(3,.int .i64 (F:Int)),(9,u)]
 hX:∃(X:List Int) (s:Int),tat t 10=.int .i64 s/\X.length=C/\Own g 0 u 1 (X.map ci)/\(∀x∈X,0<=x/\x<=7)/\s=(X.take j).sum/\0<=s/\s<=7*j
theorem JG {d C F kk:Nat}{gr:Int}{nv u:AV}{l:List UInt8}{Q:QT}{t:T}{g:G}(hC:C<=3)(hF:F<=1000)(hl:SlR NoP kk .nil l nv)(h0:Rw1 gr nv u C F 0 t g)(h11:tat t 11=.int .i64 0)
  (fin:∀t g,Rw1 gr nv u C F C t g->Q (.exit 0) t [] g):wpL (wp C0 d none kG) Q t [] g:=by
 obtain ⟨nr,r1,r2,r3,r4⟩:=hl.all
 have r1:∀h',af h' 1 nv=some nr:=r1
 have hll:=hl.1
 have ll:=hl.len
 simp only[kG,pk]
 refine iI C (by omega) (fun j t df g=>df=[]/\Rw1 gr nv u C F j t g) ⟨rfl,h0⟩ h11 (by decide) ?_ ?_ ?_ ?_
 ·rintro j t df g v s (rfl | rfl | rfl) ⟨a1,⟨b1,b2,b3,b4,b5,-⟩,X,s',c1,c2⟩<;>exact ⟨a1,by simp[St,sx,b1,b2,b3,b4,b5],X,s',by simp[sx,c1],c2⟩
 ·rintro j t df g hj ⟨rfl,⟨h0,h1,h2,h3,h9,-⟩,X,s,h10,hX⟩ h11
  simp only[sz,simprocAttr,h11,h1]
  exact ⟨by simp[St,sx,h0,h1,h2,h3,h9],X,s,by simp[sx,h10],hX⟩
 ·rintro j t df g hj ⟨rfl,⟨h0,h1,h2,h3,h9,-⟩,X,s,h10,hXl,hX,hXb,hXs,hs0,hs1⟩ h11
  refine eU (P:=fun t' df g'=>df=[]/\∃(X':List Int) (x':Int),St t' [(0,.int .i64 gr),(1,.int .i64 (C:Int)),(2,nv),(3,.int .i64 (F:Int)),(9,u),(10,.int .i64 s),(11,.int .i64 (j:Int))]/\X'.length=C/\Own g' 0 u 1 (X'.map ci)/\(∀x∈X',0<=x/\x<=7)/\X'[j]?=some x'/\∀i,i≠j->X'[i]?=X[i]?) ?_ ?_
  ·have hXj:X[j]?=some X[j]:=List.getElem?_eq_getElem (by omega)
   simp only[sz,simprocAttr,h2,ll]
   refine jz (fun hb=>?_) (fun hb=>?_)
   ·have hb:0<l.length:=by simpa using hb
    have w1:IntKind.wrap .i64 ((F:Int)+(j:Int))=((F+j:Nat):Int):=by rw[aH (by omega) (by omega)];simp
    have q1:=CS (x:=F+j) (y:=l.length) hb
    have hmod:=Nat.mod_lt (F+j) hb
    generalize (F+j) % l.length=a at q1 hmod
    obtain ⟨y,hy,-,-⟩:=aw (l:=l) (j:=a) hmod
    obtain ⟨row,z1,z2⟩:=r3 a y hy
    rw[oE.1 z2] at z1
    have hlt:a<nr.length:=by omega
    have q2:=pO .u8 (a:=(y.toNat:Int)) (b:=8) (by omega) (by omega)
    have hm0:0<=(y.toNat:Int) % 8:=Int.emod_nonneg _ (by decide)
    have hm1:(y.toNat:Int) % 8<8:=Int.emod_lt_of_pos _ (by decide)
    have w2:IntKind.wrap .i64 ((y.toNat:Int) % 8)=(y.toNat:Int) % 8:=aH (by omega) (by omega)
    generalize (y.toNat:Int) % 8=z at q2 hm0 hm1 w2
    have u1:j<(X.map ci).length:=by simp;omega
    have u2:(X.map ci)[j]?=some (ci X[j]):=by rw[List.getElem?_map,hXj];rfl
    have rX:=hX.rows
    simp only[sz,simprocAttr,h2,h3,h9,h11,ll,w1,q1,r1,hlt,z1,q2,w2,rX,u1]
    refine cq (v:=u) (sz:=1) (n:=1) (i:=j) (off:=0) (x:=.int .i64 z) (row':=ci z) hX u2 rfl rfl rfl fun g4 hu4 n4 f4=>?_
    rw[<-List.map_set] at hu4
    simp only[sx,sy]
    refine ⟨X.set j z,z,by simp[St,sx,h0,h1,h2,h3,h9,h10,h11],by simp[hXl],hu4,fun x hx=>?_,by rw[List.getElem?_set_self (by omega)],fun i hi=>by rw[List.getElem?_set_ne (Ne.symm hi)]⟩
    rcases List.mem_or_eq_of_mem_set hx with h | rfl
    ·exact hXb x h
    ·omega
   ·simp only[sx,sy]
    exact ⟨X,X[j],by simp[St,sx,h0,h1,h2,h3,h9,h10,h11],hXl,hX,hXb,hXj,fun _ _=>rfl⟩
  clear h0 h1 h2 h3 h9 h10 h11 hX
  rintro t df g ⟨rfl,X',x',⟨h0,h1,h2,h3,h9,h10,h11,-⟩,hXl',hX',hXb',hxj,hXo⟩
  have u1:j<(X'.map ci).length:=by simp;omega
  have u2:(X'.map ci)[j]?=some (ci x'):=by rw[List.getElem?_map,hxj];rfl
  have rX:=hX'.rows
  have hx':=hXb' x' (List.mem_of_getElem? hxj)
  have w1:IntKind.wrap .i64 (s+x')=s+x':=aH (by omega) (by omega)
  simp only[sz,simprocAttr,oC,h10,h9,h11,rX,u1,u2,ci,w1]
  have ht:X'.take j=X.take j:=List.ext_getElem? fun i=>by
   by_cases e:i<j
   ·rw[List.getElem?_take_of_lt e,List.getElem?_take_of_lt e,hXo i (by omega)]
   ·rw[List.getElem?_eq_none (by simp;omega),List.getElem?_eq_none (by simp;omega)]
  refine ⟨by simp[St,sx,h0,h1,h2,h3,h9],X',s+x',by simp[sx],hXl',hX',hXb',?_,by omega,by omega⟩
  rw[List.take_add_one,hxj,ht,List.sum_append,<-hXs];simp
 ·rintro t df g ⟨rfl,h⟩
  exact fin t g h
structure Rw2 (gr s:Int) (u:AV) (C:Nat) (X:List Int) (j:Nat) (t:T) (g:G):Prop where
 st:St t [(0,.int .i64 gr),(1,.int .i64 (C:Int)),(9,u),(10,.int .i64 s)]
 hX:∃(la:Nat),tat t 12=.int .i64 (gr - ((X.take j).map (S.rq gr s)).sum)/\tat t 13=.int .i64 (la:Int)/\la<C/\Own g 0 u 1 (((X.take j).map (S.rq gr s)++X.drop j).map ci)
theorem Ij {gr s:Int}{X:List Int}{j:Nat}(h:j<X.length):((X.take j).map (S.rq gr s)++X.drop j).set j (S.rq gr s X[j])=(X.take (j+1)).map (S.rq gr s)++X.drop (j+1):=by
 have hl:((X.take j).map (S.rq gr s)).length=j:=by simp;omega
 rw[List.set_append_right _ _ (by omega),hl,Nat.sub_self,List.drop_eq_getElem_cons h,List.set_cons_zero,List.take_succ_eq_append_getElem h,List.map_append,List.append_assoc]
 rfl
theorem JX {d C:Nat}{gr s:Int}{u:AV}{X:List Int}{Q:QT}{t:T}{g:G}(hC:C<=3)(hg:0<=gr/\gr<=60)(hXl:X.length=C)(hXb:∀x∈X,0<=x/\x<=7/\x<=s)(h0:Rw2 gr s u C X 0 t g)(h14:tat t 14=.int .i64 0)
  (fin:∀t g,Rw2 gr s u C X C t g->Q (.exit 2) t [] g):wpL (wp C0 d none jP) Q t [] g:=by
 simp only[jP,oS]
 refine iI C (by omega) (fun j t df g=>df=[]/\Rw2 gr s u C X j t g) ⟨rfl,h0⟩ h14 (by decide) ?_ ?_ ?_ ?_
 ·rintro j t df g v s (rfl | rfl | rfl) ⟨a1,⟨b1,b2,b3,b4,-⟩,la,c1,c2,c3⟩<;>exact ⟨a1,by simp[St,sx,b1,b2,b3,b4],la,by simp[sx,c1],by simp[sx,c2],c3⟩
 ·rintro j t df g hj ⟨rfl,⟨h0,h1,h9,h10,-⟩,la,h12,h13,hX⟩ h14
  simp only[sz,simprocAttr,h14,h1]
  exact ⟨by simp[St,sx,h0,h1,h9,h10],la,by simp[sx,h12],by simp[sx,h13],hX⟩
 ·rintro j t df g hj ⟨rfl,⟨h0,h1,h9,h10,-⟩,la,h12,h13,hla,hX⟩ h14
  have hjl:j<X.length:=by omega
  obtain ⟨b0,b1,b2⟩:=hXb X[j] (List.getElem_mem hjl)
  have hYl:((X.take j).map (S.rq gr s)++X.drop j).length=C:=by simp;omega
  have hYj:((X.take j).map (S.rq gr s)++X.drop j)[j]?=some X[j]:=by
   rw[List.getElem?_append_right (by simp;omega)]
   simp[show min j X.length=j by omega,hjl]
  have u1:j<(((X.take j).map (S.rq gr s)++X.drop j).map ci).length:=by rw[List.length_map,hYl];exact hj
  have u2:(((X.take j).map (S.rq gr s)++X.drop j).map ci)[j]?=some (ci X[j]):=by rw[List.getElem?_map,hYj];rfl
  have rX:=hX.rows
  have hgx:0<=gr*X[j]:=Int.mul_nonneg hg.1 b0
  have hgx2:gr*X[j]<=60*7:=Int.mul_le_mul hg.2 b1 b0 (by decide)
  have hset:=Ij (gr:=gr) (s:=s) hjl
  have hsq:(X.take (j+1)).map (S.rq gr s)=(X.take j).map (S.rq gr s)++[S.rq gr s X[j]]:=by rw[List.take_succ_eq_append_getElem hjl,List.map_append];rfl
  have hsb:=Bs (gr:=gr) (s:=s) (by omega) hg.1 (X.take j) fun y hy=>by have:=hXb y (List.mem_of_mem_take hy);omega
  have hqb:∀x∈X,0<=S.rq gr s x/\S.rq gr s x<=420:=fun x hx=>by
   obtain ⟨c0,c1,c2⟩:=hXb x hx
   have h1:0<=gr*x:=Int.mul_nonneg hg.1 c0
   have h2:gr*x<=60*7:=Int.mul_le_mul hg.2 c1 c0 (by decide)
   refine ⟨Int.ediv_nonneg h1 (by omega),?_⟩
   have:=Int.ediv_le_self (b:=s) h1
   unfold S.rq;omega
  have hqs:∀l:List Int,(∀x∈l,x∈X)->(l.map (S.rq gr s)).sum<=420*l.length:=fun l=>by
   induction l with
   | nil=>intro _;simp
   | cons a l ih =>
    intro h
    have h1:=hqb a (h a (List.mem_cons_self ..))
    have h2:=ih fun y hy=>h y (List.mem_cons_of_mem _ hy)
    simp only[List.map_cons,List.sum_cons,List.length_cons]
    push_cast
    omega
  have hql:=hqs (X.take j) fun x hx=>List.mem_of_mem_take hx
  have hql2:(X.take j).length<=3:=by simp;omega
  have hqj:=hqb X[j] (List.getElem_mem hjl)
  refine eU (P:=fun t' df g'=>df=[]/\∃(la':Nat),St t' [(0,.int .i64 gr),(1,.int .i64 (C:Int)),(9,u),(10,.int .i64 s),(12,.int .i64 (gr - ((X.take j).map (S.rq gr s)).sum)),(13,.int .i64 (la':Int)),(14,.int .i64 (j:Int))]/\la'<C/\Own g' 0 u 1 (((X.take (j+1)).map (S.rq gr s)++X.drop (j+1)).map ci)) ?_ ?_
  ·simp only[sz,simprocAttr,h9,h14,rX,u1,u2,ci]
   refine jz (fun hb=>?_) (fun hb=>?_)
   ·have hb:0<X[j]:=by simpa using hb
    have w1:IntKind.wrap .i64 (gr*X[j])=gr*X[j]:=aH (by omega) (by omega)
    have q1:bA .quo (.int .i64 (gr*X[j])) (.int .i64 s)=.val (.int .i64 (S.rq gr s X[j])):=FC (x:=gr*X[j]) (y:=s) hgx (by omega) (by omega)
    simp only[sz,simprocAttr,h0,h9,h10,h14,rX,u1,u2,ci,w1,q1]
    refine cq (v:=u) (sz:=1) (n:=1) (i:=j) (off:=0) (x:=.int .i64 (S.rq gr s X[j])) (row':=ci (S.rq gr s X[j])) hX u2 rfl rfl rfl fun g4 hu4 n4 f4=>?_
    rw[<-List.map_set,hset] at hu4
    simp only[sz,simprocAttr,h14]
    exact ⟨j,by simp[St,sx,h0,h1,h9,h10,h12,h14],by omega,hu4⟩
   ·have hb:X[j]=0:=by
     have:¬0<X[j]:=by simpa using hb
     omega
    simp only[sx,sy]
    refine ⟨la,by simp[St,sx,h0,h1,h9,h10,h12,h13,h14],hla,?_⟩
    rw[<-hset,hb,C3,<-hb]
    have:((X.take j).map (S.rq gr s)++X.drop j).set j X[j]=(X.take j).map (S.rq gr s)++X.drop j:=by
     refine List.ext_getElem? fun i=>?_
     by_cases e:j=i
     ·subst e;rw[List.getElem?_set_self (by omega),hYj]
     ·rw[List.getElem?_set_ne e]
    rw[this];exact hX
  clear h0 h1 h9 h10 h12 h13 h14 hX rX hla u1 u2
  rintro t df g ⟨rfl,la',⟨h0,h1,h9,h10,h12,h13,h14,-⟩,hla,hX'⟩
  have hYl':((X.take (j+1)).map (S.rq gr s)++X.drop (j+1)).length=C:=by simp;omega
  have hYj':((X.take (j+1)).map (S.rq gr s)++X.drop (j+1))[j]?=some (S.rq gr s X[j]):=by
   rw[List.getElem?_append_left (by simp;omega),hsq,List.getElem?_append_right (by simp;omega)]
   simp[show min j X.length=j by omega]
  have u1:j<(((X.take (j+1)).map (S.rq gr s)++X.drop (j+1)).map ci).length:=by rw[List.length_map,hYl'];exact hj
  have u2:(((X.take (j+1)).map (S.rq gr s)++X.drop (j+1)).map ci)[j]?=some (ci (S.rq gr s X[j])):=by rw[List.getElem?_map,hYj'];rfl
  have rX:=hX'.rows
  have w1:IntKind.wrap .i64 (gr - ((X.take j).map (S.rq gr s)).sum - S.rq gr s X[j])=gr - ((X.take (j+1)).map (S.rq gr s)).sum:=by
   rw[hsq,List.sum_append,aH (by omega) (by omega)];simp;omega
  simp only[sz,simprocAttr,po,h12,h9,h14,rX,u1,u2,ci,w1]
  exact ⟨by simp[St,sx,h0,h1,h9,h10],la',by simp[sx],by simp[sx,h13],hla,hX'⟩
 ·rintro t df g ⟨rfl,h⟩
  exact fin t g h
theorem JC {d C F kk:Nat}{g:G}{nv:AV}{gr:Int}{l:List UInt8}(hd:0<d)(hC:1<=C/\C<=3)(hF:F<=1000)(hg:0<=gr/\gr<=60)(hl:SlR NoP kk .nil l nv) :
  ∃r,aA C0 d N.am [.int .i64 gr,.int .i64 (C:Int),nv,.int .i64 (F:Int)] g=.val r/\KW gr C NoP 0 .nil r:=by
 rw[uY]
 refine bD xz (xs:=[.int .i64 gr,.int .i64 (C:Int),nv,.int .i64 (F:Int)]) (by simp only[aG,tD d (hl.tree (h':=g.h) (Nat.le_refl _)),dT 0]) (by simp[pq]) (lB fun o=>bc _) (by decide) hd ?_
 simp only[sz,simprocAttr,pq]
 refine q8 (b:=0) (n:=C) (by unfold bh;omega) (by unfold bh;omega) (Nat.zero_le _) fun u g1 hu n1 f1 vu=>?_
 simp only[sz,simprocAttr]
 refine JG (gr:=gr) (nv:=nv) (u:=u) (C:=C) (F:=F) hC.2 hF hl ⟨by simp[St,sx],List.replicate C 0,0,by simp[sx],by simp,by simpa [ci] using hu,fun x hx=>by rw[(List.mem_replicate.1 hx).2];decide,by simp,by omega,by omega⟩ (by simp[sx]) ?_
 rintro t g2 ⟨⟨h0,h1,h2,h3,h9,-⟩,X,s,h10,hXl,hX,hXb,hXs,hs0,hs1⟩
 rw[List.take_of_length_le (by omega)] at hXs
 have hms:=tJ X fun x hx=>(hXb x hx).1
 simp only[sz,simprocAttr,om,h0]
 refine JX (gr:=gr) (s:=s) (u:=u) (C:=C) (X:=X) hC.2 hg hXl (fun x hx=>⟨(hXb x hx).1,(hXb x hx).2,by rw[hXs];exact hms.2 x hx⟩) ⟨by simp[St,sx,h0,h1,h9,h10],0,by simp[sx],by simp[sx],by omega,by simpa using hX⟩ (by simp[sx]) ?_
 clear h0 h1 h2 h3 h9 h10 hX
 rintro t g3 ⟨⟨h0,h1,h9,h10,-⟩,la,h12,h13,hla,hX⟩
 rw[List.take_of_length_le (by omega)] at h12 hX
 rw[List.drop_eq_nil_of_le (by omega),List.append_nil] at hX
 obtain ⟨x,hx⟩:∃x,(X.map (S.rq gr s))[la]?=some x:=⟨_,List.getElem?_eq_getElem (by simp;omega)⟩
 obtain ⟨f1,f2,f3⟩:=Ih (gr:=gr) (s:=s) (X:=X) (la:=la) hg.1 (fun x hx=>⟨(hXb x hx).1,by rw[hXs];exact hms.2 x hx⟩) hXs (by omega) hx
 have u1:la<((X.map (S.rq gr s)).map ci).length:=by simp;omega
 have u2:((X.map (S.rq gr s)).map ci)[la]?=some (ci x):=by rw[List.getElem?_map,hx];rfl
 have rX:=hX.rows
 have w1:IntKind.wrap .i64 (x+(gr - (X.map (S.rq gr s)).sum))=x+(gr - (X.map (S.rq gr s)).sum):=aH (by omega) (by omega)
 simp only[sz,simprocAttr,o5,h9,h13,h12,rX,u1,u2,ci,w1]
 refine cq (v:=u) (sz:=1) (n:=1) (i:=la) (off:=0) (x:=.int .i64 (x+(gr - (X.map (S.rq gr s)).sum))) (row':=ci (x+(gr - (X.map (S.rq gr s)).sum))) hX u2 rfl rfl rfl fun g4 hu4 n4 f4=>?_
 rw[<-List.map_set] at hu4
 simp only[sz,simprocAttr,h9]
 exact ⟨fun _=>True,_,⟨by simp[hXl],by rw[<-hXl];exact f1⟩,hu4.ints (by simp;omega)⟩
theorem vd (os:List UInt8):∀k,(S.aH os k).Perm ((List.range k).map fun i:Nat=>(i:Int))
 | 0=>.refl _
 | k+1=>by
  rw[List.range_succ,List.map_append,S.aH]
  refine List.perm_middle.trans ?_
  rw[List.take_append_drop]
  exact ((vd os k).cons _).trans (List.perm_append_comm (l₁:=[(k:Int)]))
structure Num (n:Nat) (pl:List Int) (num:Nat->Nat):Prop where
 len:pl.length=n
 at_:∀k,k<n->pl[k]?=some (num k:Int)
 lt:∀k,k<n->num k<n
 inj:∀i j,i<n->j<n->num i=num j->i=j
 sur:∀u,u<n->∃k,k<n/\num k=u
theorem Ke (os:List UInt8)(n:Nat):∃num,Num n (S.aH os n) num:=by
 have hp:=vd os n
 have hl:=mO os n
 have hmem:∀x∈S.aH os n,∃i:Nat,i<n/\x=(i:Int):=fun x hx=>by
  have:=hp.mem_iff.1 hx
  obtain ⟨i,hi,rfl⟩:=List.mem_map.1 this
  exact ⟨i,List.mem_range.1 hi,rfl⟩
 have hnd:(S.aH os n).Nodup:=by
  rw[hp.nodup_iff]
  refine List.Pairwise.map _ ?_ (List.nodup_range (n:=n))
  intro a b h e
  exact h (by omega)
 have hat:∀k,k<n->(S.aH os n)[k]?=some (((S.aH os n)[k]?.getD 0).toNat:Int)/\((S.aH os n)[k]?.getD 0).toNat<n:=fun k hk=>by
  have hk':k<(S.aH os n).length:=by omega
  have e:=List.getElem?_eq_getElem hk'
  obtain ⟨i,hi,h⟩:=hmem _ (List.getElem_mem hk')
  rw[e,Option.getD_some,h]
  simp[hi]
 refine ⟨fun k=>((S.aH os n)[k]?.getD 0).toNat,hl,fun k hk=>(hat k hk).1,fun k hk=>(hat k hk).2,fun i j hi hj h=>?_,fun u hu=>?_⟩
 ·have h1:=(hat i hi).1
  have h2:=(hat j hj).1
  refine (List.getElem?_inj (by omega) hnd).1 ?_
  rw[h1,h2]
  exact congrArg (fun x:Nat=>some (x:Int)) h
 ·have:(u:Int)∈S.aH os n:=hp.mem_iff.2 (List.mem_map.2 ⟨u,List.mem_range.2 hu,rfl⟩)
  obtain ⟨k,hk,he⟩:=List.mem_iff_getElem.1 this
  refine ⟨k,by omega,?_⟩
  rw[List.getElem?_eq_getElem hk,he];rfl
theorem IE (m n:Nat):∃z:Int,bA .shl (.int .i64 (m:Int)) (.int .u64 (n:Int))=.val (.int .i64 z):=⟨_,rfl⟩
def LNX (X:Ky->Prop)(n:Nat)(D:ND):Ky->Prop:=fun k=>LN n D k\/X k
def X1:Ky->Prop:=fun k=>k=(0,1)
def X2:Ky->Prop:=fun k=>k=(0,1)\/k=(0,2)
structure DN (X:Ky->Prop) (r0:List AV) (n q K:Nat) (gr:Int) (V:Ky->AV) (E:Ky->En) (D:ND) (g:G):Prop where
 hp:Hp g 2 (LNX X n D) V E
 bn:BN K n V E D
 vb:V (0,1)=.hptr q 0 0 0
 bx:E (0,1)=.bx [.int .i64 gr,V (0,0)]
 h0:g.h.get 0=.cells 3 [r0] 0 false false
 h1:g.h.get 1=.cells 2 [[.int .i64 0,.nils]] 0 false false
theorem DN.q {X:Ky->Prop}{r0:List AV}{n q K:Nat}{gr:Int}{V:Ky->AV}{E:Ky->En}{D:ND}{g:G}(h:DN X r0 n q K gr V E D g)(hX:X (0,1)):g.h.get q=.cells 2 [[.int .i64 gr,V (0,0)]] 0 false false/\2<=q/\q<g.nx:=by
 obtain ⟨id,h1,h2,h3,h4⟩:=h.hp.box (k:=(0,1)) (.inr hX) h.bx
 rw[h.vb] at h3;injection h3 with h3;subst h3
 exact ⟨h4,h1,h2⟩
theorem DN.ns {X:Ky->Prop}{r0:List AV}{n q K:Nat}{gr:Int}{V:Ky->AV}{E:Ky->En}{D:ND}{g:G}(h:DN X r0 n q K gr V E D g):Own g 2 (V (0,0)) 3 ((List.range n).map (fm D V)):=h.hp.own (.inl LN.z) h.bn.ns
theorem DN.same {X:Ky->Prop}{r0:List AV}{n q K:Nat}{gr:Int}{V:Ky->AV}{E:Ky->En}{D:ND}{g g':G}(h:DN X r0 n q K gr V E D g)(hf:Fr g g'):DN X r0 n q K gr V E D g':=by
 have:=h.hp.nx
 exact ⟨h.hp.step hf.1 fun i _ hi=>hf.2 i hi,h.bn,h.vb,h.bx,by rw[hf.2 0 (by omega),h.h0],by rw[hf.2 1 (by omega),h.h1]⟩
theorem rk {g:G}{b:Nat}{v:AV}{sz:Nat}{rows:List (List AV)}(h:Own g b v sz rows)(hr:0<rows.length):ph v=true:=by
 rcases h with ⟨rfl,rfl⟩ | ⟨id,ep,lo,-,-,rfl,-⟩
 ·simp at hr
 ·rfl
theorem DN.card {X:Ky->Prop}{r0:List AV}{n q K i:Nat}{gr c:Int}{V:Ky->AV}{E:Ky->En}{D:ND}{g:G}{KK:AV->G->Prop}{DD:ADf->Prop}(h:DN X r0 n q K gr V E D g)(hi:i<n)(hX:∀k,X k->k≠(0,0))
  (kk:∀g' E',DN X r0 n q K gr V E' { D with c:=ups D.c i c } g'->g'.nx=g.nx->KK .undef g'):(lO 1 (nK 3 (V (0,0)) i 0) (.int .i64 c) g).sat KK g DD:=by
 refine h.hp.put (k:=(0,0)) (row:=fm D V i) (row':=[.int .i64 c,V (i+1,0),V (i+1,1)]) (.inl LN.z) h.bn.ns (fB _ hi) rfl rfl rfl fun g' hH hn hf1 hf2=>?_
 refine kk g' _ ⟨hH.sub fun k hk=>hk,⟨?_,fun j hj=>?_,fun j hj=>?_,fun j r hj hr=>?_⟩,h.vb,?_,by rw[hf1 0 (by omega),h.h0],by rw[hf1 1 (by omega),h.h1]⟩ hn
 ·rw[aF,l6 _ _ hi]
  congr 1
  refine uH (by simp[fm,aF]) fun j hj hne=>by simp[fm,ah _ _ hne]
 ·rw[ah _ _ (by simp)];exact h.bn.ps j hj
 ·rw[ah _ _ (by simp)];exact h.bn.rs j hj
 ·rw[ah _ _ (by simp)];exact h.bn.rr j r hj hr
 ·rw[ah _ _ (by simp)];exact h.bx
structure NumI (n:Nat) (num:Nat->Nat) (Y:List Nat):Prop where
 l:Y.length=n
 b:∀i,i<n->∀u,(Par Y (num i)).testBit u=true->∃k,k<i/\u=num k
theorem Dc {a b v:Nat}:Bt (a ||| b) v↔Bt a v\/Bt b v:=by rw[Bt,Nat.testBit_or,Bool.or_eq_true];rfl
theorem ii {a b:Nat}:a &&& b=0↔∀v,¬(Bt a v/\Bt b v):=by
 rw[<-Classical.not_not (a:=a &&& b=0)]
 show ¬(a &&& b≠0)↔_
 rw[Kg]
 exact ⟨fun h v hv=>h ⟨v,hv⟩,fun h ⟨v,hv⟩=>h v hv⟩
theorem iJ {a b v:Nat}:Bt (a ^^^ (a &&& b)) v↔Bt a v/\¬Bt b v:=by
 rw[Bt,Nat.testBit_xor,Nat.testBit_and]
 unfold Bt
 cases a.testBit v<;>cases b.testBit v<;>simp
theorem pP {a b n:Nat}(h:a<2 ^ n):a ^^^ (a &&& b)<2 ^ n:=Nat.xor_lt_two_pow h (Nat.lt_of_le_of_lt Nat.and_le_left h)
theorem tM {x n:Nat}:x &&& (2 ^ n - 1)<2 ^ n:=by
 rw[Nat.and_two_pow_sub_one_eq_mod]
 exact Nat.mod_lt _ (Nat.pow_pos (by decide))
def Apt (p:List Nat)(x y z:Nat):Prop:=∀v,Bt y v->¬Re (Eg p) (Bt z) (Bt x) v
theorem Ip {p:List Nat}{x y z:Nat}(hy:y<2 ^ p.length):S.aq (Re (Eg p) (Bt z) (Bt x)) p.length &&& y=0↔Apt p x y z:=by
 rw[ii]
 constructor
 ·intro h v hv hr
  exact h v ⟨iF.2 ⟨qi hy hv,hr⟩,hv⟩
 ·rintro h v ⟨h1,h2⟩
  exact h v h2 (iF.1 h1).2
theorem JR {p:List Nat}{x z:Nat}(hx:x &&& z=0){v:Nat}(hv:Bt x v):Re (Eg p) (Bt z) (Bt x) v:=⟨⟨false,.st hv⟩,fun h=>ii.1 hx v ⟨hv,h⟩⟩
theorem Ej {n a b c e:Nat}:∃x y w z:Nat,(x=a &&& (2 ^ n - 1)/\y=(b &&& (2 ^ n - 1)) ^^^ (b &&& (2 ^ n - 1) &&& x) /\
  w=((c &&& (2 ^ n - 1)) ^^^ (c &&& (2 ^ n - 1) &&& x)) ^^^ (((c &&& (2 ^ n - 1)) ^^^ (c &&& (2 ^ n - 1) &&& x)) &&& y) /\
  z=((((e &&& (2 ^ n - 1)) ^^^ (e &&& (2 ^ n - 1) &&& x)) ^^^ (((e &&& (2 ^ n - 1)) ^^^ (e &&& (2 ^ n - 1) &&& x)) &&& y))) ^^^ (((((e &&& (2 ^ n - 1)) ^^^ (e &&& (2 ^ n - 1) &&& x)) ^^^ (((e &&& (2 ^ n - 1)) ^^^ (e &&& (2 ^ n - 1) &&& x)) &&& y))) &&& w)) /\
  (x<2 ^ n/\y<2 ^ n/\w<2 ^ n/\z<2 ^ n)/\y &&& x=0/\w &&& x=0/\w &&& y=0/\z &&& x=0/\z &&& y=0/\z &&& w=0:=by
 refine ⟨_,_,_,_,⟨rfl,rfl,rfl,rfl⟩,⟨tM,pP tM,pP (pP tM),pP (pP (pP tM))⟩,?_,?_,?_,?_,?_,?_⟩
 ·exact ii.2 fun v h=>(iJ.1 h.1).2 h.2
 ·exact ii.2 fun v h=>(iJ.1 (iJ.1 h.1).1).2 h.2
 ·exact ii.2 fun v h=>(iJ.1 h.1).2 h.2
 ·exact ii.2 fun v h=>(iJ.1 (iJ.1 (iJ.1 h.1).1).1).2 h.2
 ·exact ii.2 fun v h=>(iJ.1 (iJ.1 h.1).1).2 h.2
 ·exact ii.2 fun v h=>(iJ.1 h.1).2 h.2
section
variable {n:Net}{w vs:List Int}{Z:Nat}
theorem CW {u v:Nat}(hr:NR n)(x:Int)(h:¬(v=u\/Eg (S.ak n) v u)):S.am n (vs.set v x) u=S.am n vs u:=by
 refine xZ x (fun e=>h (.inl e.symm)) fun y hy q hq e=>h (.inr ?_)
 have h0:=bU (hr.places y (List.mem_of_getElem? hy)) q hq
 refine (AU hr hy v).2 ?_
 rw[<-e,Int.toNat_of_nonneg h0.1];exact hq
theorem xr {u v:Nat}(x:Int)(h:u≠v):S.dl w (vs.set v x) u=S.dl w vs u:=by
 rw[S.dl,S.dl,List.getElem?_set_ne (Ne.symm h)]
def S.ap (Z:Nat)(w vs:List Int):List Int:=(List.range vs.length).map fun v=>if Z.testBit v then w[v]?.getD 0 else vs[v]?.getD 0
theorem Ai {v:Nat}(x:Int)(h:Z.testBit v=true):S.ap Z w (vs.set v x)=S.ap Z w vs:=by
 rw[S.ap,S.ap,List.length_set]
 refine List.map_congr_left fun u hu=>?_
 by_cases e:v=u
 ·subst e;rw[h,if_pos rfl,if_pos rfl]
 ·rw[List.getElem?_set_ne e]
theorem xY:(S.ap Z w vs).length=vs.length:=by simp[S.ap]
theorem CM {u:Nat}(hu:u<vs.length):(S.ap Z w vs)[u]?=some (if Z.testBit u then w[u]?.getD 0 else vs[u]?.getD 0):=by
 rw[S.ap,List.getElem?_map,List.getElem?_range hu];rfl
theorem CV {v:Nat}(x:Int)(h:Z.testBit v=false):S.ap Z w (vs.set v x)=(S.ap Z w vs).set v x:=by
 refine List.ext_getElem? fun u=>?_
 by_cases hu:u<vs.length
 ·rw[CM (by rw[List.length_set];exact hu)]
  by_cases e:v=u
  ·subst e
   rw[List.getElem?_set_self hu,h,if_neg (by decide),List.getElem?_set_self (by rw[xY];exact hu)];rfl
  ·rw[List.getElem?_set_ne e,List.getElem?_set_ne e,CM hu]
 ·rw[List.getElem?_eq_none (by rw[xY,List.length_set];omega),List.getElem?_eq_none (by rw[List.length_set,xY];omega)]
theorem JM (h:∀v,v<vs.length->Z.testBit v=true->vs[v]?.getD 0=w[v]?.getD 0):S.ap Z w vs=vs:=by
 refine List.ext_getElem? fun u=>?_
 by_cases hu:u<vs.length
 ·rw[S.ap,List.getElem?_map,List.getElem?_range hu,Option.map_some,List.getElem?_eq_getElem hu]
  have:=h u hu
  rw[List.getElem?_eq_getElem hu] at this
  cases hz:Z.testBit u with
  | true=>rw[if_pos rfl,<-this hz];rfl
  | false=>rw[if_neg (by decide)];rfl
 ·rw[List.getElem?_eq_none (by simp[S.ap];omega),List.getElem?_eq_none (by omega)]
theorem JZ (hr:NR n){A s:Nat}(hA:A<2 ^ n.nodes.length)(hcl:∀u,u<n.nodes.length->A.testBit u=true->Sub (Par (S.ak n) u) A)(hs:∀v,s.testBit v=true->A.testBit v=true) :
  S.ah (S.aa n) (fun vs=>S.pT s n.nodes.length (S.dl w vs)*S.aJ n vs)*(S.ae (S.aa n)*S.pT A n.nodes.length (fun _=>n.grain)) =
  S.ah (S.aa n) (fun vs=>S.pT s n.nodes.length (S.dl w vs)*S.pT A n.nodes.length (S.am n vs))*(S.pT A n.nodes.length (fun u=>(S.aa n)[u]?.getD 0)*S.be n):=by
 have hl:=hr.l2
 have hcl':=aM n
 have hpl:(S.ak n).length=n.nodes.length:=by simp[S.ak]
 have key:∀m T:Nat,2 ^ n.nodes.length - T<=m->T<2 ^ n.nodes.length->(∀v,A.testBit v=true->T.testBit v=true)->(∀u,u<n.nodes.length->T.testBit u=true->Sub (Par (S.ak n) u) T) ->
   S.ah (S.aa n) (fun vs=>S.pT s n.nodes.length (S.dl w vs)*S.pT T n.nodes.length (S.am n vs))*(S.pT T n.nodes.length (fun u=>(S.aa n)[u]?.getD 0)*S.pT A n.nodes.length (fun _=>n.grain)) =
    S.ah (S.aa n) (fun vs=>S.pT s n.nodes.length (S.dl w vs)*S.pT A n.nodes.length (S.am n vs))*(S.pT A n.nodes.length (fun u=>(S.aa n)[u]?.getD 0)*S.pT T n.nodes.length (fun _=>n.grain)) ->
   S.ah (S.aa n) (fun vs=>S.pT s n.nodes.length (S.dl w vs)*S.aJ n vs)*(S.ae (S.aa n)*S.pT A n.nodes.length (fun _=>n.grain)) =
    S.ah (S.aa n) (fun vs=>S.pT s n.nodes.length (S.dl w vs)*S.pT A n.nodes.length (S.am n vs))*(S.pT A n.nodes.length (fun u=>(S.aa n)[u]?.getD 0)*S.be n):=by
  intro m
  induction m with
  | zero=>intro T h1 h2;omega
  | succ m ih =>
   intro T h1 h2 hAT hg he
   by_cases hst:∀v,v<n.nodes.length->T.testBit v=false->¬Sub (Par (S.ak n) v) T
   ·have hall:=jC (qZ hr) hr.acyc (T:=T) (fun v hv=>hst v (by omega))
    rw[hpl] at hall
    have e1:∀vs,S.pT T n.nodes.length (S.am n vs)=S.aJ n vs:=fun vs=>qw hall
    have e2:S.pT T n.nodes.length (fun u=>(S.aa n)[u]?.getD 0)=S.ae (S.aa n):=by
     rw[qw hall]
     congr 1
     refine List.ext_getElem (by simp[hcl']) fun i h1 h2=>?_
     simp[List.getElem?_eq_getElem h2]
    have e3:S.pT T n.nodes.length (fun _=>n.grain)=S.be n:=by
     rw[qw hall,S.be]
     congr 1
     refine List.ext_getElem (by simp) fun i h1 h2=>?_
     simp
    simp only[e1] at he
    rw[e2,e3] at he
    exact he
   ·simp only[Classical.not_forall,Classical.not_not] at hst
    obtain ⟨v,hv,hb,hsv⟩:=hst
    obtain ⟨x,hx,-,-⟩:=aw hv
    have hnT:∀u,T.testBit u=true->u≠v:=fun u hu e=>by rw[e,hb] at hu;cases hu
    have hpos:∀(u:Nat) (y:Node),n.nodes[u]?=some y->Sub (Par (S.ak n) u) T->∀p∈y.parents,p.toNat≠v:=fun u y hy hsu p hp=>by
     have h0:=bU (hr.places y (List.mem_of_getElem? hy)) p hp
     refine hnT _ (hsu _ ((AU hr hy p.toNat).2 ?_))
     rw[Int.toNat_of_nonneg h0.1];exact hp
    have hv64:v<64:=by omega
    have t1:(T ||| S.au v).testBit v=true:=by rw[fY,ki hv64];simp
    have t2:∀u,u≠v->(T ||| S.au v).testBit u=T.testBit u:=fun u hu=>by rw[fY,ki hv64];simp[hu,Ne.symm hu]
    have hlt:T<T ||| S.au v:=Nat.lt_of_le_of_ne Nat.left_le_or fun e=>by rw[<-e,hb] at t1;cases t1
    have hbl:S.au v<2 ^ n.nodes.length:=by
     refine Nat.lt_pow_two_of_testBit _ fun i hi=>?_
     rw[ki hv64];simp;omega
    have hor:T ||| S.au v<2 ^ n.nodes.length:=Nat.or_lt_two_pow h2 hbl
    have hc:(S.aa n)[v]?=some x.card:=by simp[S.aa,hx]
    have hcx:=hr.card x (List.mem_of_getElem? hx)
    refine ih (T ||| S.au v) (by omega) hor (fun u hu=>?_) (fun u hu hb' w hw=>?_) ?_
    ·rw[fY,hAT u hu];rfl
    ·rw[fY,Bool.or_eq_true]
     by_cases e:u=v
     ·subst e;exact .inl (hsv w hw)
     ·rw[t2 u e] at hb'
      exact .inl (hg u hu hb' w hw)
    ·have e1:S.ah (S.aa n) (fun vs=>S.pT s n.nodes.length (S.dl w vs)*S.pT (T ||| S.au v) n.nodes.length (S.am n vs))=S.ah (S.aa n) fun vs=>(S.pT s n.nodes.length (S.dl w vs)*S.pT T n.nodes.length (S.am n vs))*S.am n vs v :=
      eO fun vs _=>by rw[qS hb t1 t2 hv,Int.mul_assoc]
     have e2:=rU n.grain (cs:=S.aa n) (v:=v) (c:=x.card) (G:=fun vs=>S.pT s n.nodes.length (S.dl w vs)*S.pT T n.nodes.length (S.am n vs)) (f:=fun vs=>S.am n vs v) hc (by omega)
      (fun vs y _=>by
       have a1:S.pT s n.nodes.length (S.dl w (vs.set v y))=S.pT s n.nodes.length (S.dl w vs):=gw fun u _ hb'=>xr y (hnT u (hAT u (hs u hb')))
       have a2:S.pT T n.nodes.length (S.am n (vs.set v y))=S.pT T n.nodes.length (S.am n vs):=gw fun u hu hb'=>xZ y (hnT u hb') fun z hz p hp=>hpos u z hz (hg u hu hb') p hp
       show _*_=_*_
       rw[a1,a2])
      (fun vs hvs=>C5 hr hx (hpos v x hx hsv) hvs)
     rw[e1,qS hb t1 t2 hv,qS hb t1 t2 hv,hc,Option.getD_some]
     generalize S.ah (S.aa n) (fun vs=>(S.pT s n.nodes.length (S.dl w vs)*S.pT T n.nodes.length (S.am n vs))*S.am n vs v)=X at *
     generalize S.ah (S.aa n) (fun vs=>S.pT s n.nodes.length (S.dl w vs)*S.pT T n.nodes.length (S.am n vs))=B at *
     generalize S.ah (S.aa n) (fun vs=>S.pT s n.nodes.length (S.dl w vs)*S.pT A n.nodes.length (S.am n vs))=Y at *
     generalize S.pT T n.nodes.length (fun u=>(S.aa n)[u]?.getD 0)=C at *
     generalize S.pT T n.nodes.length (fun _=>n.grain)=D at *
     generalize S.pT A n.nodes.length (fun _=>n.grain)=E at *
     generalize S.pT A n.nodes.length (fun u=>(S.aa n)[u]?.getD 0)=F at *
     have h1:X*(C*x.card*E)=C*E*(x.card*X):=by ac_rfl
     rw[h1,e2]
     have h2:C*E*(n.grain*B)=n.grain*(B*(C*E)):=by ac_rfl
     rw[h2,he]
     ac_rfl
 exact key _ A (Nat.le_refl _) hA (fun _ h=>h) hcl rfl
theorem KG (hr:NR n){A AP AQ a b:Nat}{P:Nat->Prop}(hAe:∀f:Nat->Int,S.pT A n.nodes.length f=S.pT AP n.nodes.length f*S.pT AQ n.nodes.length f)
  (za:Z &&& a=0) (zb:(Z ||| a) &&& b=0) (hZ:Z<2 ^ n.nodes.length)
  (ga:∀v,a.testBit v=true->P v) (gb:∀v,b.testBit v=true->¬P v) (hbZ:∀v,b.testBit v=true->Z.testBit v=false)
  (gP:∀u v,AP.testBit u=true->(v=u\/Eg (S.ak n) v u)->Z.testBit v=false->P v) (gQ:∀u v,AQ.testBit u=true->(v=u\/Eg (S.ak n) v u)->¬P v) (hPZ:∀v,P v->Z.testBit v=false) :
  S.ah (S.aa n) (fun vs=>S.pT (Z ||| a ||| b) n.nodes.length (S.dl w vs)*S.pT A n.nodes.length (S.am n vs))*(S.ae (S.aa n)*S.ae (S.aa n)) =
   S.ah (S.aa n) (fun vs=>S.pT Z n.nodes.length (S.dl w vs))*(S.ah (S.aa n) (fun vs=>S.pT a n.nodes.length (S.dl w (S.ap Z w vs))*S.pT AP n.nodes.length (S.am n (S.ap Z w vs)))*S.ah (S.aa n) (fun vs=>S.pT b n.nodes.length (S.dl w (S.ap Z w vs))*S.pT AQ n.nodes.length (S.am n (S.ap Z w vs)))):=by
 have hc0:∀c∈S.aa n,0<=c:=fun c hc=>by have:=(hr.cs c hc).1;omega
 have hN:S.ah (S.aa n) (fun _=>1)=S.ae (S.aa n):=yC fun c hc=>(hr.cs c hc).1
 have gset:∀vs v (x:Int),¬P v->S.pT a n.nodes.length (S.dl w (S.ap Z w (vs.set v x)))*S.pT AP n.nodes.length (S.am n (S.ap Z w (vs.set v x)))=S.pT a n.nodes.length (S.dl w (S.ap Z w vs))*S.pT AP n.nodes.length (S.am n (S.ap Z w vs)):=by
  intro vs v x hv
  cases hz:Z.testBit v with
  | true=>rw[Ai x hz]
  | false =>
   rw[CV x hz]
   have a1:S.pT a n.nodes.length (S.dl w ((S.ap Z w vs).set v x))=S.pT a n.nodes.length (S.dl w (S.ap Z w vs)):=gw fun u _ hu=>xr x fun e=>hv (e ▸ ga u hu)
   have a2:S.pT AP n.nodes.length (S.am n ((S.ap Z w vs).set v x))=S.pT AP n.nodes.length (S.am n (S.ap Z w vs)):=gw fun u _ hu=>CW hr x fun h=>hv (gP u v hu h hz)
   rw[a1,a2]
 have hset:∀vs v (x:Int),P v\/Z.testBit v=true->S.pT b n.nodes.length (S.dl w (S.ap Z w (vs.set v x)))*S.pT AQ n.nodes.length (S.am n (S.ap Z w (vs.set v x)))=S.pT b n.nodes.length (S.dl w (S.ap Z w vs))*S.pT AQ n.nodes.length (S.am n (S.ap Z w vs)):=by
  intro vs v x hv
  cases hz:Z.testBit v with
  | true=>rw[Ai x hz]
  | false =>
   have hv:P v:=hv.elim id fun h=>by rw[hz] at h;cases h
   rw[CV x hz]
   have a1:S.pT b n.nodes.length (S.dl w ((S.ap Z w vs).set v x))=S.pT b n.nodes.length (S.dl w (S.ap Z w vs)):=gw fun u _ hu=>xr x fun e=>gb u hu (e ▸ hv)
   have a2:S.pT AQ n.nodes.length (S.am n ((S.ap Z w vs).set v x))=S.pT AQ n.nodes.length (S.am n (S.ap Z w vs)):=gw fun u _ hu=>CW hr x fun h=>gQ u v hu h hv
   rw[a1,a2]
 have dset:∀vs v (x:Int),Z.testBit v=false->S.pT Z n.nodes.length (S.dl w (vs.set v x))=S.pT Z n.nodes.length (S.dl w vs):=fun vs v x hz=>gw fun u _ hu=>xr x fun e=>by rw[e,hz] at hu;cases hu
 have e1:S.ah (S.aa n) (fun vs=>S.pT (Z ||| a ||| b) n.nodes.length (S.dl w vs)*S.pT A n.nodes.length (S.am n vs)) =
   S.ah (S.aa n) (fun vs=>(S.pT Z n.nodes.length (S.dl w vs)*(S.pT a n.nodes.length (S.dl w (S.ap Z w vs))*S.pT AP n.nodes.length (S.am n (S.ap Z w vs))))*(S.pT b n.nodes.length (S.dl w (S.ap Z w vs))*S.pT AQ n.nodes.length (S.am n (S.ap Z w vs)))):=by
  refine eO fun vs hv=>?_
  rw[Cs zb,Cs za,hAe]
  by_cases h0:S.pT Z n.nodes.length (S.dl w vs)=0
  ·rw[h0];simp
  ·have hid:S.ap Z w vs=vs:=by
    refine JM fun v hvl hz=>?_
    apply Classical.byContradiction
    intro hne
    refine h0 (BH hz ?_ (u:=v) ?_)
    ·rw[S.dl,if_neg hne]
    ·rw[hv.len,aM] at hvl;exact hvl
   rw[hid];ac_rfl
 have f1:=vp (cs:=S.aa n) (P:=fun v=>P v\/Z.testBit v=true) (g:=fun vs=>S.pT Z n.nodes.length (S.dl w vs)*(S.pT a n.nodes.length (S.dl w (S.ap Z w vs))*S.pT AP n.nodes.length (S.am n (S.ap Z w vs)))) (h:=fun vs=>S.pT b n.nodes.length (S.dl w (S.ap Z w vs))*S.pT AQ n.nodes.length (S.am n (S.ap Z w vs))) hc0
  (fun vs v x _ hv=>by
   have hz:Z.testBit v=false:=by rw[<-Bool.not_eq_true];exact fun h=>hv (.inr h)
   show _*_=_*_
   rw[dset vs v x hz,gset vs v x fun h=>hv (.inl h)])
  (fun vs v x _ hv=>hset vs v x hv)
 have f2:=vp (cs:=S.aa n) (P:=fun v=>Z.testBit v=true) (g:=fun vs=>S.pT Z n.nodes.length (S.dl w vs)) (h:=fun vs=>S.pT a n.nodes.length (S.dl w (S.ap Z w vs))*S.pT AP n.nodes.length (S.am n (S.ap Z w vs))) hc0
  (fun vs v x _ hv=>dset vs v x (by rw[<-Bool.not_eq_true];exact hv))
  (fun vs v x _ hv=>gset vs v x fun h=>by rw[hPZ v h] at hv;cases hv)
 rw[hN] at f1 f2
 rw[e1]
 generalize S.ah (S.aa n) (fun vs=>(S.pT Z n.nodes.length (S.dl w vs)*(S.pT a n.nodes.length (S.dl w (S.ap Z w vs))*S.pT AP n.nodes.length (S.am n (S.ap Z w vs))))*(S.pT b n.nodes.length (S.dl w (S.ap Z w vs))*S.pT AQ n.nodes.length (S.am n (S.ap Z w vs))))=X at *
 generalize S.ah (S.aa n) (fun vs=>S.pT Z n.nodes.length (S.dl w vs)*(S.pT a n.nodes.length (S.dl w (S.ap Z w vs))*S.pT AP n.nodes.length (S.am n (S.ap Z w vs))))=Y at *
 generalize S.ah (S.aa n) (fun vs=>S.pT b n.nodes.length (S.dl w (S.ap Z w vs))*S.pT AQ n.nodes.length (S.am n (S.ap Z w vs)))=H at *
 generalize S.ah (S.aa n) (fun vs=>S.pT a n.nodes.length (S.dl w (S.ap Z w vs))*S.pT AP n.nodes.length (S.am n (S.ap Z w vs)))=K at *
 generalize S.ah (S.aa n) (fun vs=>S.pT Z n.nodes.length (S.dl w vs))=D at *
 generalize S.ae (S.aa n)=N at *
 rw[<-Int.mul_assoc,f1]
 have:Y*H*N=Y*N*H:=by ac_rfl
 rw[this,f2];ac_rfl
end
end
end Hx
end
section
namespace Hx
open Go
noncomputable section
def S.aC (xs ys zs:Nat):List Nat:=[xs ||| ys ||| zs,zs,xs ||| zs,ys ||| zs]
def S.aG (n:Net)(xs ys zs k w:Nat):Nat:=(S.aM n ((S.aC xs ys zs)[k]?.getD 0) w).toNat
def S.bu (n:Net)(xs ys zs w:Nat):Bool:=!decide (S.aT (S.aG n xs ys zs 0 w) (S.aG n xs ys zs 1 w)=S.aT (S.aG n xs ys zs 2 w) (S.aG n xs ys zs 3 w))
def S.bh (n:Net)(xs ys zs:Nat):Bool:=(List.range (S.aD n)).any (S.bu n xs ys zs)
theorem Dh {xs ys zs:Nat}(hx:xs<18446744073709551616)(hy:ys<18446744073709551616)(hz:zs<18446744073709551616):∀s∈S.aC xs ys zs,s<18446744073709551616:=by
 have o:=fun {a b:Nat} (ha:a<2 ^ 64) (hb:b<2 ^ 64)=>Nat.or_lt_two_pow ha hb
 intro s hs
 simp only[S.aC,List.mem_cons,List.not_mem_nil,or_false] at hs
 rcases hs with rfl | rfl | rfl | rfl
 ·exact o (o hx hy) hz
 ·exact hz
 ·exact o hx hz
 ·exact o hy hz
structure DAok (D:ND) (n i:Nat) (num:Nat->Nat):Prop where
 e:∀v,v<n->D.P v=[]/\D.m v=0
 c:∀k,k<i->D.c (num k)=2\/D.c (num k)=3
 o:∀u,D.o u=0
def LDA (n q:Nat)(r5:AV):List (Nat×AV):=[(1,.hptr 0 0 0 0),(2,.hptr 1 0 0 0),(3,.int .i64 (n:Int)),(4,.hptr q 0 0 0),(5,r5)]
structure DA (r0:List AV) (n q:Nat) (gr:Int) (r5:AV) (num:Nat->Nat) (i:Nat) (t:T) (g:G):Prop where
 st:St t (LDA n q r5)
 w:∃w:Nat,tat t 6=.int .i64 (w:Int)/\w<=3 ^ i
 hd:∃V E D,DN X1 r0 n q 1000 gr V E D g/\DAok D n i num
theorem K0 {i:Nat}(h:i<=5):3 ^ i<=243:=by
 have:i=0\/i=1\/i=2\/i=3\/i=4\/i=5:=by omega
 rcases this with rfl | rfl | rfl | rfl | rfl | rfl<;>decide
theorem J8 {d n q kk:Nat}{x:sF}{gr:Int}{a b r5:AV}{pl:List Int}{num:Nat->Nat}{Q:QT}{t:T}{g:G}(hn:1<=n/\n<=5)(ha:SlR NoP kk .nil x.2.1 a)(h5:IT 0 pl r5)(hN:Num n pl num)
  (h0:DA [u8v x.1,a,b] n q gr r5 num 0 t g) (h7:tat t 7=.int .i64 0)
  (fin:∀t g,DA [u8v x.1,a,b] n q gr r5 num n t g->Q (.exit 0) t [] g):wpL (wp C0 d none ej) Q t [] g:=by
 obtain ⟨pr,r1,r2,r3,r4⟩:=ha.all
 have r1:∀h',af h' 3 a=some pr:=r1
 have la:=ha.len
 have hal:=ha.1
 have r5i:∀h,af h 1 r5=some (pl.map ci):=fun h=>(h5.sl h).ints
 simp only[ej,iM]
 refine iI n (by omega) (fun j t df g=>df=[]/\DA [u8v x.1,a,b] n q gr r5 num j t g) ⟨rfl,h0⟩ h7 (by decide) ?_ ?_ ?_ ?_
 ·rintro j t df g v s (rfl | rfl | rfl) ⟨a1,⟨b1,b2,b3,b4,b5,-⟩,⟨w,c1,c2⟩,c3⟩<;>exact ⟨a1,by simp[St,LDA,sx,b1,b2,b3,b4,b5],⟨w,by simp[sx,c1],c2⟩,c3⟩
 ·rintro j t df g hj ⟨rfl,⟨h1,h2,h3,h4,h5,-⟩,⟨w,h6,hw⟩,hD⟩ h7
  simp only[sz,simprocAttr,h7,h3]
  exact ⟨by simp[St,LDA,sx,h1,h2,h3,h4,h5],⟨w,by simp[sx,h6],hw⟩,hD⟩
 ·rintro j t df g hj ⟨rfl,⟨h1,h2,h3,h4,h5,-⟩,⟨w,h6,hw⟩,V,E,D,hD,hok⟩ h7
  obtain ⟨p8,hp8⟩:∃p8,p8=g.nx:=⟨_,rfl⟩
  have hnx:=hD.hp.nx
  refine eU (P:=fun t' df g'=>df=[]/\g'=g.new (.cells 3 [[.int .u8 0,.int .u8 0,.nils]] 0 false false)/\St t' ((6,.int .i64 (w:Int))::(7,.int .i64 (j:Int))::(8,.hptr p8 0 0 0)::LDA n q r5)) ?_ ?_
  ·simp only[sz,simprocAttr]
   simp[St,LDA,sx,h1,h2,h3,h4,h5,h6,h7,hp8]
  clear h1 h2 h3 h4 h5 h6 h7
  rintro t df g1 ⟨rfl,hg1,⟨h6,h7,h8,h1,h2,h3,h4,h5,-⟩⟩
  have f1:Fr g g1:=by rw[hg1];exact Fr.new _ _
  have k8:g1.h.get p8=.cells 3 [[.int .u8 0,.int .u8 0,.nils]] 0 false false:=by rw[hg1,hp8];simp[H.get_put]
  have n1:p8<g1.nx:=by rw[hg1,hp8];simp
  clear hg1
  have hD1:=hD.same f1
  have e0:=hD1.h0
  refine eU (P:=fun t' df g'=>df=[]/\Fr g g'/\St t' ((6,.int .i64 (w:Int))::(7,.int .i64 (j:Int))::(8,.hptr p8 0 0 0)::LDA n q r5)/\p8<g'.nx/\∃(y:UInt8) (z1 z2:AV),g'.h.get p8=.cells 3 [[u8v y,z1,z2]] 0 false false) ?_ ?_
  ·simp only[sz,simprocAttr,h7,h1,e0,la]
   refine jz (fun hb=>?_) (fun hb=>?_)
   ·have hb:j<x.2.1.length:=by simpa using hb
    obtain ⟨y,hy,-,-⟩:=aw hb
    obtain ⟨row,q1,q2⟩:=r3 j y hy
    obtain ⟨wv,rfl,hwv⟩:=wP.1 q2
    have hlt:j<pr.length:=by omega
    have hry:=r4 (by omega)
    simp only[sz,simprocAttr,h7,h1,e0,r1,hlt,q1,h8,k8]
    refine ⟨?_,by simp[St,LDA,sx,h1,h2,h3,h4,h5,h6,h7,h8],by simpa using n1,y.1,u8v y.2.1,wv,by simp[H.get_put]⟩
    exact ⟨Nat.le_trans f1.1 (by simp),fun i hi=>by simp[H.get_put,show ¬i=p8 by omega];exact f1.2 i hi⟩
   ·simp only[sx,sy]
    exact ⟨f1,by simp[St,LDA,sx,h1,h2,h3,h4,h5,h6,h7,h8],n1,0,.int .u8 0,.nils,k8⟩
  clear h1 h2 h3 h4 h5 h6 h7 h8 e0 hD1 k8 n1 f1
  rintro t df g2 ⟨rfl,f2,⟨h6,h7,h8,h1,h2,h3,h4,h5,-⟩,n2,y,z1,z2,k8⟩
  have hD2:=hD.same f2
  have q2:=pO .u8 (a:=(y.toNat:Int)) (b:=2) (by omega) (by omega)
  obtain ⟨m,hm⟩:∃m:Nat,(y.toNat:Int) % 2=(m:Int):=Int.eq_ofNat_of_zero_le (Int.emod_nonneg _ (by decide))
  have hm2:m<2:=by have:=Int.emod_lt_of_pos (y.toNat:Int) (show (0:Int)<2 by decide);omega
  rw[hm] at q2
  have w2:IntKind.wrap .i64 (m:Int)=(m:Int):=aH (by omega) (by omega)
  have w3:IntKind.wrap .i64 (2+(m:Int))=((2+m:Nat):Int):=by rw[aH (by omega) (by omega)];rfl
  have hp3:=K0 (i:=j) (by omega)
  have hwc:w*(2+m)<=243*3:=Nat.mul_le_mul (by omega) (by omega)
  have w4:IntKind.wrap .i64 ((w:Int)*((2+m:Nat):Int))=((w*(2+m):Nat):Int):=by rw[<-Int.natCast_mul,aH (by omega) (by omega)]
  have w5:IntKind.wrap .i64 ((n:Int) - 1)=((n - 1:Nat):Int):=by rw[aH (by omega) (by omega)];omega
  have w6:IntKind.wrap .i64 (((n - 1:Nat):Int) - (j:Int))=((n - 1 - j:Nat):Int):=by rw[aH (by omega) (by omega)];omega
  have w7:IntKind.wrap .u64 ((n - 1 - j:Nat):Int)=((n - 1 - j:Nat):Int):=lF (by omega) (by omega)
  obtain ⟨z,hz⟩:=IE (w*(2+m)) (n - 1 - j)
  refine eU (P:=fun t' df g'=>df=[]/\g'=g2/\St t' ((6,.int .i64 (w:Int))::(7,.int .i64 (j:Int))::(9,.int .i64 ((2+m:Nat):Int))::LDA n q r5)) ?_ ?_
  ·simp only[sz,simprocAttr,h8,k8,u8v,q2,w2,w3]
   simp[St,LDA,sx,h1,h2,h3,h4,h5,h6,h7]
  clear h1 h2 h3 h4 h5 h6 h7 h8
  rintro t df g3 ⟨rfl,rfl,⟨h6,h7,h9,h1,h2,h3,h4,h5,-⟩⟩
  refine eU (P:=fun t' df g'=>df=[]/\g'=g3/\∃C:Nat,(C=2\/C=3)/\St t' ((6,.int .i64 (w:Int))::(7,.int .i64 (j:Int))::(9,.int .i64 (C:Int))::LDA n q r5)) ?_ ?_
  ·simp only[sz,simprocAttr,h6,h7,h9,h3,w4,w5,w6,w7,hz]
   refine jz (fun hb=>?_) (fun hb=>?_)
   ·simp only[sz,simprocAttr]
    refine ⟨2,.inl rfl,?_⟩
    simp[St,LDA,sx,h1,h2,h3,h4,h5,h6,h7]
   ·simp only[sx,sy]
    refine ⟨2+m,by omega,?_⟩
    simp[St,LDA,sx,h1,h2,h3,h4,h5,h6,h7,h9]
  clear h1 h2 h3 h4 h5 h6 h7 h9 hwc w4 hz w3
  rintro t df g4 ⟨rfl,rfl,C,hC,⟨h6,h7,h9,h1,h2,h3,h4,h5,-⟩⟩
  have hwc:w*C<=3 ^ j*3:=Nat.mul_le_mul hw (by omega)
  have hwc2:w*C<=243*3:=Nat.mul_le_mul (by omega) (by omega)
  have w4:IntKind.wrap .i64 ((w:Int)*(C:Int))=((w*C:Nat):Int):=by rw[<-Int.natCast_mul,aH (by omega) (by omega)]
  refine eU (P:=fun t' df g'=>df=[]/\g'=g4/\St t' ((6,.int .i64 ((w*C:Nat):Int))::(7,.int .i64 (j:Int))::(9,.int .i64 (C:Int))::LDA n q r5)) ?_ ?_
  ·simp only[sz,simprocAttr,h6,h9,w4]
   simp[St,LDA,sx,h1,h2,h3,h4,h5,h7,h9]
  clear h1 h2 h3 h4 h5 h6 h7 h9
  rintro t df g5 ⟨rfl,rfl,⟨h6,h7,h9,h1,h2,h3,h4,h5,-⟩⟩
  obtain ⟨kq,q2a,q2b⟩:=hD2.q rfl
  have rns:=hD2.ns.rows
  have hry:=rk hD2.ns (by simp;omega)
  have hnj:=hN.lt j hj
  have u1:j<(pl.map ci).length:=by rw[List.length_map,hN.len];exact hj
  have u2:(pl.map ci)[j]?=some (ci (num j:Int)):=by rw[List.getElem?_map,hN.at_ j hj];rfl
  have u3:num j<((List.range n).map (fm D V)).length:=by simpa using hnj
  have u4:=fB (fm D V) hnj
  simp only[sz,simprocAttr,sf,h4,kq,h5,h7,h9,r5i,u1,u2,rns,u3,hry,ci]
  refine (hD2.same (g':=_) ⟨?_,?_⟩).card (i:=num j) (c:=(C:Int)) hnj (fun k hk=>by rw[hk];simp) fun g6 E' hD6 n6=>?_
  ·simp;omega
  ·intro i hi;simp
  simp only[sx,sy,↓reduceIte,Nat.reduceEqDiff]
  refine ⟨?_,⟨by simp[St,LDA,sx,h1,h2,h3,h4,h5],⟨w*C,by simp[sx,h6],by rw[Nat.pow_succ];exact hwc⟩,V,E',_,hD6.same ⟨by simp,fun i _=>by simp⟩,hok.e,fun k hk=>?_,hok.o⟩,by simp[h7]⟩
  ·simp only[List.reverse_cons,List.reverse_nil,List.nil_append,List.cons_append]
   exact bj [false,false,false,false,false,false,false,false,false,true] [] (by simp[All2,am,aD]) (by decide) (by simp)
  ·by_cases e:num k=num j
   ·simp[e,aF];omega
   ·show ups D.c (num j) (C:Int) (num k)=2\/ups D.c (num j) (C:Int) (num k)=3
    rw[ah _ _ e]
    refine hok.c k ?_
    have:k≠j:=fun h=>e (by rw[h])
    omega
 ·rintro t df g ⟨rfl,h⟩
  exact fin t g h
theorem y8 {g:G}{b:Nat}{v x:AV}{sz bytes:Nat}{rows new:List (List AV)}{K:AV->G->Prop}{D:ADf->Prop}(hv:Own g b v sz rows)(hx:af g.h sz x=some new)(hb:b<=g.nx)
  (hr:(rows.length+new.length)*bytes<=bh)
  (k:∀v' g',Own g' b v' sz (rows++new)->g.nx<=g'.nx->(∀i,i<g.nx->vid v≠some i->g'.h.get i=g.h.get i)->(vid v'=vid v\/∃i,vid v'=some i/\g.nx<=i)->(∀i∈g'.lg,i∈g.lg\/vid v=some i\/g.nx<=i)->K v' g') :
  (dq sz bytes v x g).sat K g D:=by
 unfold dq
 rw[hx]
 dsimp only
 rcases hv with ⟨rfl,rfl⟩ | ⟨id,ep,lo,h1,h2,rfl,h3⟩
 ·cases new with
  | nil=>exact k _ _ (.inl ⟨rfl,rfl⟩) (Nat.le_refl _) (fun _ _ _=>rfl) (.inl rfl) (fun i hi=>.inl hi)
  | cons r new =>
   simp only[aZ,an,aa,Nat.ble_eq]
   rw[if_pos (by simpa using hr)]
   refine k _ _ (.inr ⟨g.nx,0,true,hb,by simp,rfl,by simp[bf]⟩) (by simp) (fun i hi _=>?_) (.inr ⟨g.nx,rfl,Nat.le_refl _⟩) (fun i hi=>by simp at hi;rcases hi with rfl | hi;exact .inr (.inr (Nat.le_refl _));exact .inl hi)
   rw[G.new_h,aU _ _ _ (by omega)]
 ·simp only[aZ,G.get_eq,h3,an,aa,show Nat.beq ep ep=true from Nat.beq_refl ep,show Nat.beq sz sz=true from Nat.beq_refl sz,Bool.true_and,Nat.ble_eq,Bool.and_eq_true,Nat.zero_add,Option.getD_none,Nat.sub_zero]
  rw[if_pos ⟨Nat.le_refl _,hr⟩]
  cases new with
  | nil =>
   rw[if_pos (by simp)]
   refine k _ _ (.inr ⟨id,ep,lo,h1,h2,by simp,by simpa using h3⟩) (Nat.le_refl _) (fun _ _ _=>rfl) (.inl rfl) (fun i hi=>.inl hi)
  | cons r new =>
   rw[if_neg (by simp)]
   have ht:iP rows.length (ib 0 rows)=rows:=by rw[aY,aW];simp
   cases lo with
   | false =>
    rw[if_pos (by simp)]
    refine k _ _ (.inr ⟨g.nx,0,true,by omega,by simp,by simp,by simp[bf,ht]⟩) (by simp) (fun i hi _=>?_) (.inr ⟨g.nx,rfl,Nat.le_refl _⟩) (fun i hi=>by simp at hi;rcases hi with rfl | hi;exact .inr (.inr (Nat.le_refl _));exact .inl hi)
    rw[G.new_h,aU _ _ _ (by omega)]
   | true =>
    rw[if_neg (by simp)]
    refine k _ _ (.inr ⟨id,ep+1,true,h1,by simpa using h2,by simp,by simp[bf,ht]⟩) (by simp) (fun i hi hne=>?_) (.inl rfl) (fun i hi=>by simp at hi;rcases hi with rfl | hi;exact .inr (.inl rfl);exact .inl hi)
    rw[G.put_h,aU _ _ _ (fun e=>hne (by rw[e];rfl))]
section
variable {κ:Type} [DecidableEq κ]{g:G}{b:Nat}{L:κ->Prop}{V:κ->AV}{E:κ->En}{k:κ}
theorem Hp.app2 (h:Hp g b L V E)(hk:L k){sz bytes:Nat}{rows new:List (List AV)}(he:E k=.sl sz rows){x:AV}{K:AV->G->Prop}{D:ADf->Prop}(hx:af g.h sz x=some new)
  (hr:(rows.length+new.length)*bytes<=bh)
  (kk:∀v' g',Hp g' b L (ups V k v') (ups E k (.sl sz (rows++new)))->g.nx<=g'.nx->(∀i,i<b->g'.h.get i=g.h.get i)->(∀i,i<g.nx->eid (V k)≠some i->g'.h.get i=g.h.get i)->(∀i∈g'.lg,i∈g.lg\/eid (V k)=some i\/g.nx<=i)->v'.cells=[v']->v'.isTup=false->K v' g') :
  (dq sz bytes (V k) x g).sat K g D:=by
 have ho:=h.own hk he
 refine y8 ho hx h.nx hr fun v' g' hv' hn hf hvid hlg=>?_
 refine kk v' g' (h.set hk (e':=.sl sz (rows++new)) hv' hn (fun i _ hi hne=>hf i hi (by rw[<-gI ho];exact hne)) ?_) hn (fun i hi=>hf i (Nat.lt_of_lt_of_le hi h.nx) fun e=>by have:=(ho.lt e).1;omega)
  (fun i hi hne=>hf i hi (by rw[<-gI ho];exact hne)) (fun i hi=>by rw[gI ho];exact hlg i hi) hv'.cell.1 hv'.cell.2
 rw[gI hv',gI ho];exact hvid
theorem Hp.putv (h:Hp g b L V E)(hk:L k){v0:AV}(hv:V k=v0){sz n i off:Nat}{rows:List (List AV)}{row row':List AV}(he:E k=.sl sz rows){x:AV}{K:AV->G->Prop}{D:ADf->Prop}(hr:rows[i]?=some row)
  (hl:x.cells.length=n) (ht:x.isTup=false) (hp:cg row off x.cells=some row')
  (kk:∀g',Hp g' b L V (ups E k (.sl sz (rows.set i row')))->g'.nx=g.nx->(∀i,i<b->g'.h.get i=g.h.get i)->(∀i,eid (V k)≠some i->g'.h.get i=g.h.get i)->K .undef g'):(lO n (nK sz v0 i off) x g).sat K g D:=by
 subst hv
 exact h.put hk he hr hl ht hp kk
end
theorem DU (m n:Nat):∃z:Nat,bA .shr (.int .u8 (m:Int)) (.int .u64 (n:Int))=.val (.int .u8 (z:Int)) :=
 ⟨m / 2 ^ (Nat.min n 8),rfl⟩
theorem El (m n:Nat):∃z:Int,bA .and (.int .u8 (m:Int)) (.int .u8 (n:Int))=.val (.int .u8 z):=by
 have:∃z:Int,Op.intBits .and .u8 (.ofNat m) (.ofNat n)=.pure (.int .u8 z):=⟨_,rfl⟩
 obtain ⟨z,hz⟩:=this
 refine ⟨z,?_⟩
 show orV (o6 (Op.intBits .and .u8 (.ofNat m) (.ofNat n)))=_
 rw[hz];rfl
structure DB (D:ND) (n i v:Nat) (num:Nat->Nat):Prop where
 c:∀u,u<n->D.c u=2\/D.c u=3
 p:∀u,u<n->(D.P u).length<=3/\∀y∈D.P u,0<=y/\y<n
 m:∀u,u<n->D.m u<=64
 o:∀u,D.o u=0
 f:∀k,i<k->k<n->D.P (num k)=[]/\D.m (num k)=0
def S.bk (P0:List Int)(c0:Nat->Int):Int:=S.ae (P0.map fun y=>c0 y.toNat)
structure DOk (gr:Int) (D:ND) (n i:Nat) (num:Nat->Nat):Prop where
 s:∀u,u<n->(D.P u).Pairwise (·<·)
 a:∀k,k<n->∀y∈D.P (num k),∃k',k'<k/\y=(num k':Int)
 w:∀k,k<i->(D.m (num k):Int)=S.bk (D.P (num k)) D.c
 r:∀u r,u<n->r<D.m u->IU gr (D.c u) (D.R u r)
def LDB (n q i p v:Nat)(r5:AV):List (Nat×AV):=[(1,.hptr 0 0 0 0),(2,.hptr 1 0 0 0),(3,.int .i64 (n:Int)),(4,.hptr q 0 0 0),(5,r5),(10,.int .i64 (i:Int)),(11,.hptr p 0 0 0),(12,.int .i64 (v:Int))]
structure DP (r0 prow:List AV) (n q i p v:Nat) (gr:Int) (r5:AV) (num:Nat->Nat) (g:G) (V:Ky->AV) (E:Ky->En) (D:ND):Prop where
 dn:DN X2 r0 n q 1000 gr V E D g
 pb:V (0,2)=.hptr p 0 0 0/\E (0,2)=.bx prow
 db:DB D n i v num
 mv:D.m v=0
 ok:DOk gr D n i num
theorem DP.p {r0 prow:List AV}{n q i p v:Nat}{gr:Int}{r5:AV}{num:Nat->Nat}{g:G}{V:Ky->AV}{E:Ky->En}{D:ND}(h:DP r0 prow n q i p v gr r5 num g V E D):g.h.get p=.cells prow.length [prow] 0 false false/\2<=p/\p<g.nx:=by
 obtain ⟨id,h1,h2,h3,h4⟩:=h.dn.hp.box (k:=(0,2)) (.inr (.inr rfl)) h.pb.2
 rw[h.pb.1] at h3;injection h3 with h3;subst h3
 exact ⟨h4,h1,h2⟩
theorem yd {X:Ky->Prop}{n:Nat}{D:ND}{V:Ky->AV}{E:Ky->En}{g:G}(h:Hp g 2 (LNX X n D) V E){j k:Ky}(hj:LNX X n D j)(hk:LNX X n D k)(hne:j≠k){id:Nat}(he:eid (V j)=some id):eid (V k)≠some id:=h.sep j k hj hk hne id he
def uo:SC:=.feet [0,1,0,0,8,0,56,120,248,0,512,2040,4095,8191,16383] [oF 131 1 4,oL 132 131,oM 133 12,oF 134 1 4,oL 135 134,oM 136 12,o 137 (.ixs 3 (.t 135) (.t 136)),oF 138 1 137,oL 139 138,oM 140 13,o 141 (.bsl 1 1 [.int .i64 0] [0] [.t 140]),o 142 (.app 1 8 (.t 139) (.t 141)),o 143 (.ixs 3 (.t 132) (.t 133)),oF 144 1 143,oz (.store 1 (.t 144) (.t 142))]
theorem Ir {d n q i p v u:Nat}{gr:Int}{r0 prow:List AV}{r5:AV}{num:Nat->Nat}{Q:QT}{t:T}{g:G}{V:Ky->AV}{E:Ky->En}{D:ND}{rest:List (Nat×AV)}(hn:1<=n/\n<=5)(hv:v<n)(hvi:∀k,i<k->k<n->num k≠v)(hu:u<n)(hvl:∀k,k<i->num k≠v)(hua:∃k',k'<i/\u=num k')(hlt:∀y∈D.P v,y<(u:Int))
  (h4:tat t 4=.hptr q 0 0 0) (h12:tat t 12=.int .i64 (v:Int)) (h13:tat t 13=.int .i64 (u:Int)) (hP:DP r0 prow n q i p v gr r5 num g V E D) (hl:(D.P v).length<3)
  (fin:∀t' g' V' E' D',(∀s,(s<131\/144<s)->tat t' s=tat t s)->D'.P v=D.P v++[(u:Int)]->DP r0 prow n q i p v gr r5 num g' V' E' D'->Q .norm t' [] g') :
  wp C0 d none uo Q t [] g:=by
 have hD:=hP.dn
 obtain ⟨kq,q2a,q2b⟩:=hD.q (.inl rfl)
 unfold uo
 have rns:=hD.ns.rows
 have hry:=rk hD.ns (by simp;omega)
 have u3:v<((List.range n).map (fm D V)).length:=by simpa using hv
 have u4:=fB (fm D V) hv
 have hps:=hD.bn.ps v hv
 have hnx:=hD.hp.nx
 simp only[sz,simprocAttr,sf,h4,h12,h13,kq,rns,u3,u4,hry,fm]
 refine (hD.hp.step (g':=_) ?_ ?_).app2 (k:=(v+1,0)) (.inl (LN.p hv)) hps.1 (new:=[ci (u:Int)]) (by simp[sx,sy,ci]) (by unfold bh;simp;omega) fun v1 g1 hH1 n1 fb1 fo1 lg1 vc vt=>?_
 ·simp;omega
 ·intro i _ hi
  simp[H.get_put];omega
 simp only[sx,sy] at n1 fb1 fo1 lg1
 have e00:ups V (v+1,0) v1 (0,0)=V (0,0):=ah _ _ (by simp)
 have hE00:ups E (v+1,0) (.sl 1 ((D.P v).map ci++[ci (u:Int)])) (0,0)=.sl 3 ((List.range n).map (fm D V)):=by rw[ah _ _ (by simp)];exact hD.bn.ns
 have rns1:af g1.h 3 (V (0,0))=some ((List.range n).map (fm D V)):=by rw[<-e00];exact (hH1.own (k:=(0,0)) (.inl LN.z) hE00).rows
 have u4':((List.range n).map (fm D V))[v]?=some [.int .i64 (D.c v),V (v+1,0),V (v+1,1)]:=u4
 simp only[sz,simprocAttr,sf,rns1,u3,hry]
 refine (hH1.same (g':=_) ?_ ?_).putv (k:=(0,0)) (.inl LN.z) e00 (row':=[.int .i64 (D.c v),v1,V (v+1,1)]) hE00 u4 (by rw[vc];rfl) vt (by rw[vc];rfl) fun g2 hH2 n2 fb2 fo2=>?_
 ·simp
 ·simp;omega
 simp only[sy]
 refine ⟨?_,?_⟩
 ·simp only[List.reverse_cons,List.reverse_nil,List.nil_append,List.cons_append]
  refine bj [false,false,false,false,false,false,false,false,false,false,true,true,false,false,true] [(0,10),(1,10),(2,10),(3,10),(4,10),(5,10),(6,10),(7,10),(8,10),(0,11),(1,11),(2,11)] (by simp[All2,am,aD]) (by decide) ?_
  have hlg:∀i∈g1.lg,i≠q:=fun i hi e=>by
   rcases lg1 i hi with h | h | h
   ·simp at h
   ·exact yd hD.hp (.inl (LN.p hv)) (.inr (.inl rfl)) (by simp) h (by rw[hD.vb,e];rfl)
   ·omega
  obtain ⟨id0,ep0,hid0,hv0⟩:∃id ep,id<g.nx/\V (0,0)=.hsl id ep 0 ((List.range n).map (fm D V)).length none:=by
   rcases hD.ns with ⟨h,e⟩ | ⟨id,ep,lo,-,h1,h2,-⟩
   ·have:=congrArg List.length e
    simp at this;omega
   ·exact ⟨id,ep,h1,h2⟩
  have hlg2:∀i∈g1.lg,i≠id0:=fun i hi e=>by
   rcases lg1 i hi with h | h | h
   ·simp at h
   ·exact yd hD.hp (.inl (LN.p hv)) (.inl LN.z) (by simp) h (by rw[hv0,e];rfl)
   ·omega
  rintro p hp' x y hx hy
  simp only[List.mem_cons,List.not_mem_nil,or_false] at hp'
  rcases hp' with rfl | rfl | rfl | rfl | rfl | rfl | rfl | rfl | rfl | rfl | rfl | rfl<;>(simp at hx hy;subst hx;subst hy;refine iT rfl rfl rfl rfl ?_ ?_ ?_<;>simp[am,aD,ae,hv0,nK]<;>first | omega | exact hlg | exact hlg2 | exact fun i hi e=>hlg i hi e.symm | exact fun i hi e=>hlg2 i hi e.symm)
 refine fin _ _ (ups V (v+1,0) v1) _ { D with P:=ups D.P v (D.P v++[(u:Int)]) } (fun s hs=>?_) (aF _ _ _) ⟨⟨(hH2.same (g':=_) (by simp) (by simp)).sub fun k hk=>hk,⟨?_,fun j hj=>?_,fun j hj=>?_,fun j r hj hr=>?_⟩,?_,?_,?_,?_⟩,⟨?_,?_⟩,⟨hP.db.c,fun w hw=>?_,hP.db.m,hP.db.o,fun k hk hkn=>?_⟩,hP.mv,?_⟩
 ·simp only[iS]
  repeat rw[if_neg (by omega)]
 ·rw[aF,l6 _ _ hv]
  congr 1
  refine uH (by simp[fm,aF,ah]) fun j hj hne=>by simp[fm,ah,hne]
 ·by_cases e:j=v
  ·subst e
   rw[ah _ _ (by simp),aF]
   show En.sl 1 _=En.sl 1 ((ups D.P j (D.P j++[(u:Int)]) j).map ci)/\(ups D.P j (D.P j++[(u:Int)]) j).length<=1000
   rw[aF]
   exact ⟨by simp,by simp;omega⟩
  ·rw[ah _ _ (by simp),ah _ _ (by simp[e])]
   show E (j+1,0)=En.sl 1 ((ups D.P v (D.P v++[(u:Int)]) j).map ci)/\(ups D.P v (D.P v++[(u:Int)]) j).length<=1000
   rw[ah _ _ e]
   exact hD.bn.ps j hj
 ·rw[ah _ _ (by simp),ah _ _ (by simp)]
  have:=hD.bn.rs j hj
  refine ⟨?_,this.2⟩
  rw[this.1]
  congr 1
  exact List.map_congr_left fun r _=>by simp[A0,ah]
 ·rw[ah _ _ (by simp),ah _ _ (by simp),ah _ _ (by simp)];exact hD.bn.rr j r hj hr
 ·rw[ah _ _ (by simp)];exact hD.vb
 ·rw[ah _ _ (by simp),ah _ _ (by simp),ah _ _ (by simp)];exact hD.bx
 ·simp only[bumpG_h]
  rw[fb2 0 (by omega)]
  simp
  rw[fb1 0 (by omega),if_neg (by omega),hD.h0]
 ·simp only[bumpG_h]
  rw[fb2 1 (by omega)]
  simp
  rw[fb1 1 (by omega),if_neg (by omega),hD.h1]
 ·rw[ah _ _ (by simp)];exact hP.pb.1
 ·rw[ah _ _ (by simp),ah _ _ (by simp)];exact hP.pb.2
 ·by_cases e:w=v
  ·subst e
   show (ups D.P w (D.P w++[(u:Int)]) w).length<=3/\∀y∈ups D.P w (D.P w++[(u:Int)]) w,0<=y/\y<n
   rw[aF]
   refine ⟨by simp;omega,fun y hy=>?_⟩
   rcases List.mem_append.1 hy with h | h
   ·exact (hP.db.p w hw).2 y h
   ·rw[List.mem_singleton.1 h];omega
  ·show (ups D.P v (D.P v++[(u:Int)]) w).length<=3/\∀y∈ups D.P v (D.P v++[(u:Int)]) w,0<=y/\y<n
   rw[ah _ _ e]
   exact hP.db.p w hw
 ·show ups D.P v (D.P v++[(u:Int)]) (num k)=[]/\D.m (num k)=0
  rw[ah _ _ (hvi k hk hkn)]
  exact hP.db.f k hk hkn
 ·have hok:=hP.ok
  refine ⟨fun w hw=>?_,fun k hk y hy=>?_,fun k hk=>?_,hok.r⟩
  ·show (ups D.P v (D.P v++[(u:Int)]) w).Pairwise (·<·)
   by_cases e:w=v
   ·rw[e,aF]
    rw[List.pairwise_append]
    exact ⟨hok.s v hv,List.pairwise_singleton _ _,fun a ha b hb=>by rw[List.mem_singleton.1 hb];exact hlt a ha⟩
   ·rw[ah _ _ e];exact hok.s w hw
  ·have hy:y∈ups D.P v (D.P v++[(u:Int)]) (num k):=hy
   by_cases e:num k=v
   ·rw[e,aF] at hy
    rcases List.mem_append.1 hy with h | h
    ·rw[<-e] at h;exact hok.a k hk y h
    ·obtain ⟨k',h1,h2⟩:=hua
     have:¬k<i:=fun h=>hvl k h e
     exact ⟨k',by omega,by rw[List.mem_singleton.1 h,h2]⟩
   ·rw[ah _ _ e] at hy;exact hok.a k hk y hy
  ·show (D.m (num k):Int)=S.bk (ups D.P v (D.P v++[(u:Int)]) (num k)) D.c
   rw[ah _ _ (hvl k hk)];exact hok.w k hk
end
end Hx
end
section
namespace Hx
open Go
noncomputable section
structure DJ (r0 prow:List AV) (n q i p v u:Nat) (gr:Int) (r5:AV) (num:Nat->Nat) (j:Nat) (t:T) (g:G):Prop where
 st:St t ((13,.int .i64 (u:Int))::LDB n q i p v r5)
 hd:∃V E D,DP r0 prow n q i p v gr r5 num g V E D/\(∀y∈D.P v,y<=(u:Int))/\((∃k,k<j/\num k=u)\/∀y∈D.P v,y<(u:Int))
theorem Kt {d n q i p v u:Nat}{gr:Int}{r0:List AV}{y1 y2:UInt8}{wv r5:AV}{pl:List Int}{num:Nat->Nat}{Q:QT}{t:T}{g:G}(hn:1<=n/\n<=5)(h5:IT 0 pl r5)(hN:Num n pl num)(hi:i<n)(hv:v=num i)(hu:u<n)
  (h0:DJ r0 [u8v y1,u8v y2,wv] n q i p v u gr r5 num 0 t g) (h14:tat t 14=.int .i64 0)
  (fin:∀t g,DJ r0 [u8v y1,u8v y2,wv] n q i p v u gr r5 num i t g->Q (.exit 6) t [] g):wpL (wp C0 d none eF) Q t [] g:=by
 have r5i:∀h,af h 1 r5=some (pl.map ci):=fun h=>(h5.sl h).ints
 have hvn:v<n:=by rw[hv];exact hN.lt i hi
 have hvi:∀k,i<k->k<n->num k≠v:=fun k h1 h2 e=>by
  have:=hN.inj k i h2 hi (by rw[e,hv])
  omega
 have hvl:∀k,k<i->num k≠v:=fun k h1 e=>by
  have:=hN.inj k i (by omega) hi (by rw[e,hv])
  omega
 obtain ⟨FR,hFR⟩:∃FR,FR=uo:=⟨_,rfl⟩
 simp only[eF,iQ]
 rw[show (SC.feet [0,1,0,0,8,0,56,120,248,0,512,2040,4095,8191,16383] [oF 131 1 4,oL 132 131,oM 133 12,oF 134 1 4,oL 135 134,oM 136 12,o 137 (.ixs 3 (.t 135) (.t 136)),oF 138 1 137,oL 139 138,oM 140 13,o 141 (.bsl 1 1 [.int .i64 0] [0] [.t 140]),o 142 (.app 1 8 (.t 139) (.t 141)),o 143 (.ixs 3 (.t 132) (.t 133)),oF 144 1 143,oz (.store 1 (.t 144) (.t 142))])=FR from hFR.symm]
 refine iI i (by omega) (fun j t df g=>df=[]/\DJ r0 [u8v y1,u8v y2,wv] n q i p v u gr r5 num j t g) ⟨rfl,h0⟩ h14 (by decide) ?_ ?_ ?_ ?_
 ·rintro j t df g w s (rfl | rfl | rfl) ⟨a1,⟨b1,b2,b3,b4,b5,b6,b7,b8,b9,-⟩,c⟩<;>exact ⟨a1,by simp[St,LDB,sx,b1,b2,b3,b4,b5,b6,b7,b8,b9],c⟩
 ·rintro j t df g hj ⟨rfl,⟨h13,h1,h2,h3,h4,h5,h10,h11,h12,-⟩,hD⟩ h14
  simp only[sz,simprocAttr,h14,h10]
  exact ⟨by simp[St,LDB,sx,h13,h1,h2,h3,h4,h5,h10,h11,h12],hD⟩
 ·rintro j t df g hj ⟨rfl,⟨h13,h1,h2,h3,h4,h5,h10,h11,h12,-⟩,V,E,D,hP,hle,hcs⟩ h14
  obtain ⟨kp,-,-⟩:=hP.p
  have kp:g.h.get p=.cells 3 [[u8v y1,u8v y2,wv]] 0 false false:=kp
  obtain ⟨kq,q2a,q2b⟩:=hP.dn.q (.inl rfl)
  have rns:=hP.dn.ns.rows
  have hry:=rk hP.dn.ns (by simp;omega)
  have u1:j<(pl.map ci).length:=by rw[List.length_map,hN.len];omega
  have u2:(pl.map ci)[j]?=some (ci (num j:Int)):=by rw[List.getElem?_map,hN.at_ j (by omega)];rfl
  have u3:v<((List.range n).map (fm D V)).length:=by simpa using hvn
  have u4:((List.range n).map (fm D V))[v]?=some [.int .i64 (D.c v),V (v+1,0),V (v+1,1)]:=fB (fm D V) hvn
  have hps:=hP.dn.bn.ps v hvn
  have hlen:∀g2:G,gT .slice (V (v+1,0)) g2=.val (.int .i64 ((D.P v).length:Int)):=fun g2=>by
   have:=(hP.dn.hp.own (.inl (LN.p hvn)) hps.1).rows
   rw[jI this];simp
  have w1:IntKind.wrap .u64 (j:Int)=(j:Int):=lF (by omega) (by omega)
  obtain ⟨z1,hz1⟩:=DU y2.toNat j
  obtain ⟨z2,hz2⟩:=El z1 1
  have hcs':(∃k,k<j+1/\num k=u)\/∀y∈D.P v,y<(u:Int):=by
   rcases hcs with ⟨k,h1,h2⟩ | h
   ·exact .inl ⟨k,by omega,h2⟩
   ·exact .inr h
  have hz2':bA .and (.int .u8 (z1:Int)) (.int .u8 1)=.val (.int .u8 z2):=hz2
  by_cases c1:(num j:Int)=(u:Int)
  ·by_cases c2:z2=1
   ·by_cases c3:((D.P v).length:Int)<3
    ·simp only[sz,simprocAttr,h14,h5,h13,r5i,u1,u2,ci,c1,h11,kp,u8v,w1,hz1,hz2',c2,h4,kq,h12,rns,u3,u4,hry,hlen,c3]
     rw[hFR]
     refine Ir (n:=n) (q:=q) (i:=i) (p:=p) (v:=v) (u:=u) (r5:=r5) (num:=num) hn hvn hvi hu hvl ⟨j,hj,by omega⟩ ?_ ?_ ?_ ?_ hP (by omega) (rest:=[]) ?_
     ·rcases hcs with ⟨k,h1,h2⟩ | h
      ·have:=hN.inj k j (by omega) (by omega) (by omega)
       omega
      ·exact h
     ·simp[sx,h4]
     ·simp[sx,h12]
     ·simp[sx,h13]
     intro t' g' V' E' D' hst hPv hP'
     simp only[sy]
     have hs:∀s,s<131->tat t' s=_:=fun s h=>hst s (.inl h)
     refine ⟨⟨?_,V',E',D',hP',fun y hy=>?_,.inl ⟨j,by omega,by omega⟩⟩,?_⟩
     ·simp[St,LDB,hs,sx,h13,h1,h2,h3,h4,h5,h10,h11,h12]
     ·rw[hPv] at hy
      rcases List.mem_append.1 hy with h | h
      ·exact hle y h
      ·rw[List.mem_singleton.1 h];exact Int.le_refl _
     ·simp[hs,sx,h14]
    ·simp only[sz,simprocAttr,h14,h5,h13,r5i,u1,u2,ci,c1,h11,kp,u8v,w1,hz1,hz2',c2,h4,kq,h12,rns,u3,u4,hry,hlen,c3]
     exact ⟨by simp[St,LDB,sx,h13,h1,h2,h3,h4,h5,h10,h11,h12],V,E,D,hP,hle,hcs'⟩
   ·simp only[sz,simprocAttr,h14,h5,h13,r5i,u1,u2,ci,c1,h11,kp,u8v,w1,hz1,hz2',c2]
    exact ⟨by simp[St,LDB,sx,h13,h1,h2,h3,h4,h5,h10,h11,h12],V,E,D,hP,hle,hcs'⟩
  ·simp only[sz,simprocAttr,h14,h5,h13,r5i,u1,u2,ci,c1]
   exact ⟨by simp[St,LDB,sx,h13,h1,h2,h3,h4,h5,h10,h11,h12],V,E,D,hP,hle,hcs'⟩
 ·rintro t df g ⟨rfl,h⟩
  exact fin t g h
structure DK (r0 prow:List AV) (n q i p v:Nat) (gr:Int) (r5:AV) (num:Nat->Nat) (j:Nat) (t:T) (g:G):Prop where
 st:St t (LDB n q i p v r5)
 hd:∃V E D,DP r0 prow n q i p v gr r5 num g V E D/\∀y∈D.P v,y<(j:Int)
theorem J3 {d n q i p v:Nat}{gr:Int}{r0:List AV}{y1 y2:UInt8}{wv r5:AV}{pl:List Int}{num:Nat->Nat}{Q:QT}{t:T}{g:G}(hn:1<=n/\n<=5)(h5:IT 0 pl r5)(hN:Num n pl num)(hi:i<n)(hv:v=num i)
  (h0:DK r0 [u8v y1,u8v y2,wv] n q i p v gr r5 num 0 t g) (h13:tat t 13=.int .i64 0)
  (fin:∀t g,DK r0 [u8v y1,u8v y2,wv] n q i p v gr r5 num n t g->Q (.exit 4) t [] g):wpL (wp C0 d none d9) Q t [] g:=by
 simp only[d9,i6]
 refine iI n (by omega) (fun j t df g=>df=[]/\DK r0 [u8v y1,u8v y2,wv] n q i p v gr r5 num j t g) ⟨rfl,h0⟩ h13 (by decide) ?_ ?_ ?_ ?_
 ·rintro j t df g w s (rfl | rfl | rfl) ⟨a1,⟨b1,b2,b3,b4,b5,b6,b7,b8,-⟩,c⟩<;>exact ⟨a1,by simp[St,LDB,sx,b1,b2,b3,b4,b5,b6,b7,b8],c⟩
 ·rintro j t df g hj ⟨rfl,⟨h1,h2,h3,h4,h5,h10,h11,h12,-⟩,hD⟩ h13
  simp only[sz,simprocAttr,h13,h3]
  exact ⟨by simp[St,LDB,sx,h1,h2,h3,h4,h5,h10,h11,h12],hD⟩
 ·rintro j t df g hj ⟨rfl,⟨h1,h2,h3,h4,h5',h10,h11,h12,-⟩,V,E,D,hD,hlt⟩ h13
  simp only[sz,simprocAttr]
  refine Kt (u:=j) hn h5 hN hi hv hj ⟨by simp[St,LDB,sx,h13,h1,h2,h3,h4,h5',h10,h11,h12],V,E,D,hD,fun y hy=>Int.le_of_lt (hlt y hy),.inr hlt⟩ (by simp[sx]) ?_
  rintro t2 g2 ⟨⟨k13,k1,k2,k3,k4,k5,k10,k11,k12,-⟩,V2,E2,D2,hD2,hle2,-⟩
  simp only[sx,sy,↓reduceIte]
  exact ⟨⟨by simp[St,LDB,k1,k2,k3,k4,k5,k10,k11,k12],V2,E2,D2,hD2,fun y hy=>by have:=hle2 y hy;omega⟩,k13⟩
 ·rintro t df g ⟨rfl,h⟩
  exact fin t g h
def ux:SC:=.feet [0,1,0,0,8,0,56,120,248,0,512,0,2048,0,14336,30720,63488,0,131072,0,0,1048576,0,7340032,15728640,32505856,66060288,133693440,268434944,536870400,1073741816,2147483647,4294967295,8589934591] [oF 153 1 4,oL 154 153,oM 155 12,oF 156 1 4,oL 157 156,oM 158 12,o 159 (.ixs 3 (.t 157) (.t 158)),oF 160 2 159,oL 161 160,oF 162 0 4,oL 163 162,oF 164 1 4,oL 165 164,oM 166 12,o 167 (.ixs 3 (.t 165) (.t 166)),oF 168 0 167,oL 169 168,oF 170 2 11,oL 171 170,oM 172 15,oF 173 1 4,oL 174 173,oM 175 12,o 176 (.ixs 3 (.t 174) (.t 175)),oF 177 0 176,oL 178 177,oA 179 178,o 180 (.bin .mul (.t 172) (.t 179)),o 181 (.call N.am [.t 163,.t 169,.t 171,.t 180]),o 182 (.bsl 1 1 [.nils] [0] [.t 181]),o 183 (.app 1 24 (.t 161) (.t 182)),o 184 (.ixs 3 (.t 154) (.t 155)),oF 185 2 184,oz (.store 1 (.t 185) (.t 183))]
structure DQ (r0 prow:List AV) (n q i p v j:Nat) (gr:Int) (r5:AV) (num:Nat->Nat) (P0:List Int) (c0:Nat->Int) (g:G) (V:Ky->AV) (E:Ky->En) (D:ND):Prop where
 dn:DN X2 r0 n q 1000 gr V E D g
 pb:V (0,2)=.hptr p 0 0 0/\E (0,2)=.bx prow
 db:DB D n i v num
 mv:D.m v=j
 pv:D.P v=P0
 cv:D.c=c0
 ok:DOk gr D n i num
theorem DQ.p {r0 prow:List AV}{n q i p v j:Nat}{gr:Int}{r5:AV}{num:Nat->Nat}{P0:List Int}{c0:Nat->Int}{g:G}{V:Ky->AV}{E:Ky->En}{D:ND}(h:DQ r0 prow n q i p v j gr r5 num P0 c0 g V E D):g.h.get p=.cells prow.length [prow] 0 false false/\2<=p/\p<g.nx:=by
 obtain ⟨id,h1,h2,h3,h4⟩:=h.dn.hp.box (k:=(0,2)) (.inr (.inr rfl)) h.pb.2
 rw[h.pb.1] at h3;injection h3 with h3;subst h3
 exact ⟨h4,h1,h2⟩
theorem ID {d n q i p v j kk:Nat}{gr:Int}{r0:List AV}{y1 y2:UInt8}{W:List UInt8}{wv r5:AV}{num:Nat->Nat}{P0:List Int}{c0:Nat->Int}{Q:QT}{t:T}{g:G}{V:Ky->AV}{E:Ky->En}{D:ND}(hd:0<d)(hn:1<=n/\n<=5)(hv:v<n)(hvi:∀k,i<k->k<n->num k≠v)(hvl:∀k,k<i->num k≠v)(hj:j<64)(hgr:0<=gr/\gr<=60)(hwv:SlR NoP kk .nil W wv)
  (h4:tat t 4=.hptr q 0 0 0) (h11:tat t 11=.hptr p 0 0 0) (h12:tat t 12=.int .i64 (v:Int)) (h15:tat t 15=.int .i64 (j:Int)) (hP:DQ r0 [u8v y1,u8v y2,wv] n q i p v j gr r5 num P0 c0 g V E D)
  (fin:∀t' g' V' E' D',(∀s,(s<153\/185<s)->tat t' s=tat t s)->DQ r0 [u8v y1,u8v y2,wv] n q i p v (j+1) gr r5 num P0 c0 g' V' E' D'->Q .norm t' [] g') :
  wp C0 d none ux Q t [] g:=by
 have hD:=hP.dn
 obtain ⟨kq,q2a,q2b⟩:=hD.q (.inl rfl)
 obtain ⟨kp,-,hpx⟩:=hP.p
 have kp:g.h.get p=.cells 3 [[u8v y1,u8v y2,wv]] 0 false false:=kp
 unfold ux
 have rns:=hD.ns.rows
 have hry:=rk hD.ns (by simp;omega)
 have u3:v<((List.range n).map (fm D V)).length:=by simpa using hv
 have u4:=fB (fm D V) hv
 have u4':((List.range n).map (fm D V))[v]?=some [.int .i64 (D.c v),V (v+1,0),V (v+1,1)]:=u4
 have hrs:=hD.bn.rs v hv
 have hnx:=hD.hp.nx
 obtain ⟨C,hC,hCb⟩:∃C:Nat,D.c v=(C:Int)/\(C=2\/C=3):=by
  rcases hP.db.c v hv with h | h
  ·exact ⟨2,h,.inl rfl⟩
  ·exact ⟨3,h,.inr rfl⟩
 have hjC:j*(C+1)<=64*4:=Nat.mul_le_mul (by omega) (by omega)
 have w1:IntKind.wrap .i64 ((C:Int)+1)=((C+1:Nat):Int):=by rw[aH (by omega) (by omega)];rfl
 have w2:IntKind.wrap .i64 ((j:Int)*((C+1:Nat):Int))=((j*(C+1):Nat):Int):=by rw[<-Int.natCast_mul,aH (by omega) (by omega)]
 rw[hC] at u4'
 simp only[sz,simprocAttr,sf,h4,h11,h12,h15,kq,kp,rns,u3,u4',hry,w1,w2,uv]
 refine pu (JC (C:=C) (F:=j*(C+1)) (gr:=gr) (l:=W) hd (by omega) (by omega) hgr hwv) ?_
 rintro r ⟨l,⟨hl,hlg'⟩,_,e1,hr⟩
 injection e1 with e1;subst e1
 have hrc:=hr.cell
 simp only[sz,simprocAttr,sf,hrc.1,hrc.2]
 refine (hD.hp.step (g':=_) ?_ ?_).app2 (k:=(v+1,1)) (.inl (LN.r hv)) hrs.1 (new:=[[r]]) (by simp[sx,sy]) (by unfold bh;simp;rw[hP.mv];omega) fun v1 g1 hH1 n1 fb1 fo1 lg1 vc vt=>?_
 ·simp;omega
 ·intro i _ hi
  simp[H.get_put];omega
 simp only[sx,sy] at n1 fb1 fo1 lg1
 have hnk:¬LNX X2 n D (v+1,2+j):=by
  rintro (h | h)
  ·rcases h with h | ⟨i',q',h,-,hq⟩
   ·simp at h
   ·rw[hP.db.o] at hq
    simp only[Prod.mk.injEq] at h
    omega
  ·rcases h with h | h<;>simp at h
 have hH1:=hH1.off (x:=r) hnk
 have e00:ups (ups V (v+1,1) v1) (v+1,2+j) r (0,0)=V (0,0):=by rw[ah _ _ (by simp),ah _ _ (by simp)]
 have hE00:ups E (v+1,1) (.sl 1 ((List.range (D.m v)).map (A0 V v)++[[r]])) (0,0)=.sl 3 ((List.range n).map (fm D V)):=by rw[ah _ _ (by simp)];exact hD.bn.ns
 have rns1:af g1.h 3 (V (0,0))=some ((List.range n).map (fm D V)):=by rw[<-e00];exact (hH1.own (k:=(0,0)) (.inl LN.z) hE00).rows
 simp only[sz,simprocAttr,sf,rns1,u3,hry]
 refine (hH1.same (g':=_) ?_ ?_).putv (k:=(0,0)) (.inl LN.z) e00 (row':=[.int .i64 (C:Int),V (v+1,0),v1]) hE00 u4 (by rw[vc];rfl) vt (by rw[vc,fm,hC];rfl) fun g2 hH2 n2 fb2 fo2=>?_
 ·simp
 ·simp;omega
 simp only[sy]
 refine ⟨?_,?_⟩
 ·simp only[List.reverse_cons,List.reverse_nil,List.nil_append,List.cons_append]
  refine bj [false,false,false,false,false,false,false,false,false,false,false,false,false,false,false,false,false,false,false,false,false,false,false,false,false,false,false,false,false,true,true,false,false,true] [(0,29),(1,29),(2,29),(3,29),(4,29),(5,29),(6,29),(7,29),(8,29),(0,30),(1,30),(2,30)] (by simp[All2,am,aD]) (by decide) ?_
  have hlg:∀i∈g1.lg,i≠q:=fun i hi e=>by
   rcases lg1 i hi with h | h | h
   ·simp at h
   ·exact yd hD.hp (.inl (LN.r hv)) (.inr (.inl rfl)) (by simp) h (by rw[hD.vb,e];rfl)
   ·omega
  obtain ⟨id0,ep0,hid0,hv0⟩:∃id ep,id<g.nx/\V (0,0)=.hsl id ep 0 ((List.range n).map (fm D V)).length none:=by
   rcases hD.ns with ⟨h,e⟩ | ⟨id,ep,lo,-,h1,h2,-⟩
   ·have:=congrArg List.length e
    simp at this;omega
   ·exact ⟨id,ep,h1,h2⟩
  have hlg2:∀i∈g1.lg,i≠id0:=fun i hi e=>by
   rcases lg1 i hi with h | h | h
   ·simp at h
   ·exact yd hD.hp (.inl (LN.r hv)) (.inl LN.z) (by simp) h (by rw[hv0,e];rfl)
   ·omega
  rintro p hp' x y hx hy
  simp only[List.mem_cons,List.not_mem_nil,or_false] at hp'
  rcases hp' with rfl | rfl | rfl | rfl | rfl | rfl | rfl | rfl | rfl | rfl | rfl | rfl<;>(simp at hx hy;subst hx;subst hy;refine iT rfl rfl rfl rfl ?_ ?_ ?_<;>simp[am,aD,ae,hv0,nK]<;>first | omega | exact hlg | exact hlg2 | exact fun i hi e=>hlg i hi e.symm | exact fun i hi e=>hlg2 i hi e.symm)
 have hmv:=hP.mv
 refine fin _ _ (ups (ups V (v+1,1) v1) (v+1,2+j) r) _ { D with m:=ups D.m v (j+1),R:=ups D.R v (ups (D.R v) j l) } (fun s hs=>?_) ⟨⟨(hH2.same (g':=_) (by simp) (by simp)).sub fun k hk=>hk,⟨?_,fun u hu=>?_,fun u hu=>?_,fun u r' hu hr'=>?_⟩,?_,?_,?_,?_⟩,⟨?_,?_⟩,⟨hP.db.c,hP.db.p,fun u hu=>?_,hP.db.o,fun k hk hkn=>?_⟩,aF _ _ _,hP.pv,hP.cv,?_⟩
 ·simp only[iS]
  repeat rw[if_neg (by omega)]
 ·rw[aF,l6 _ _ hv]
  congr 1
  refine uH ?_ fun j hj hne=>by simp[fm,ah,hne]
  show _=[AV.int .i64 (D.c v),ups (ups V (v+1,1) v1) (v+1,2+j) r (v+1,0),ups (ups V (v+1,1) v1) (v+1,2+j) r (v+1,1)]
  rw[hC,ah _ _ (by first | (simp;done) | (simp;omega)),ah _ _ (by first | (simp;done) | (simp;omega)),ah _ _ (by first | (simp;done) | (simp;omega)),aF]
 ·rw[ah _ _ (by simp),ah _ _ (by simp)]
  exact hD.bn.ps u hu
 ·by_cases e:u=v
  ·subst e
   rw[ah _ _ (by simp),aF]
   show En.sl 1 _=En.sl 1 ((List.range (ups D.m u (j+1) u)).map _)/\ups D.m u (j+1) u<=1000
   rw[aF]
   refine ⟨?_,by omega⟩
   rw[hmv,List.range_succ,List.map_append]
   congr 2
   ·exact List.map_congr_left fun r' hr'=>by
     have:=List.mem_range.1 hr'
     simp[A0,ah,show ¬r'=j by omega,show ¬2+r'=1 by omega]
   ·simp[A0,aF]
  ·rw[ah _ _ (by simp),ah _ _ (by simp[e])]
   show E (u+1,1)=En.sl 1 ((List.range (ups D.m v (j+1) u)).map _)/\ups D.m v (j+1) u<=1000
   rw[ah _ _ e]
   have:=hD.bn.rs u hu
   refine ⟨?_,this.2⟩
   rw[this.1]
   congr 1
   exact List.map_congr_left fun r' _=>by simp[A0,ah,e]
 ·by_cases e:u=v
  ·subst e
   have hr':r'<ups D.m u (j+1) u:=hr'
   rw[aF] at hr'
   show (ups D.R u (ups (D.R u) j l) u r').length<=1000/\((r'<D.o u/\_=En.sl 1 ((ups D.R u (ups (D.R u) j l) u r').map ci))\/SlR NoP 0 .nil (ups D.R u (ups (D.R u) j l) u r') _)
   rw[aF]
   by_cases e2:r'=j
   ·subst e2
    rw[aF,aF]
    exact ⟨by omega,.inr hr⟩
   ·rw[ah _ _ e2,ah _ _ (by first | (simp;done) | (simp;omega)),ah _ _ (by first | (simp;done) | (simp;omega)),ah _ _ (by simp[e2]),ah _ _ (by first | (simp;done) | (simp;omega))]
    exact hD.bn.rr u r' hu (by omega)
  ·have hr':r'<ups D.m v (j+1) u:=hr'
   rw[ah _ _ e] at hr'
   show (ups D.R v (ups (D.R v) j l) u r').length<=1000/\((r'<D.o u/\_=En.sl 1 ((ups D.R v (ups (D.R v) j l) u r').map ci))\/SlR NoP 0 .nil (ups D.R v (ups (D.R v) j l) u r') _)
   rw[ah _ _ e,ah _ _ (by first | (simp;done) | (simp;omega)),ah _ _ (by first | (simp;done) | (simp;omega)),ah _ _ (by simp[e]),ah _ _ (by simp[e])]
   exact hD.bn.rr u r' hu hr'
 ·rw[ah _ _ (by simp),ah _ _ (by simp)];exact hD.vb
 ·rw[ah _ _ (by simp),ah _ _ (by simp),ah _ _ (by simp),ah _ _ (by simp)];exact hD.bx
 ·simp only[bumpG_h]
  rw[fb2 0 (by omega)]
  simp
  rw[fb1 0 (by omega),if_neg (by omega),hD.h0]
 ·simp only[bumpG_h]
  rw[fb2 1 (by omega)]
  simp
  rw[fb1 1 (by omega),if_neg (by omega),hD.h1]
 ·rw[ah _ _ (by simp),ah _ _ (by simp)];exact hP.pb.1
 ·rw[ah _ _ (by simp),ah _ _ (by simp)];exact hP.pb.2
 ·show ups D.m v (j+1) u<=64
  by_cases e:u=v
  ·rw[e,aF];omega
  ·rw[ah _ _ e];exact hP.db.m u hu
 ·show D.P (num k)=[]/\ups D.m v (j+1) (num k)=0
  rw[ah _ _ (hvi k hk hkn)]
  exact hP.db.f k hk hkn
 ·have hok:=hP.ok
  refine ⟨hok.s,hok.a,fun k hk=>?_,fun u r' hu hr'=>?_⟩
  ·show ((ups D.m v (j+1) (num k):Nat):Int)=_
   rw[ah _ _ (hvl k hk)];exact hok.w k hk
  ·show IU gr (D.c u) (ups D.R v (ups (D.R v) j l) u r')
   have hr':r'<ups D.m v (j+1) u:=hr'
   by_cases e:u=v
   ·rw[e,aF] at hr' ⊢
    by_cases e2:r'=j
    ·rw[e2,aF,hC];exact hlg'
    ·rw[ah _ _ e2];exact hok.r v r' hv (by omega)
   ·rw[ah _ _ e] at hr' ⊢;exact hok.r u r' hu hr'
theorem CT {gr:Int}{n v:Nat}{D:ND}(hv:v<n)(hp:∀y∈D.P v,0<=y/\y<n):S.af (S.aa ⟨gr,(List.range n).map D.node⟩) (D.P v)=(D.P v).map fun y=>D.c y.toNat:=by
 unfold S.af S.aa
 refine List.map_congr_left fun y hy=>?_
 have:=hp y hy
 rw[List.map_map]
 have h:y.toNat<n:=by omega
 simp[h,ND.node]
theorem uK {n v:Nat}{D:ND}(hv:v<n)(hc:∀u,u<n->D.c u=2\/D.c u=3)(hp:(D.P v).length<=3/\∀y∈D.P v,0<=y/\y<n):(∀c∈(D.P v).map fun y=>D.c y.toNat,1<=c/\c<=4)/\1<=S.bk (D.P v) D.c/\S.bk (D.P v) D.c<=64:=by
 have h1:∀c∈(D.P v).map fun y=>D.c y.toNat,1<=c/\c<=4:=fun c h=>by
  obtain ⟨y,hy,rfl⟩:=List.mem_map.1 h
  have:=hp.2 y hy
  have:=hc y.toNat (by omega)
  omega
 have h2:=bX h1
 have h3:=dG (a:=((D.P v).map fun y=>D.c y.toNat).length) (b:=3) (by simpa using hp.1)
 have h4:(4:Int) ^ 3=64:=by decide
 refine ⟨h1,h2.1,?_⟩
 unfold S.bk
 omega
structure DRw (r0 prow:List AV) (n q i p v j:Nat) (gr:Int) (r5:AV) (num:Nat->Nat) (P0:List Int) (c0:Nat->Int) (t:T) (g:G):Prop where
 st:St t (LDB n q i p v r5)
 hd:∃V E D,DQ r0 prow n q i p v j gr r5 num P0 c0 g V E D
theorem J_ {d n q i p v kk:Nat}{gr:Int}{r0:List AV}{y1 y2:UInt8}{W:List UInt8}{wv r5:AV}{num:Nat->Nat}{P0:List Int}{c0:Nat->Int}{Q:QT}{t:T}{g:G}(hd:0<d)(hn:1<=n/\n<=5)(hv:v<n)(hvi:∀k,i<k->k<n->num k≠v)(hvl:∀k,k<i->num k≠v)(hgr:0<=gr/\gr<=60)(hwv:SlR NoP kk .nil W wv)
  (h0:DRw r0 [u8v y1,u8v y2,wv] n q i p v 0 gr r5 num P0 c0 t g) (h15:tat t 15=.int .i64 0)
  (fin:∀(t:T) (g:G) (j:Nat),(j:Int)=S.bk P0 c0->DRw r0 [u8v y1,u8v y2,wv] n q i p v j gr r5 num P0 c0 t g->Q (.exit 8) t [] g):wpL (wp C0 d none d8) Q t [] g:=by
 have hM:1<=S.bk P0 c0/\S.bk P0 c0<=64:=by
  obtain ⟨-,V,E,D,hQ⟩:=h0
  have:=(uK hv hQ.db.c (hQ.db.p v hv)).2
  rw[hQ.pv,hQ.cv] at this
  exact this
 obtain ⟨M,hMe⟩:=Int.eq_ofNat_of_zero_le (show 0<=S.bk P0 c0 by omega)
 obtain ⟨FR,hFR⟩:∃FR,FR=ux:=⟨_,rfl⟩
 simp only[d8]
 rw[show (SC.feet [0,1,0,0,8,0,56,120,248,0,512,0,2048,0,14336,30720,63488,0,131072,0,0,1048576,0,7340032,15728640,32505856,66060288,133693440,268434944,536870400,1073741816,2147483647,4294967295,8589934591] [oF 153 1 4,oL 154 153,oM 155 12,oF 156 1 4,oL 157 156,oM 158 12,o 159 (.ixs 3 (.t 157) (.t 158)),oF 160 2 159,oL 161 160,oF 162 0 4,oL 163 162,oF 164 1 4,oL 165 164,oM 166 12,o 167 (.ixs 3 (.t 165) (.t 166)),oF 168 0 167,oL 169 168,oF 170 2 11,oL 171 170,oM 172 15,oF 173 1 4,oL 174 173,oM 175 12,o 176 (.ixs 3 (.t 174) (.t 175)),oF 177 0 176,oL 178 177,oA 179 178,o 180 (.bin .mul (.t 172) (.t 179)),o 181 (.call N.am [.t 163,.t 169,.t 171,.t 180]),o 182 (.bsl 1 1 [.nils] [0] [.t 181]),o 183 (.app 1 24 (.t 161) (.t 182)),o 184 (.ixs 3 (.t 154) (.t 155)),oF 185 2 184,oz (.store 1 (.t 185) (.t 183))])=FR from hFR.symm]
 refine iI M (by omega) (fun j t df g=>df=[]/\DRw r0 [u8v y1,u8v y2,wv] n q i p v j gr r5 num P0 c0 t g) ⟨rfl,h0⟩ h15 (by decide) ?_ ?_ ?_ ?_
 ·rintro j t df g w s (rfl | rfl | rfl) ⟨a1,⟨b1,b2,b3,b4,b5,b6,b7,b8,-⟩,c⟩<;>exact ⟨a1,by simp[St,LDB,sx,b1,b2,b3,b4,b5,b6,b7,b8],c⟩
 ·rintro j t df g hj ⟨rfl,⟨h1,h2,h3,h4,h5,h10,h11,h12,-⟩,V,E,D,hQ⟩ h15
  obtain ⟨kq,q2a,q2b⟩:=hQ.dn.q (.inl rfl)
  have hnodes:=hQ.dn.bn.nodes hQ.dn.hp (fun k h=>.inl h) (by omega) (by omega)
  have hnet:Agg (⟨gr,(List.range n).map D.node⟩:Net) (fun j=>2<=j) 0 g.h (.agg [.int .i64 gr,V (0,0)]):=⟨_,rfl,lT.2 ⟨_,rfl,hnodes⟩⟩
  have hpv:=hQ.db.p v hv
  obtain ⟨r,er,hr⟩:=EG (d:=d) (g:=g) (i:=v) (x:=D.node v) hd hnet (by simp;omega) (by simp[hv]) (by show (D.P v).length<_;omega) (fun y hy=>by have:=hpv.2 y hy;simp;omega)
  have hpar:=CT (gr:=gr) hv hpv.2
  have hb:=uK hv hQ.db.c hpv
  have hsz:=Ft (d:=d) (g:=g) hd (hr.sl g.h)
  have hse:S.bi (S.af (S.aa ⟨gr,(List.range n).map D.node⟩) (D.node v).parents)=(M:Int):=by
   show S.bi (S.af (S.aa ⟨gr,(List.range n).map D.node⟩) (D.P v))=(M:Int)
   rw[hpar,Ew hb.1 (by simp;omega),<-hMe,S.bk,<-hQ.pv,<-hQ.cv]
  rw[hse] at hsz
  simp only[sz,simprocAttr,h15,h4,kq,h12,er,hsz]
  exact ⟨by simp[St,LDB,sx,h1,h2,h3,h4,h5,h10,h11,h12],V,E,D,hQ⟩
 ·rintro j t df g hj ⟨rfl,⟨h1,h2,h3,h4,h5,h10,h11,h12,-⟩,V,E,D,hQ⟩ h15
  rw[hFR]
  refine ID (n:=n) (q:=q) (i:=i) (p:=p) (v:=v) (j:=j) (r5:=r5) (num:=num) hd hn hv hvi hvl (by omega) hgr hwv h4 h11 h12 h15 hQ ?_
  intro t' g' V' E' D' hst hQ'
  have hs:∀s,s<153->tat t' s=tat t s:=fun s h=>hst s (.inl h)
  rw[xG]
  exact ⟨⟨rfl,by simp[St,LDB,hs,h1,h2,h3,h4,h5,h10,h11,h12],V',E',D',hQ'⟩,by rw[hs 15 (by omega),h15]⟩
 ·rintro t df g ⟨rfl,h⟩
  exact fin t g M hMe.symm h
end
end Hx
end
