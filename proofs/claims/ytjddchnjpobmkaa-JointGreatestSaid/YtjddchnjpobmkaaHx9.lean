/- A part of the proof: an interpreter over abstract values, shown right against the model, and what the functions of the chapter compute on it. -/
import Derived.Test.YtjddchnjpobmkaaHx8
set_option linter.unusedVariables false
set_option linter.unusedSimpArgs false
set_option linter.unnecessarySimpa false
section
section
namespace Hx
open Go
noncomputable section
theorem au {α:Type}{l:List α}{j:Nat}(h:j<l.length):∃x,l[j]?=some x/\l.take (j+1)=l.take j++[x]/\x∈l :=
 ⟨l[j],List.getElem?_eq_getElem h,by rw[List.take_add_one,List.getElem?_eq_getElem h];rfl,List.getElem_mem h⟩
def S.aY (l:List Int):Int:=l.foldl (fun s x=>IntKind.wrap .i64 (s*x)) 1
theorem Fy {d:Nat}{g:G}{v:AV}(hd:0<d)(hv:sX g.h v)(hl:(jP g.h v).length<9223372036854775808) :
  am C0 d N.aM [v] g=.val (.int .i64 (S.aY (jP g.h v))):=by
 obtain ⟨v',e,hr,hlen⟩:=Eg hv hl d
 generalize jP g.h v=l at hr hlen hl ⊢
 rw[rH]
 refine nZ uj (xs:=[v']) (by simp only[aB,e]) (by simp[kP]) hd ?_
 simp only[sz,simprocAttr,kP]
 refine Ab hl hlen (fun j t df g=>df=[]/\tat t 3=.int .i64 (S.aY (l.take j))) ⟨rfl,by simp[sx,S.aY]⟩ (by simp[sx]) (by simp[sx]) (by decide)
  (by rintro j t df g v s (rfl | rfl | rfl | rfl | rfl | rfl | rfl)<;>simp[sx]) ?_ ?_
 ·rintro j t df g hj ⟨rfl,h3⟩ h4 h0
  obtain ⟨x,hx,htk,hm⟩:=au hj
  simp only[sz,simprocAttr,hr,h0,h3,h4,hx,hj,List.length_map,List.getElem?_map,Option.map_some,ci,htk,S.aY,List.foldl_append,List.foldl_cons,List.foldl_nil]
 ·rintro t df g ⟨rfl,h3⟩ -
  rw[List.take_length] at h3
  simp only[sz,simprocAttr,lZ,h3]
def S.bi (l:List Int)(n:Int)(i:Nat):Bool:=decide (0<=l[i]?.getD 0)&&decide (l[i]?.getD 0<n)&&(i == 0 || decide (l[i - 1]?.getD 0<l[i]?.getD 0))
def S.aV (l:List Int)(n:Int):Bool:=(List.range l.length).all (S.bi l n)
def S.aL (n:Nat):Nat:=1*2 ^ n % 18446744073709551616
def S.ap (l:List Int):Nat:=l.foldl (fun s x=>s ||| S.aL x.toNat) 0
theorem su (n:Nat):S.aL n<18446744073709551616:=Nat.mod_lt _ (by decide)
theorem qV {α:Type}(f:α->Nat)(hf:∀a,f a<18446744073709551616):∀(l:List α) (s:Nat),s<18446744073709551616->l.foldl (fun s x=>s ||| f x) s<18446744073709551616
 | [],_,h=>h
 | a::l,s,h=>qV f hf l _ (Er h (hf a))
theorem rR (l:List Int):S.ap l<18446744073709551616:=qV _ (fun a=>su _) l 0 (by decide)
theorem Cu (l:List Int)(x:Int):S.ap (l++[x])=S.ap l ||| S.aL x.toNat:=by simp[S.ap]
theorem qH (k':IntKind)(n:Nat):bP .shl (.int .u64 1) (.int k' (n:Int))=.val (.int .u64 (S.aL n:Int)):=Gb k' 1 n
def S.bj (s v:Nat):Bool:=s / 2 ^ v &&& 1 == 1
def S.aQ (p:List Nat)(s:Nat)(j:Nat):Nat:=(List.range j).foldl (fun s v=>if S.bj s v then s ||| p[v]?.getD 0 else s) s
def S.up (p:List Nat)(s:Nat)(j:Nat):Nat:=(List.range j).foldl (fun s _=>S.aQ p s p.length) s
theorem iF (p:List Nat)(s j:Nat):S.aQ p s (j+1)=if S.bj (S.aQ p s j) j then S.aQ p s j ||| p[j]?.getD 0 else S.aQ p s j:=by
 unfold S.aQ
 rw[List.range_succ,List.foldl_append];rfl
theorem lH (p:List Nat)(s j:Nat):S.up p s (j+1)=S.aQ p (S.up p s j) p.length:=by
 unfold S.up
 rw[List.range_succ,List.foldl_append];rfl
def S.a8 (p:List Nat):Bool:=(List.range p.length).all fun v=>!S.bj (S.up p (p[v]?.getD 0) p.length) v
def S.aa (l:List Int):Int:=l.foldl (·*·) 1
theorem nO (l:List Int)(x:Int):S.aa (l++[x])=S.aa l*x:=by simp[S.aa]
theorem dc {a b:Nat}(h:a<=b):(4:Int) ^ a<=4 ^ b:=by
 obtain ⟨c,rfl⟩:∃c,b=a+c:=⟨b - a,by omega⟩
 induction c with
 | zero=>exact Int.le_refl _
 | succ c ih =>
  have:=ih (by omega)
  rw[show a+(c+1)=(a+c)+1 from rfl,Int.pow_succ]
  have h0:(0:Int)<=4 ^ (a+c):=Int.le_of_lt (Int.pow_pos (by decide))
  omega
theorem bQ (a:Int)(l:List Int):S.aa (a::l)=a*S.aa l:=by
 have:∀(l:List Int) (s:Int),l.foldl (·*·) s=s*l.foldl (·*·) 1:=by
  intro l
  induction l with
  | nil=>intro s;simp
  | cons x l ih=>intro s;rw[List.foldl_cons,ih,List.foldl_cons,ih (1*x),Int.one_mul,Int.mul_assoc]
 unfold S.aa
 rw[List.foldl_cons,this,Int.one_mul]
theorem bD:∀{l:List Int},(∀x∈l,1<=x/\x<=4)->1<=S.aa l/\S.aa l<=4 ^ l.length
 | [],_=>⟨by decide,by decide⟩
 | a::l,h=>by
  obtain ⟨h1,h2⟩:=bD (l:=l) fun x hx=>h x (by simp[hx])
  obtain ⟨h3,h4⟩:=h a (by simp)
  rw[bQ,List.length_cons,Int.pow_succ,Int.mul_comm (4 ^ l.length)]
  constructor
  ·have:=Int.mul_le_mul h3 h1 (by decide) (by omega)
   simpa using this
  ·exact Int.mul_le_mul h4 h2 (by omega) (by decide)
theorem tc (l:List Int)(x:Int):(l++[x]).sum=l.sum+x:=by simp
def S.bk (a b:Nat):Nat:=a ^^^ (a &&& b)
theorem G6 {n:Nat}(h:n<64):S.aL n=2 ^ n:=by
 unfold S.aL
 rw[Nat.one_mul,Nat.mod_eq_of_lt]
 exact Nat.pow_lt_pow_right (a:=2) (by decide) h
def S.bB (m:Causal):Int:=S.aa (m.roots.map fun r=>(r.length:Int))
end
end Hx
end
section
namespace Hx
open Go
def Sub (a s:Nat):Prop:=∀v,a.testBit v=true->s.testBit v=true
theorem qb (s v:Nat):S.bj s v=s.testBit v:=by
 rw[Nat.testBit_eq_decide_div_mod_eq,S.bj,Nat.and_one_is_mod]
 rw[Bool.eq_iff_iff,beq_iff_eq,decide_eq_true_iff]
theorem uY {a s:Nat}:S.bk a s=0↔Sub a s:=by
 constructor
 ·intro h v hv
  have:=congrArg (·.testBit v) h
  simp[S.bk,hv] at this
  exact this
 ·intro h
  refine Nat.eq_of_testBit_eq fun v=>?_
  have:=h v
  simp only[S.bk,Nat.testBit_xor,Nat.testBit_and,Nat.zero_testBit]
  cases ha:a.testBit v
  ·rfl
  ·rw[this ha];rfl
theorem mU (a b v:Nat):(a ||| b).testBit v=(a.testBit v || b.testBit v):=Nat.testBit_or a b v
theorem tR {n:Nat}(h:n<64)(v:Nat):(S.aL n).testBit v=decide (n=v):=by rw[G6 h,Nat.testBit_two_pow]
section
variable {p:List Nat}
def Par (p:List Nat)(v:Nat):Nat:=p[v]?.getD 0
def Cl (p:List Nat)(s:Nat):Prop:=∀v,v<p.length->s.testBit v=true->Sub (Par p v) s
theorem vz {s t:Nat}(hc:Cl p t)(h:Sub s t):∀j,j<=p.length->Sub (S.aQ p s j) t
 | 0,_=>h
 | j+1,hj=>by
  have ih:=vz hc h j (by omega)
  rw[iF]
  split
  ·rename_i hb
   rw[qb] at hb
   intro v hv
   rw[mU,Bool.or_eq_true] at hv
   rcases hv with hv | hv
   ·exact ih v hv
   ·exact hc j (by omega) (ih j hb) v hv
  ·exact ih
theorem zS {s t:Nat}(hc:Cl p t)(h:Sub s t):∀j,Sub (S.up p s j) t
 | 0=>h
 | j+1=>by rw[lH];exact vz hc (zS hc h j) _ (Nat.le_refl _)
def CB (p:List Nat)(s:Nat):Prop:=Cl p s/\∀v,v<p.length->s.testBit v=true->(S.up p (Par p v) p.length).testBit v=false
theorem pW:S.a8 p=true↔∀v,v<p.length->(S.up p (Par p v) p.length).testBit v=false:=by
 unfold S.a8
 rw[List.all_eq_true]
 constructor
 ·intro h v hv
  have:=h v (List.mem_range.2 hv)
  rw[qb] at this
  simpa [Par] using this
 ·intro h v hv
  have:=h v (List.mem_range.1 hv)
  rw[qb]
  simpa [Par] using this
def bct (s:Nat):Nat->Nat
 | 0=>0
 | n+1=>bct s n+(if s.testBit n then 1 else 0)
theorem zh (s:Nat):∀n,bct s n<=n
 | 0=>Nat.le_refl _
 | n+1=>by have:=zh s n;unfold bct;split<;>omega
theorem yi {a s:Nat}(h:Sub a s):∀n,bct a n<=bct s n
 | 0=>Nat.le_refl _
 | n+1=>by
  have:=yi h n
  unfold bct
  split
  ·rename_i hb;rw[if_pos (h n hb)];omega
  ·split<;>omega
theorem DT {a s:Nat}(h:Sub a s){v:Nat}(hv:s.testBit v=true)(ha:a.testBit v=false):∀n,v<n->bct a n<bct s n
 | 0,h0=>by omega
 | n+1,hn=>by
  unfold bct
  by_cases hvn:v=n
  ·subst hvn
   have:=yi h v
   rw[if_pos hv,ha];simp;omega
  ·have:=DT h hv ha n (by omega)
   split
   ·rename_i hb;rw[if_pos (h n hb)];omega
   ·split<;>omega
theorem xI {s:Nat}:∀n,bct s n=n->∀v,v<n->s.testBit v=true
 | 0,_,v,h=>by omega
 | n+1,h,v,hv=>by
  unfold bct at h
  have:=zh s n
  split at h
  ·rename_i hb
   by_cases e:v=n
   ·subst e;exact hb
   ·exact xI n (by omega) v (by omega)
  ·omega
theorem pI {a s:Nat}(h:Sub a s)(h':Sub s a):a=s:=Nat.eq_of_testBit_eq fun v=>by
 cases ha:a.testBit v
 ·cases hs:s.testBit v
  ·rfl
  ·rw[h' v hs] at ha;cases ha
 ·rw[h v ha]
theorem G_ {a s:Nat}(h:Sub a s):a<=s:=by
 have:a ||| s=s:=Nat.eq_of_testBit_eq fun v=>by
  rw[mU]
  cases ha:a.testBit v
  ·simp
  ·rw[h v ha];rfl
 rw[<-this];exact Nat.left_le_or
theorem lP (s:Nat):∀j,Sub s (S.aQ p s j)
 | 0=>fun _ h=>h
 | j+1=>by
  have ih:=lP s j
  rw[iF]
  split
  ·intro v hv;rw[mU,ih v hv];rfl
  ·exact ih
theorem y8 {s:Nat}{j k:Nat}(h:j<=k):Sub (S.aQ p s j) (S.aQ p s k):=by
 induction h with
 | refl=>exact fun _ h=>h
 | step _ ih =>
  rw[iF]
  split
  ·intro v hv;rw[mU,ih v hv];rfl
  ·exact ih
theorem Bo {s:Nat}(h:S.aQ p s p.length=s):Cl p s:=by
 intro v hv hb u hu
 have h1:(S.aQ p s v).testBit v=true:=lP s v v hb
 have h2:(S.aQ p s (v+1)).testBit u=true:=by
  rw[iF,qb,h1,if_pos rfl,mU]
  have:(p[v]?.getD 0).testBit u=true:=hu
  rw[this];simp
 have:=y8 (p:=p) (s:=s) (show v+1<=p.length by omega) u h2
 rwa [h] at this
theorem Du {s n v:Nat}(h:s<2 ^ n)(hv:s.testBit v=true):v<n:=by
 rcases Nat.lt_or_ge v n with h1 | h1
 ·exact h1
 ·rw[Nat.testBit_lt_two_pow (Nat.lt_of_lt_of_le h (Nat.pow_le_pow_right (by decide) h1))] at hv;cases hv
theorem HX {f:Nat->Nat}{n:Nat}(hm:∀j,Sub (f j) (f (j+1)))(hb:∀j,f j<2 ^ n)(hs:∀j,f (j+1)=f j->f (j+2)=f (j+1)):f (n+1)=f n:=by
 have key:∀j,j<=bct (f j) n\/f (j+1)=f j:=by
  intro j
  induction j with
  | zero=>exact .inl (Nat.zero_le _)
  | succ j ih =>
   rcases ih with ih | ih
   ·by_cases e:f (j+1)=f j
    ·exact .inr (hs j e)
    ·left
     have:∃v,(f (j+1)).testBit v=true/\(f j).testBit v=false:=by
      apply Classical.byContradiction
      intro hno
      apply e
      refine pI (fun v hv=>?_) (hm j)
      cases hc:(f j).testBit v
      ·exact absurd ⟨v,hv,hc⟩ hno
      ·rfl
     obtain ⟨v,h1,h2⟩:=this
     have:=DT (hm j) h1 h2 n (Du (hb _) h1)
     omega
   ·exact .inr (hs j ih)
 rcases key n with h | h
 ·have hc:bct (f n) n=n:=by have:=zh (f n) n;omega
  refine pI (fun v hv=>?_) (hm n)
  exact xI n hc v (Du (hb _) hv)
 ·exact h
theorem HG {a b n:Nat}(h:a<2 ^ n)(h':b<2 ^ n):a ||| b<2 ^ n:=Nat.or_lt_two_pow h h'
theorem zE {v:Nat}(hp:∀x∈p,x<2 ^ p.length):Par p v<2 ^ p.length:=by
 unfold Par
 cases h:p[v]? with
 | none=>exact Nat.pow_pos (by decide)
 | some x=>exact hp x (List.mem_of_getElem? h)
theorem uy (hp:∀x∈p,x<2 ^ p.length){s:Nat}(hs:s<2 ^ p.length):∀j,S.aQ p s j<2 ^ p.length
 | 0=>hs
 | j+1=>by
  have ih:=uy hp hs j
  rw[iF]
  split
  ·exact HG ih (zE hp)
  ·exact ih
theorem DX (hp:∀x∈p,x<2 ^ p.length){s:Nat}(hs:s<2 ^ p.length):∀j,S.up p s j<2 ^ p.length
 | 0=>hs
 | j+1=>by rw[lH];exact uy hp (DX hp hs j) _
theorem Bz (hp:∀x∈p,x<2 ^ p.length){s:Nat}(hs:s<2 ^ p.length):Cl p (S.up p s p.length):=by
 apply Bo
 rw[<-lH]
 exact HX (f:=fun j=>S.up p s j) (fun j=>by rw[lH];exact lP _ _) (fun j=>DX hp hs j) (fun j e=>by
  have e:S.up p s (j+1)=S.up p s j:=e
  show S.up p s (j+1+1)=S.up p s (j+1)
  rw[lH,e,<-lH,e])
theorem rL {s:Nat}:∀j,Sub s (S.up p s j)
 | 0=>fun _ h=>h
 | j+1=>fun v hv=>by rw[lH];exact lP _ _ v (rL j v hv)
end
end Hx
end
section
namespace Hx
open Go
noncomputable section
theorem kX {a b:List Nat}(h:∀i∈a,∀j∈b,i≠j):meets a b=false:=by
 simp only[meets,List.any_eq_false]
 intro i hi hc
 exact h i hi i (List.contains_iff_mem.1 hc) rfl
theorem eA {x y:Foot}(hb:x.lk.big=false)(hb2:y.lk.big=false)(hs:x.lk.sr=[])(hs2:y.lk.sr=[])(h1:∀i∈x.wr,∀j∈y.wr,i≠j)(h2:∀i∈x.wr,∀j∈y.lk.rd,i≠j)(h3:∀i∈y.wr,∀j∈x.lk.rd,i≠j) :
  cy x y=true:=by
 have m1:=kX h1
 have m2:=kX h2
 have m3:=kX h3
 have m4:meets y.wr x.wr=false:=kX fun i hi j hj e=>h1 j hj i hi e.symm
 have m5:∀l:List Nat,meets l []=false:=fun l=>by simp[meets]
 simp only[cy,iJ,gq,hb,hb2,hs,hs2,m1,m2,m3,m4,m5,fst1,List.map_nil,Bool.not_false,Bool.and_self,Bool.true_or]
 split<;>split<;>rfl
theorem kw {g:G}{b sz bytes:Nat}{zero:List AV}{k1 k2:IntKind}{n:Nat}{K:AV->G->Prop}{D:ADf->Prop}(hn:n<=bg)(hb:n*bytes<=bg)(hg:b<=g.nx)
  (k:∀v' g',Own g' b v' sz (List.replicate n zero)->g'.nx=g.nx+1->(∀i,i<g.nx->g'.h.get i=g.h.get i)->vid v'=some g.nx->g'.lg=g.nx::g.lg->K v' g') :
  (B6 sz bytes zero (.int k1 (n:Int)) (.int k2 (n:Int)) g).sat K g D:=by
 show (match cR bg (.int k2 (.ofNat n)) with
  | some cn=>match cR cn (.int k1 (.ofNat n)) with
   | some ln=>an (Nat.ble (cn*bytes) bg) (OR.upd (.hsl g.nx 0 0 ln none) (g.new (.cells sz (fk cn zero) 0 false false))) .fail
   | none=>.fail
  | none=>.fail).sat K g D
 simp only[cR,aa,Nat.ble_eq,if_pos hn,Nat.le_refl,if_pos hb,if_true]
 refine k _ _ (.inr ⟨g.nx,0,false,hg,by simp,by simp,by simp[bf,fk]⟩) (by simp) (fun i hi=>?_) rfl (by simp)
 rw[G.new_h,aP _ _ _ (by omega)]
theorem Dl (n sz id ep i off:Nat)(k:IntKind){j:Nat}(h:j<n):Do n sz (.hptr id ep i off) (.int k (j:Int))=.val (.hptr id ep i (off+j*sz)):=by
 show an (Nat.blt j n) (OR.val (.hptr id ep i (off+j*sz))) .fail=_
 rw[aa,if_pos (by simpa using h)]
def u8v (x:UInt8):AV:=.int .u8 (x.toNat:Int)
theorem EU (l:List UInt8)(h:H)(d:Nat):snap h d aD (.agg (l.map u8v))=some (.agg (l.map u8v)):=by
 have:∀l:List UInt8,aB (Hx.snap h d 23) (l.map u8v)=some (l.map u8v):=fun l=>by
  induction l with
  | nil=>rfl
  | cons x l ih =>
   simp only[List.map_cons,aB,ih,show Hx.snap h d 23 (u8v x)=some (u8v x) from rfl]
 show (match aB (Hx.snap h d 23) (l.map u8v) with | some ys=>some (AV.agg ys) | none=>none)=_
 rw[this]
abbrev zM:Type:=List UInt8×UInt16×List UInt8
def S.a_ (us:List UInt8):List Int:=(us.take 5).map fun u=>1+(u.toNat:Int) % 4
theorem C3 {P:Nat->Prop}{k:Nat}{h:H}{x:UInt16}{cs:List AV}:Rp.rp P k h x cs↔cs=[.int .u16 (x.toNat:Int)]:=by simp[Rp.rp]
theorem nL {P:Nat->Prop}{k:Nat}{h:H}{x:zM}{cs:List AV}:Rp.rp P k h x cs↔∃a b,cs=[a,.int .u16 (x.2.1.toNat:Int),b]/\SlR P k h x.1 a/\SlR P k h x.2.2 b:=by
 constructor
 ·rintro ⟨c1,c2,rfl,⟨a,rfl,h1⟩,c3,c4,rfl,h2,⟨b,rfl,h3⟩⟩
  rw[C3.1 h2];exact ⟨a,b,rfl,h1,h3⟩
 ·rintro ⟨a,b,rfl,h1,h2⟩
  exact ⟨[a],[_,b],rfl,⟨a,rfl,h1⟩,[_],[b],rfl,C3.2 rfl,⟨b,rfl,h2⟩⟩
theorem B0 {d k:Nat}{g:G}{P:Nat->Prop}{v:AV}{x:zM}(hd:0<d)(hm:Agg x P k g.h v) :
  ∃r,am C0 d N.aT [v] g=.val r/\IT 0 (S.a_ x.1) r:=by
 obtain ⟨v',e,cs,rfl,hc⟩:=mS (cT x) (by decide) d hm
 obtain ⟨a,b,rfl,hA,hB⟩:=nL.1 hc
 obtain ⟨rows,r1,r2,r3,r4⟩:=hA.all
 have r1:∀h',ae h' 1 a=some rows:=r1
 rw[lB]
 refine aX m8 (xs:=[.agg [a,.int .u16 (x.2.1.toNat:Int),b]]) (by simp only[aB,e]) (by simp[d8]) (aM _) (by decide) hd ?_
 have hL:(S.a_ x.1).length=min x.1.length 5:=by simp[S.a_];omega
 simp only[sz,simprocAttr,d8,gi]
 refine fJ (min x.1.length 5) (by omega) (fun j t df g=>df=[]/\tat t 1=.hptr 0 0 0 0/\g.h.get 0=.cells 3 [[a,.int .u16 (x.2.1.toNat:Int),b]] 0 false false/\1<=g.nx/\∃u,tat t 3=u/\Own g 1 u 1 (((S.a_ x.1).take j).map ci))
  ⟨rfl,by simp[sx],by simp[sx],by simp[sx],_,rfl,.inl ⟨by simp[sx],rfl⟩⟩ (by simp[sx]) (by decide)
  (by rintro j t df g v s (rfl | rfl | rfl)<;>simp[sx]) ?_ ?_ ?_
 ·rintro j t df g hj ⟨rfl,h1,hg,hnx,u,h3,hu⟩ h4
  by_cases hlt:(j:Int)<(x.1.length:Int)
  ·have:decide ((j:Int)<((min x.1.length 5:Nat):Int))=decide ((j:Int)<5):=by congr 1;apply propext;omega
   simp only[sz,simprocAttr,h1,h4,hg,hA.len,hlt,this]
   exact ⟨hnx,u,h3,hu⟩
  ·have:decide ((j:Int)<((min x.1.length 5:Nat):Int))=false:=decide_eq_false (by omega)
   simp only[sz,simprocAttr,h1,h4,hg,hA.len,hlt,this]
   exact ⟨hnx,u,h3,hu⟩
 ·rintro j t df g hj ⟨rfl,h1,hg,hnx,u,h3,hu⟩ h4
  obtain ⟨y,hy,-,-⟩:=au (l:=x.1) (j:=j) (by omega)
  obtain ⟨z,hz,htk,-⟩:=au (l:=S.a_ x.1) (j:=j) (by omega)
  have hzy:z=1+(y.toNat:Int) % 4:=by
   have:(S.a_ x.1)[j]?=some (1+(y.toNat:Int) % 4):=by simp[S.a_,show j<5 by omega,hy]
   rw[this] at hz;injection hz with hz;exact hz.symm
  obtain ⟨row,z1,z2⟩:=r3 j y hy
  rw[fe.1 z2] at z1
  have hlt:j<rows.length:=by omega
  have hy8:y.toNat<256:=y.toNat_lt
  have m1:0<=(y.toNat:Int) % 4:=by omega
  have m2:(y.toNat:Int) % 4<4:=by omega
  simp only[sz,simprocAttr,h1,h3,h4,hg,r1,hlt,z1,ji .u8 (show (0:Int)<=(y.toNat:Int) by omega) (show (0:Int)<4 by decide),aE (show -9223372036854775808<=(y.toNat:Int) % 4 by omega) (show (y.toNat:Int) % 4<9223372036854775808 by omega),aE (show -9223372036854775808<=1+(y.toNat:Int) % 4 by omega) (show 1+(y.toNat:Int) % 4<9223372036854775808 by omega)]
  refine dw (new:=[ci (1+(y.toNat:Int) % 4)]) (hu.step (Fr.new _ _)) (by simp[sx,sy,ci]) (by simp) (by simp[bg];omega) fun v2 g2 hv2 n2 f2 _ l2=>?_
  simp only[sz,simprocAttr,h1,h4]
  refine ⟨?_,?_,_,rfl,?_⟩
  ·rw[f2 0 (by simp) (fun e=>by have:=(hu.lt e).1;omega),G.new_h,aP _ _ _ (by omega),hg]
  ·simp at n2;omega
  ·rw[htk,hzy]
   simpa [ci] using hv2
 ·rintro t df g ⟨rfl,h1,hg,hnx,u,h3,hu⟩
  rw[List.take_of_length_le (by omega)] at hu
  simp only[sz,simprocAttr,fy,h3]
  exact ⟨_,hu.ints (by omega)⟩
theorem zG {g:G}{b sz:Nat}{u:AV}{rows:List (List AV)}(hu:Own g b u sz rows){n:Nat}(hn:n<=rows.length) :
  ∃y,CI sz u none (some (.int .i64 (n:Int))) g=.val y/\ae g.h sz y=some (rows.take n):=by
 rcases hu with ⟨rfl,rfl⟩ | ⟨id,ep,lo,h1,h2,rfl,h3⟩
 ·have:n=0:=by simpa using hn
  subst this
  exact ⟨.nils,rfl,rfl⟩
 ·simp only[CI,kY,h3,Nat.beq_refl,Nat.beq_refl,Bool.true_and,ap,Nat.zero_add,aa,Nat.ble_eq,Nat.le_refl,if_true,a8,Option.getD_none,Nat.sub_zero]
  simp only[cR]
  rw[show an (n.ble rows.length) (some n) none=some n from by rw[aa,if_pos (by simpa using hn)]]
  dsimp only
  by_cases h0:rows=[]
  ·subst h0
   have:n=0:=by simpa using hn
   subst this
   cases lo
   ·exact ⟨_,rfl,rfl⟩
   ·exact ⟨_,rfl,k_ _ _ _ _⟩
  ·have hb:rows.length.beq 0=false:=by cases rows with | nil=>exact absurd rfl h0 | cons a l=>rfl
   rw[hb]
   refine ⟨_,rfl,?_⟩
   rw[gv,h3,dg,if_pos (by omega),List.drop_zero]
theorem zJ {g:G}{b sz:Nat}{u:AV}{rows:List (List AV)}(hu:Own g b u sz rows){n:Nat}(hn:n<=rows.length) :
  ∃y,CI sz u (some (.int .i64 (n:Int))) none g=.val y/\ae g.h sz y=some (rows.drop n):=by
 rcases hu with ⟨rfl,rfl⟩ | ⟨id,ep,lo,h1,h2,rfl,h3⟩
 ·have:n=0:=by simpa using hn
  subst this
  exact ⟨.nils,rfl,rfl⟩
 ·simp only[CI,kY,h3,Nat.beq_refl,Nat.beq_refl,Bool.true_and,ap,Nat.zero_add,aa,Nat.ble_eq,Nat.le_refl,if_true,a8,Option.getD_none,Nat.sub_zero]
  simp only[cR]
  rw[show an (n.ble rows.length) (some n) none=some n from by rw[aa,if_pos (by simpa using hn)]]
  dsimp only
  by_cases h0:rows.length=n
  ·subst h0
   rw[if_pos (Nat.beq_refl _),List.drop_length]
   cases lo
   ·exact ⟨_,rfl,rfl⟩
   ·exact ⟨_,rfl,k_ _ _ _ _⟩
  ·rw[if_neg (fun e=>h0 (Nat.eq_of_beq_eq_true e))]
   refine ⟨_,rfl,?_⟩
   rw[gv,h3,dg,if_pos (by omega),List.take_of_length_le (by simp)]
def S.aZ (os:List UInt8)(k:Nat):Nat:=if k<os.length then ((os[k]?.map UInt8.toNat).getD 0) % (k+1) else 0
def S.aA (os:List UInt8):Nat->List Int
 | 0=>[]
 | k+1=>(S.aA os k).take (S.aZ os k)++(k:Int)::(S.aA os k).drop (S.aZ os k)
theorem jY (os:List UInt8):∀k,(S.aA os k).length=k
 | 0=>rfl
 | k+1=>by simp only[S.aA,List.length_append,List.length_cons,List.length_take,List.length_drop,jY os k];omega
theorem tz {d k:Nat}{g:G}{P:Nat->Prop}{v:AV}{x:zM}(hd:0<d)(hm:Agg x P k g.h v) :
  ∃r,am C0 d N.aw [v] g=.val r/\IT 0 (S.aA x.2.2 (min x.1.length 5)) r:=by
 obtain ⟨v',e,cs,rfl,hc⟩:=mS (cT x) (by decide) d hm
 obtain ⟨a,b,rfl,hA,hB⟩:=nL.1 hc
 have hms:∀g:G,Agg x NoP (max k d) g.h (.agg [a,.int .u16 (x.2.1.toNat:Int),b]):=fun g=>⟨_,rfl,nL.2 ⟨a,b,rfl,hA.tree (Nat.le_refl _),hB.tree (Nat.le_refl _)⟩⟩
 obtain ⟨rows,r1,r2,r3,r4⟩:=hB.all
 have r1:∀h',ae h' 1 b=some rows:=r1
 rw[gW]
 refine aX je (xs:=[.agg [a,.int .u16 (x.2.1.toNat:Int),b]]) (by simp only[aB,e]) (by simp[bZ]) (aM _) (by decide) hd ?_
 have hL:(S.a_ x.1).length=min x.1.length 5:=by simp[S.a_];omega
 simp only[sz,simprocAttr,bZ,dm]
 refine fJ (min x.1.length 5) (by omega) (fun j t df g=>df=[]/\tat t 1=.hptr 0 0 0 0/\g.h.get 0=.cells 3 [[a,.int .u16 (x.2.1.toNat:Int),b]] 0 false false/\1<=g.nx/\∃u,tat t 3=u/\Own g 1 u 1 ((S.aA x.2.2 j).map ci))
  ⟨rfl,by simp[sx],by simp[sx],by simp[sx],_,rfl,.inl ⟨by simp[sx],rfl⟩⟩ (by simp[sx]) (by decide)
  (by rintro j t df g v s (rfl | rfl | rfl)<;>simp[sx]) ?_ ?_ ?_
 ·rintro j t df g hj ⟨rfl,h1,hg,hnx,u,h3,hu⟩ h4
  simp only[sz,simprocAttr,h1,h4,hg]
  refine fF (B0 (Nat.succ_pos d) (hms _)) fun r hr=>?_
  simp only[sz,simprocAttr,h1,h4,hg,(hr.sl .nil).len,hL]
  exact ⟨hnx,u,h3,hu⟩
 ·rintro j t df g hj ⟨rfl,h1,hg,hnx,u,h3,hu⟩ h4
  have hpl:((S.aA x.2.2 j).map ci).length=j:=by rw[List.length_map,jY]
  have hle:S.aZ x.2.2 j<=j:=by
   unfold S.aZ;split
   ·have:=Nat.mod_lt (((x.2.2)[j]?.map UInt8.toNat).getD 0) (show 0<j+1 by omega);omega
   ·omega
  have key:∀(t:T) (Q:QT),tat t 1=.hptr 0 0 0 0->tat t 3=u->tat t 4=.int .i64 (j:Int)->tat t 5=.int .i64 (S.aZ x.2.2 j:Int) ->
    (∀(t':T) (g':G),tat t' 1=.hptr 0 0 0 0->tat t' 4=.int .i64 (j:Int)->g'.h.get 0=.cells 3 [[a,.int .u16 (x.2.1.toNat:Int),b]] 0 false false->1<=g'.nx->(∃u,tat t' 3=u/\Own g' 1 u 1 ((S.aA x.2.2 (j+1)).map ci))->Q .norm t' [] g') ->
    wp C0 (d+1) none bE Q t [] g:=by
   intro t Q h1 h3 h4 h5 kk
   obtain ⟨y1,s1,w1⟩:=zG hu (n:=S.aZ x.2.2 j) (by omega)
   simp only[sz,simprocAttr,bE,h3,h5,List.head?_nil,List.head?_cons,s1]
   refine dw (rows:=[]) (b:=1) (.inl ⟨rfl,rfl⟩) w1 hnx (by simp[bg];omega) fun v1 g1 hv1 n1 f1 vid1 _=>?_
   simp only[sz,simprocAttr,h4]
   refine dw (new:=[ci (j:Int)]) (hv1.step (Fr.new _ _)) (by simp[sx,sy,ci]) (by simp) (by simp[bg,jY];omega) fun v2 g2 hv2 n2 f2 vid2 _=>?_
   have hu1:Own g1 1 u 1 ((S.aA x.2.2 j).map ci):=hu.fr n1 fun i hi=>f1 i (hu.lt hi).2 (by simp[vid])
   have hnv:∀i,i<g.nx->vid v1≠some i:=fun i hi e=>by
    rcases vid1 with h | ⟨i',h,hi'⟩
    ·rw[h] at e;cases e
    ·rw[h] at e;injection e with e;omega
   have hu2:Own g2 1 u 1 ((S.aA x.2.2 j).map ci):=hu1.fr (by simp at n2;omega) fun i hi=>by
    have hlt:=(hu.lt hi).2
    rw[f2 i (by simp;omega) (hnv i hlt),G.new_h,aP _ _ _ (by omega)]
   obtain ⟨y2,s2,w2⟩:=zJ hu2 (n:=S.aZ x.2.2 j) (by omega)
   simp only[sz,simprocAttr,h3,h5,List.head?_nil,List.head?_cons,s2]
   refine dw hv2 w2 (by simp at n2;omega) (by simp[bg,jY];omega) fun v3 g3 hv3 n3 f3 _ _=>?_
   simp only[sz,simprocAttr]
   refine kk _ _ (by simp[sx,h1]) (by simp[sx,h4]) ?_ (by simp at n2;omega) ⟨_,rfl,?_⟩
   ·rw[f3 0 (by simp at n2;omega) (fun e=>by have:=(hv2.lt e).1;omega),f2 0 (by simp) (hnv 0 (by omega)),G.new_h,aP _ _ _ (by omega),f1 0 (by omega) (by simp[vid]),hg]
   ·simp only[sx,↓reduceIte]
    simpa [S.aA,List.map_take,List.map_drop] using hv3
  simp only[sz,simprocAttr,h1,h4,hg,hB.len]
  refine dX (fun hb=>?_) (fun hb=>?_)
  ·have hjo:j<x.2.2.length:=by simp at hb;omega
   obtain ⟨y,hy⟩:∃y,x.2.2[j]?=some y:=⟨_,List.getElem?_eq_getElem hjo⟩
   obtain ⟨row,z1,z2⟩:=r3 j y hy
   rw[fe.1 z2] at z1
   have hy8:y.toNat<256:=y.toNat_lt
   have hlt:j<rows.length:=by omega
   have hat:((S.aZ x.2.2 j:Nat):Int)=(y.toNat:Int) % ((j:Int)+1):=by
    unfold S.aZ;rw[if_pos hjo,hy];simp
   simp only[sz,simprocAttr,h1,h4,hg,r1,hlt,z1,aE (show -9223372036854775808<=(y.toNat:Int) by omega) (show (y.toNat:Int)<9223372036854775808 by omega),aE (show -9223372036854775808<=(j:Int)+1 by omega) (show (j:Int)+1<9223372036854775808 by omega),ji .i64 (show (0:Int)<=(y.toNat:Int) by omega) (show 0<(j:Int)+1 by omega)]
   refine key _ _ (by simp[sx,h1]) (by simp[sx,h3]) (by simp[sx,h4]) (by simp[sx,hat]) fun t' g' e1 e4 e0 en eu=>?_
   simp only[sy,e1,e4,e0]
   exact ⟨en,eu⟩
  ·have hat:S.aZ x.2.2 j=0:=by unfold S.aZ;rw[if_neg];simp at hb;omega
   simp only[sx]
   refine key _ _ (by simp[sx,h1]) (by simp[sx,h3]) (by simp[sx,h4]) (by simp[sx,hat]) fun t' g' e1 e4 e0 en eu=>?_
   simp only[sy,e1,e4,e0]
   exact ⟨en,eu⟩
 ·rintro t df g ⟨rfl,h1,hg,hnx,u,h3,hu⟩
  simp only[sz,simprocAttr,cY,h3]
  exact ⟨_,hu.ints (by rw[jY];omega)⟩
def S.bf (l:List Int)(h:Int):Int:=l.foldr (fun c q=>q / c) h
def S.aJ (l:List Int)(h:Int)(i:Nat):Int:=S.bf (l.drop (i+1)) h % l[i]?.getD 1
def S.ak (l:List Int)(h:Int):List Int:=(List.range l.length).map (S.aJ l h)
def S.af:List Int->List Int->Int
 | _::cs,v::vs=>v*S.aa cs+S.af cs vs
 | _,_=>0
def InC (cards vals:List Int):Prop:=All2 (fun c v=>(0:Int)<=v/\v<c) cards vals
theorem dQ:∀{cards vals:List Int},(∀c∈cards,1<=c/\c<=4)->InC cards vals->0<=S.af cards vals/\S.af cards vals<S.aa cards
 | [],[],_,_=>⟨Int.le_refl _,by decide⟩
 | c::cs,v::vs,hc,h=>by
  obtain ⟨a,b⟩:=dQ (cards:=cs) (vals:=vs) (fun x hx=>hc x (by simp[hx])) h.2
  obtain ⟨p1,-⟩:=bD (l:=cs) fun x hx=>hc x (by simp[hx])
  have hv:=h.1
  rw[bQ]
  show 0<=v*S.aa cs+S.af cs vs/\v*S.aa cs+S.af cs vs<c*S.aa cs
  have h1:0<=v*S.aa cs:=Int.mul_nonneg hv.1 (by omega)
  have h2:(v+1)*S.aa cs<=c*S.aa cs:=Int.mul_le_mul_of_nonneg_right (by omega) (by omega)
  rw[Int.add_mul,Int.one_mul] at h2
  omega
 | [],_::_,_,h=>h.elim
 | _::_,[],_,h=>h.elim
theorem InC.drop:∀{cards vals:List Int} (j:Nat),InC cards vals->InC (cards.drop j) (vals.drop j)
 | _,_,0,h=>h
 | [],[],j+1,_=>trivial
 | _::_,_::_,j+1,h=>InC.drop j h.2
 | [],_::_,_,h=>h.elim
 | _::_,[],_,h=>h.elim
theorem InC.len {cards vals:List Int}(h:InC cards vals):vals.length=cards.length:=(All2.len h).symm
theorem By {l:List Int}(hc:∀c∈l,1<=c/\c<=4)(hl:l.length<=13):S.aY l=S.aa l:=by
 have pw:∀n,n<=13->(4:Int) ^ n<=67108864:=fun n hn=>by
  have:=dc hn
  have e:(4:Int) ^ 13=67108864:=by decide
  omega
 have key:∀j,j<=l.length->S.aY (l.take j)=S.aa (l.take j):=by
  intro j
  induction j with
  | zero=>intro _;rfl
  | succ j ih =>
   intro hj
   obtain ⟨x,hx,htk,hm⟩:=au (l:=l) (j:=j) (by omega)
   have ih:=ih (by omega)
   have hb:=bD (l:=l.take (j+1)) fun y hy=>hc y (List.mem_of_mem_take hy)
   have:=pw (l.take (j+1)).length (by simp;omega)
   rw[htk] at hb this ⊢
   rw[nO] at hb ⊢
   show S.aY (l.take j++[x])=_
   unfold S.aY at ih ⊢
   rw[List.foldl_append,ih]
   show IntKind.wrap .i64 (S.aa (l.take j)*x)=_
   rw[aE (by omega) (by omega)]
 have:=key l.length (Nat.le_refl _)
 rwa [List.take_length] at this
end
end Hx
end
section
namespace Hx
open Go
theorem wj {cards vals:List Int}(hl:cards.length=vals.length)(h:∀(i:Nat) c v,cards[i]?=some c->vals[i]?=some v->0<=v/\v<c):InC cards vals:=by
 induction cards generalizing vals with
 | nil=>cases vals with
  | nil=>trivial
  | cons v vals=>simp at hl
 | cons c cards ih=>cases vals with
  | nil=>simp at hl
  | cons v vals=>exact ⟨h 0 c v rfl rfl,ih (by simpa using hl) fun i c' v' h1 h2=>h (i+1) c' v' (by simpa using h1) (by simpa using h2)⟩
theorem InC.get {cards vals:List Int}(h:InC cards vals){i:Nat}{c:Int}(hc:cards[i]?=some c):∃v,vals[i]?=some v/\0<=v/\v<c:=All2.get h hc
end Hx
end
section
namespace Hx
open Go
noncomputable section
def hz (cs vs:List Int)(j:Nat):Int:=((cs.zip vs).take j).foldl (fun a p=>a*p.1+p.2) 0
section
variable {d k:Nat}{m:Causal}{roots act:List Int}{V:Nat->Int}{a b w u:AV}{p1 p2 p3 p4 iu:Nat}{hid:Int}{r:Nat->Nat}
end
end
end Hx
end
section
namespace Hx
open Go
noncomputable section
theorem dN (ag:Bool)(n l sz off:Nat)(row:List AV)(g:G):mc ag n (.tptr l sz [row] 0 off) g=orV (bo ag n row off):=rfl
section
variable {d:Nat}{m:Causal}{a b:AV}
end
end
end Hx
end
section
namespace Hx
open Go
noncomputable section
theorem gm {C:Cfg}{d:Nat}{r:List SR}{t:T}{g:G}{K:AV->G->Prop}{id:Nat}(hg:g.h.get id=.dfr true)(h:qv r t (g.put id (.dfr false)) fun vs=>K (fI vs) (g.put id (.dfr false))):ut C d r t [.mark id] g K:=by
 unfold ut
 have:dt (I C) d [.mark id] g=some (g.put id (.dfr false)):=by
  simp only[dt,G.get_eq,hg]
 rw[this];exact h
def Fam (g:G)(b K:Nat)(V:Nat->AV)(W:Nat->List (List AV)):Prop :=
 (∀k,k<K->Own g b (V k) 1 (W k))/\∀k l,k<K->l<K->k≠l->∀id,vid (V k)=some id->vid (V l)≠some id
def H3 (c:Nat->Int)(V:Nat->AV)(i:Nat):List AV:=[.int .i64 (c i),V (3*i+1),V (3*i+2),V (3*i+3)]
def Et (n:Nat)(c:Nat->Int)(V:Nat->AV):List (List AV):=(List.range n).map (H3 c V)
structure ME where
 (n p4 q i5 p7 i9 b:Nat)
 (nv w5 w9 e7:AV)
 (gr:Int)
 (row0:List AV)
 (prow:List (List AV))
 (us:List UInt8)
structure ME.Ok (e:ME):Prop where
 ord:1<e.q/\e.q<e.p4/\e.p4<e.i5/\e.i5<e.p7/\e.p7<e.i9/\e.i9<e.b
 n1:1<=e.n/\e.n<=4
 g1:2<=e.gr/\e.gr<=12
 vn:vid e.nv=some e.q
 v5:vid e.w5=some e.i5
 v9:vid e.w9=some e.i9
 l7:SlR NoP 0 .nil e.us e.e7
structure MI (e:ME) (g:G) (V:Nat->AV) (W:Nat->List (List AV)) (c:Nat->Int) (ow:List Bool) (cap:Nat):Prop where
 h0:g.h.get 0=.cells 5 [e.row0] 0 false false
 h1:g.h.get 1=.cells 3 [[.int .i64 0,.nils,.nils]] 0 false false
 hN:Own g 0 e.nv 4 (Et e.n c V)
 h4:g.h.get e.p4=.cells 3 [[.int .i64 e.gr,V 0,e.nv]] 0 false false
 h5:Own g 0 e.w5 4 e.prow
 h7:∃cc:Int,0<=cc/\cc<=(cap:Int)/\g.h.get e.p7=.cells 2 [[e.e7,.int .i64 cc]] 0 false false
 h9:Own g 0 e.w9 1 (ow.map fun x=>[.bool x])
 fam:Fam g e.b (3*e.n+1) V W
 nx:e.b<=g.nx
section
variable {e:ME}{g g':G}{V:Nat->AV}{W:Nat->List (List AV)}{c:Nat->Int}{ow:List Bool}{cap:Nat}
theorem co {v:AV}{i j:Nat}(h:vid v=some i)(h':vid v=some j):i=j:=by rw[h] at h';injection h'
structure MP (e:ME) (g:G) (V V':Nat->AV) (W:Nat->List (List AV)) (c:Nat->Int) (ow:List Bool) (cap:Nat):Prop where
 h0:g.h.get 0=.cells 5 [e.row0] 0 false false
 h1:g.h.get 1=.cells 3 [[.int .i64 0,.nils,.nils]] 0 false false
 hN:Own g 0 e.nv 4 (Et e.n c V)
 h4:g.h.get e.p4=.cells 3 [[.int .i64 e.gr,V 0,e.nv]] 0 false false
 h5:Own g 0 e.w5 4 e.prow
 h7:∃cc:Int,0<=cc/\cc<=(cap:Int)/\g.h.get e.p7=.cells 2 [[e.e7,.int .i64 cc]] 0 false false
 h9:Own g 0 e.w9 1 (ow.map fun x=>[.bool x])
 fam:Fam g e.b (3*e.n+1) V' W
 nx:e.b<=g.nx
end
end
end Hx
end
section
namespace Hx
open Go
noncomputable section
structure MD (e:ME) (W:Nat->List (List AV)) (R:List (List Int)) (F N O:Nat->List Int):Prop where
 r:All2 (Rp.rp NoP 0 .nil) R (W 0)
 f:∀i,i<e.n->W (3*i+1)=(F i).map ci
 n:∀i,i<e.n->W (3*i+2)=(N i).map ci
 o:∀i,i<e.n->W (3*i+3)=(O i).map ci
theorem qw {α β γ:Type}{R:β->γ->Prop}{f:α->β}{h:α->γ}:∀{l:List α},(∀x∈l,R (f x) (h x))->All2 R (l.map f) (l.map h)
 | [],_=>trivial
 | a::l,hl=>⟨hl a (by simp),qw fun x hx=>hl x (by simp[hx])⟩
theorem SlR.wide {α:Type} [Rp α]{P:Nat->Prop}{k k':Nat}{h h':H}{l:List α}{v:AV}(r:SlR NoP k h l v)(hk:k<=k'):SlR P k' h' l v:=by
 obtain ⟨w,hw,q⟩:=Rp.tree (P:=P) (k':=k') (h':=h') (show Rp.rp NoP k h l [v] from ⟨v,rfl,r⟩) hk
 injection hw with hw;subst hw;exact q
structure M0 (n p4 q i5 p7:Nat) (nv w5 cl:AV) (row0:List AV) (prow:List (List AV)) (gr:Int) (g:G) (cf:Nat->Int):Prop where
 h0:g.h.get 0=.cells 5 [row0] 0 false false
 h1:g.h.get 1=.cells 3 [[.int .i64 0,.nils,.nils]] 0 false false
 hN:Own g 2 nv 4 (Et n cf fun _=>.nils)
 h4:g.h.get p4=.cells 3 [[.int .i64 gr,.nils,nv]] 0 false false
 h5:Own g 2 w5 4 prow
 h7:g.h.get p7=.cells 2 [[cl,.int .i64 0]] 0 false false
 nx:p7<g.nx
section
variable {n p4 q i5 p7:Nat}{nv w5 cl:AV}{row0:List AV}{prow:List (List AV)}{gr:Int}{g g':G}{cf cf':Nat->Int}
end
end
end Hx
end
section
namespace Hx
open Go
noncomputable section
def eid:AV->Option Nat
 | .hsl id _ _ _ _=>some id
 | .hptr id _ _ _=>some id
 | _=>none
def Bx (g:G)(b:Nat)(v:AV)(row:List AV):Prop:=∃id,b<=id/\id<g.nx/\v=.hptr id 0 0 0/\g.h.get id=.cells row.length [row] 0 false false
inductive En where
 | sl (sz:Nat) (rows:List (List AV))
 | bx (row:List AV)
def En.ok (g:G)(b:Nat)(v:AV):En->Prop
 | .sl sz rows=>Own g b v sz rows
 | .bx row=>Bx g b v row
theorem fB {g:G}{b:Nat}{v:AV}{sz:Nat}{rows:List (List AV)}(h:Own g b v sz rows):eid v=vid v:=by
 rcases h with ⟨rfl,-⟩ | ⟨id,ep,lo,h1,h2,rfl,h3⟩<;>rfl
theorem En.lt {g:G}{b:Nat}{v:AV}{e:En}(h:e.ok g b v){i:Nat}(hi:eid v=some i):b<=i/\i<g.nx:=by
 cases e with
 | sl sz rows =>
  have h:Own g b v sz rows:=h
  rw[fB h] at hi;exact h.lt hi
 | bx row =>
  obtain ⟨id,h1,h2,rfl,h3⟩:=h
  injection hi with hi;subst hi;exact ⟨h1,h2⟩
theorem En.fr {g g':G}{b:Nat}{v:AV}{e:En}(h:e.ok g b v)(hn:g.nx<=g'.nx)(hf:∀i,eid v=some i->g'.h.get i=g.h.get i):e.ok g' b v:=by
 cases e with
 | sl sz rows =>
  have h:Own g b v sz rows:=h
  exact h.fr hn fun i hi=>hf i (by rw[fB h];exact hi)
 | bx row =>
  obtain ⟨id,h1,h2,rfl,h3⟩:=h
  exact ⟨id,h1,by omega,rfl,by rw[hf id rfl,h3]⟩
section
variable {κ:Type}
structure Hp (g:G) (b:Nat) (L:κ->Prop) (V:κ->AV) (E:κ->En):Prop where
 ok:∀k,L k->(E k).ok g b (V k)
 sep:∀k l,L k->L l->k≠l->∀id,eid (V k)=some id->eid (V l)≠some id
 nx:b<=g.nx
variable {g g':G}{b:Nat}{L L':κ->Prop}{V:κ->AV}{E:κ->En}{k:κ}
theorem Hp.sub (h:Hp g b L V E)(hl:∀k,L' k->L k):Hp g b L' V E:=⟨fun k hk=>h.ok k (hl k hk),fun k l hk hl2=>h.sep k l (hl k hk) (hl l hl2),h.nx⟩
theorem Hp.step (h:Hp g b L V E)(hn:g.nx<=g'.nx)(hf:∀i,b<=i->i<g.nx->g'.h.get i=g.h.get i):Hp g' b L V E :=
 ⟨fun k hk=>En.fr (h.ok k hk) hn fun i hi=>hf i (En.lt (h.ok k hk) hi).1 (En.lt (h.ok k hk) hi).2,h.sep,Nat.le_trans h.nx hn⟩
theorem Hp.same (h:Hp g b L V E)(hf:g'.h=g.h)(hn:g.nx<=g'.nx):Hp g' b L V E:=h.step hn fun i _ _=>by rw[hf]
theorem Hp.own (h:Hp g b L V E)(hk:L k){sz:Nat}{rows:List (List AV)}(he:E k=.sl sz rows):Own g b (V k) sz rows:=by
 have:=h.ok k hk;rw[he] at this;exact this
theorem Hp.box (h:Hp g b L V E)(hk:L k){row:List AV}(he:E k=.bx row):Bx g b (V k) row:=by
 have:=h.ok k hk;rw[he] at this;exact this
end
section
variable {κ:Type} [DecidableEq κ]
def ups {α:Type}(f:κ->α)(k:κ)(x:α):κ->α:=fun j=>if j=k then x else f j
theorem aF {α:Type}(f:κ->α)(k:κ)(x:α):ups f k x k=x:=if_pos rfl
theorem af {α:Type}(f:κ->α){k j:κ}(x:α)(h:j≠k):ups f k x j=f j:=if_neg h
theorem Hv {α:Type}{f:κ->α}{k:κ}{x:α}(h:f k=x):ups f k x=f:=by
 funext j;by_cases e:j=k
 ·subst e;rw[aF,h]
 ·exact af _ _ e
variable {g g':G}{b:Nat}{L L':κ->Prop}{V:κ->AV}{E:κ->En}{k:κ}
theorem Hp.set (h:Hp g b L V E){v':AV}{e':En}(hk:L k)(ho:e'.ok g' b v')(hn:g.nx<=g'.nx)(hf:∀i,b<=i->i<g.nx->eid (V k)≠some i->g'.h.get i=g.h.get i)
  (hv:eid v'=eid (V k)\/∃i,eid v'=some i/\g.nx<=i):Hp g' b L (ups V k v') (ups E k e'):=by
 refine ⟨fun j hj=>?_,fun j l hj hl hne id e1 e2=>?_,Nat.le_trans h.nx hn⟩
 ·by_cases e:j=k
  ·subst e;rw[aF,aF];exact ho
  ·rw[af _ _ e,af _ _ e]
   exact En.fr (h.ok j hj) hn fun i hi=>hf i (En.lt (h.ok j hj) hi).1 (En.lt (h.ok j hj) hi).2 fun e2=>h.sep j k hj hk e i hi e2
 ·have key:∀j,L j->j≠k->∀id,eid (V j)=some id->eid v'≠some id:=fun j hj hne id e1 e2=>by
   rcases hv with hv | ⟨i,hv,hi⟩
   ·exact h.sep j k hj hk hne id e1 (hv ▸ e2)
   ·rw[hv] at e2;injection e2 with e2;have:=(En.lt (h.ok j hj) e1).2;omega
  by_cases a:j=k
  ·subst a
   rw[aF] at e1
   rw[af _ _ (Ne.symm hne)] at e2
   exact key l hl (Ne.symm hne) id e2 e1
  ·rw[af _ _ a] at e1
   by_cases c:l=k
   ·subst c;rw[aF] at e2;exact key j hj a id e1 e2
   ·rw[af _ _ c] at e2;exact h.sep j l hj hl hne id e1 e2
theorem Hp.add (h:Hp g b L V E){v':AV}{e':En}(hk:¬L k)(ho:e'.ok g' b v')(hn:g.nx<=g'.nx)(hf:∀i,b<=i->i<g.nx->g'.h.get i=g.h.get i)
  (hv:∀i,eid v'=some i->g.nx<=i) (hl:∀j,L' j->L j\/j=k):Hp g' b L' (ups V k v') (ups E k e'):=by
 refine ⟨fun j hj=>?_,fun j l hj hl2 hne id e1 e2=>?_,Nat.le_trans h.nx hn⟩
 ·rcases hl j hj with hj | rfl
  ·have e:j≠k:=fun e=>hk (e ▸ hj)
   rw[af _ _ e,af _ _ e]
   exact En.fr (h.ok j hj) hn fun i hi=>hf i (En.lt (h.ok j hj) hi).1 (En.lt (h.ok j hj) hi).2
  ·rw[aF,aF];exact ho
 ·have key:∀j,L j->∀id,eid (V j)=some id->eid v'≠some id:=fun j hj id e1 e2=>by
   have:=hv id e2;have:=(En.lt (h.ok j hj) e1).2;omega
  rcases hl j hj with hj | rfl
  ·have e:j≠k:=fun e=>hk (e ▸ hj)
   rw[af _ _ e] at e1
   rcases hl l hl2 with hl2 | rfl
   ·have e':l≠k:=fun e=>hk (e ▸ hl2)
    rw[af _ _ e'] at e2
    exact h.sep j l hj hl2 hne id e1 e2
   ·rw[aF] at e2;exact key j hj id e1 e2
  ·rw[aF] at e1
   rcases hl l hl2 with hl2 | rfl
   ·have e':l≠j:=fun e=>hne e.symm
    rw[af _ _ e'] at e2
    exact key l hl2 id e2 e1
   ·exact hne rfl
theorem Hp.put (h:Hp g b L V E)(hk:L k){sz n i off:Nat}{rows:List (List AV)}{row row':List AV}(he:E k=.sl sz rows){x:AV}{K:AV->G->Prop}{D:ADf->Prop}(hr:rows[i]?=some row)
  (hl:x.cells.length=n) (ht:x.isTup=false) (hp:bG row off x.cells=some row')
  (kk:∀g',Hp g' b L V (ups E k (.sl sz (rows.set i row')))->g'.nx=g.nx->(∀i,i<b->g'.h.get i=g.h.get i)->(∀i,eid (V k)≠some i->g'.h.get i=g.h.get i)->K .undef g'):(jr n (lC sz (V k) i off) x g).sat K g D:=by
 have ho:=h.own hk he
 refine bO ho hr hl ht hp fun g' hv' hn hf=>?_
 have:=h.set hk (e':=.sl sz (rows.set i row')) hv' (by omega) (fun i _ hi hne=>hf i (by rw[<-fB ho];exact hne)) (.inl rfl)
 rw[Hv (f:=V) rfl] at this
 exact kk g' this hn (fun i hi=>hf i fun e=>by have:=(ho.lt e).1;omega) fun i hne=>hf i (by rw[<-fB ho];exact hne)
end
end
end Hx
end
section
namespace Hx
open Go
noncomputable section
theorem bK {C:Cfg}{d:Nat}{rd:Option Nat}{l:List SI}{b:SC}{Q:QT}{t:T}{df:List ADf}{g:G}{P:PT}(h1:wpO C d rd l P t df g)(h2:∀t df g,P t df g->wp C d rd b Q t df g):wp C d rd (.seq (.ops l) b) Q t df g:=by
 rw[cW]
 have:wp C d rd (.ops l) (fun e t df g=>e=.norm/\P t df g) t df g:=by rw[wN];simpa using h1
 refine bW _ this ?_
 rintro e t df g ⟨rfl,h⟩
 exact h2 t df g h
structure Bnd (K:Nat) (m:Causal):Prop where
 r:m.roots.length<=K
 rr:∀x∈m.roots,x.length<=K
 n:m.nodes.length<=K
 f:∀x∈m.nodes,x.frm.length<=K/\x.noise.length<=K/\x.out.length<=K
abbrev Ky:Type:=Nat×Nat
structure BD (K R n:Nat) (V:Ky->AV) (E:Ky->En) (Rt:Nat->List Int) (c:Nat->Int) (F:Nat->Nat->List Int):Prop where
 r:∀i,i<R->E (0,i)=.sl 1 ((Rt i).map ci)/\(Rt i).length<=K
 f:∀q i,1<=q->q<=3->i<n->E (q,i)=.sl 1 ((F q i).map ci)/\(F q i).length<=K
 rs:E (4,0)=.sl 1 ((List.range R).map fun i=>[V (0,i)])
 ns:E (4,1)=.sl 4 ((List.range n).map fun i=>[.int .i64 (c i),V (1,i),V (2,i),V (3,i)])
structure TI (g:G) (q:Nat) (m:Causal) (k1 k2 act u1 u2 u3:AV) (A B W:List Int):Prop where
 a1:g.h.get 1=.cells 1 [[act]] 0 false false
 a2:g.h.get 2=.cells 3 [[.nils,.nils,.nils]] 0 false false
 a4:g.h.get 4=.cells 4 [[.int .i64 m.grain,k1,k2,.int .i64 (S.bB m)]] 0 false false
 bq:g.h.get q=.cells 3 [[u1,u2,u3]] 0 false false
 o1:Own g 5 u1 1 (A.map ci)
 o2:Own g 5 u2 1 (B.map ci)
 o3:Own g 5 u3 1 (W.map ci)
 q5:5<=q/\q<g.nx
 n1:∀i,vid u1=some i->i≠q/\vid u2≠some i/\vid u3≠some i
 n2:∀i,vid u2=some i->i≠q/\vid u3≠some i
 n3:∀i,vid u3=some i->i≠q
section
variable {g g':G}{q:Nat}{m:Causal}{k1 k2 act u1 u2 u3:AV}{A B W:List Int}
end
end
end Hx
end
section
namespace Hx
open Go
noncomputable section
theorem eG {C:Cfg}{d:Nat}{rd:Option Nat}{a b:SC}{Q:QT}{t:T}{df:List ADf}{g:G}{P:PT}(h1:wp C d rd a (fun e t df g=>e=.norm/\P t df g) t df g)(h2:∀t df g,P t df g->wp C d rd b Q t df g):wp C d rd (.seq a b) Q t df g:=by
 rw[cW]
 refine bW _ h1 ?_
 rintro e t df g ⟨rfl,h⟩
 exact h2 t df g h
abbrev QI:=Int×Int
theorem ol {x:QI}{P:Nat->Prop}{k:Nat}{h:H}{v:AV}:Agg x P k h v↔v=.agg [.int .i64 x.1,.int .i64 x.2]:=by
 constructor
 ·rintro ⟨cs,rfl,hc⟩
  obtain ⟨a,b,rfl,h1,h2⟩:=Al.1 hc
  rw[ax.1 h1,ax.1 h2];rfl
 ·rintro rfl
  exact ⟨_,rfl,Al.2 ⟨[.int .i64 x.1],[.int .i64 x.2],rfl,ax.2 rfl,ax.2 rfl⟩⟩
theorem BH {d:Nat}{g:G}{a b:Nat}(hd:0<d)(ha:a<18446744073709551616)(hb:b<18446744073709551616) :
  am C0 d N.aI [.int .u64 (a:Int),.int .u64 (b:Int)] g=.val (.int .u64 (Nat.gcd a b:Int)):=by
 rw[qk]
 refine nZ sG (xs:=[.int .u64 (a:Int),.int .u64 (b:Int)]) (by simp only[aB,dq 0]) (by simp[jK]) hd ?_
 simp only[sz,simprocAttr,jK]
 refine nc (fun k t df g=>df=[]/\∃x y:Nat,x<18446744073709551616/\y<18446744073709551616/\k=y/\Nat.gcd x y=Nat.gcd a b/\St t [(0,.int .u64 (x:Int)),(1,.int .u64 (y:Int))]) b
  ⟨rfl,a,b,ha,hb,rfl,rfl,by simp[sx,St]⟩ ?_
 rintro y t df g ⟨rfl,x,y',hx,hy,rfl,hg,h0,h1,-⟩
 simp only[sz,simprocAttr,km,h1]
 refine dX (fun hq=>?_) (fun hq=>?_)
 ·have hy0:0<y:=by simp at hq;omega
  have hm:=Nat.mod_lt x hy0
  simp only[sz,simprocAttr,h0,h1,ji .u64 (show (0:Int)<=(x:Int) by omega) (show (0:Int)<(y:Int) by omega)]
  exact ⟨x % y,hm,y,x % y,hy,by omega,rfl,by rw[<-hg,Nat.gcd_comm y,<-Nat.gcd_rec,Nat.gcd_comm],by simp[St,sx]⟩
 ·have hy0:y=0:=by simp at hq;omega
  subst hy0
  rw[Nat.gcd_zero_right] at hg
  simp only[sz,simprocAttr,jU,h0,hg]
theorem yd {d:Nat}{g:G}{a:Int}(hd:0<d)(ha:0<=a/\a<9223372036854775808):am C0 d N.aa [.int .i64 a] g=.val (.int .u64 a):=by
 rw[te]
 refine nZ wk (xs:=[.int .i64 a]) (by simp only[aB,dq 0]) (by simp[np]) hd ?_
 simp only[sz,simprocAttr,np]
 refine dX (fun hq=>?_) (fun hq=>?_)
 ·simp at hq;omega
 ·simp only[sz,simprocAttr,nS ha.1 (show a<18446744073709551616 by omega)]
theorem G8 {d:Nat}{g:G}{x y:Nat}(hd:0<d)(hx:x<=4611686018427387903)(hy:y<=4611686018427387903) :
  am C0 d N.ak [.bool false,.agg [.int .u64 0,.int .u64 (x:Int)],.agg [.int .u64 0,.int .u64 (y:Int)]] g=.val (.agg [.int .i64 (x:Int),.int .i64 (y:Int)]):=by
 have key:∃r,am C0 d N.ak [.bool false,.agg [.int .u64 0,.int .u64 (x:Int)],.agg [.int .u64 0,.int .u64 (y:Int)]] g=.val r/\Agg (((x:Int),(y:Int)):QI) NoP 0 .nil r:=by
  rw[ui]
  refine aX xK (xs:=[.bool false,.agg [.int .u64 0,.int .u64 (x:Int)],.agg [.int .u64 0,.int .u64 (y:Int)]]) rfl (by simp[o4]) (cT _) (by decide) hd ?_
  have z0:∀id,Do 2 1 (.hptr id 0 0 0) (.int .i64 0)=.val (.hptr id 0 0 0):=fun id=>Dl 2 1 id 0 0 0 .i64 (j:=0) (by decide)
  have z1:∀id,Do 2 1 (.hptr id 0 0 0) (.int .i64 1)=.val (.hptr id 0 0 1):=fun id=>Dl 2 1 id 0 0 0 .i64 (j:=1) (by decide)
  have hx':decide ((4611686018427387903:Int)<(x:Int))=false:=by simp;omega
  have hy':decide ((4611686018427387903:Int)<(y:Int))=false:=by simp;omega
  simp only[sz,simprocAttr,o4,pC,z0,z1,hx',hy']
  simp only[sz,simprocAttr,oJ,z1,aE (show -9223372036854775808<=(x:Int) by omega) (show (x:Int)<9223372036854775808 by omega),aE (show -9223372036854775808<=(y:Int) by omega) (show (y:Int)<9223372036854775808 by omega)]
  exact ⟨NoP,ol.2 rfl⟩
 obtain ⟨r,h1,h2⟩:=key
 rw[h1,ol.1 h2]
def S.aP (n d:Nat):QI:=(((n / Nat.gcd n d:Nat):Int),((d / Nat.gcd n d:Nat):Int))
theorem FG (a:ADf)(K:AV->G->Prop)(g:G)(D:ADf->Prop):(OR.dfr a).sat K g D=D a:=rfl
theorem Fx (W:PT)(t:T)(df:List ADf)(g:G)(a:ADf):kD W none t df g a=W t (a::df) g:=rfl
theorem Bv {C:Cfg}{d n:Nat}{t:T}{g:G}{f:Nat}{first cap:List AV}(h:tat t n=.clo f first cap):SO.run C d none t g (.raw (.defer ⟨.value (.tmp n),#[],#[]⟩))=.dfr (.call (.clo f [] cap) (first++[])):=by
 have:(gp AV.undef n).run t=.clo f first cap:=by rw[gp_run];exact h
 simp only[SO.run,ck,cOp,aK,bm,this]
theorem zy {C:Cfg}{d n:Nat}{t:T}{g:G}{f:Nat}{first cap:List AV}(h:tat t n=.clo f first cap):(ck C (.defer ⟨.value (.tmp n),#[],#[]⟩)).run (I C) d none t g=.dfr (.call (.clo f [] cap) (first++[])):=Bv h
theorem BC {C:Cfg}{d:Nat}{r:List SR}{t:T}{g g':G}{K:AV->G->Prop}{f:Nat}{cap:List AV}{v:AV}(hc:(I C).call d f cap g=.ok v g')(h:qv r t g' fun vs=>K (fI vs) g'):ut C d r t [.call (.clo f [] cap) []] g K:=by
 unfold ut
 have:dt (I C) d [.call (.clo f [] cap) []] g=some g':=by
  simp only[dt,List.nil_append,hc]
 rw[this];exact h
theorem x9 {C:Cfg}{d:Nat}{rd:Option Nat}{t:T}{g:G}:SO.run C d rd t g (.raw (.call ⟨.builtin .recover,#[],#[]⟩))=.val .nili:=rfl
theorem BL (d:Nat)(a b:AV)(g:G):∃v,(I C0).call d N.aE [a,b] g=.ok v g:=by
 have key:=kJ (C:=C0) (d:=d) (f:=N.aE) («as»:=[a,b]) (g:=g) (K:=fun v g'=>g'=g) mP (by simp[d5]) ?_
 ·cases hc:(I C0).call d N.aE [a,b] g with
  | fail=>rw[hc] at key;exact key.elim
  | ok v g'=>rw[hc] at key;exact ⟨v,by rw[show g'=g from key]⟩
 have e:wC true (.iface true) .nili .nili=.val (.bool false):=rfl
 simp only[d5,sx,x9]
 simp only[sz,simprocAttr,e]
theorem CV {d:Nat}{g:G}{fn:Nat}{a a':List AV}{x:QI}(hd:0<d)(hs:Hx.snap g.h d aD (.clo fn [] a)=some (.clo fn [] a'))(hc:∀(g:G) (K:AV->G->Prop) (D:ADf->Prop),(∀g',Fr g g'->K (.agg [.int .i64 x.1,.int .i64 x.2]) g')->(e_ C0 (I C0) (d+1) (.clo fn [] a') [] g).sat K g D) :
  am C0 d N.aH [.clo fn [] a] g=.val (.tup [.agg [.int .i64 x.1,.int .i64 x.2],.int .i64 0]):=by
 have key:∃r,am C0 d N.aH [.clo fn [] a] g=.val r/\pc (Agg x) (One (0:Int)) NoP 0 .nil r:=by
  rw[nq]
  refine aX pd (xs:=[.clo fn [] a']) (by simp only[aB,hs]) (by simp[fL]) (cm (m:=2) (cT _) (aM _) (by decide) (by decide)) (by decide) hd ?_
  simp only[sz,simprocAttr,fL,im]
  rw[zy (f:=N.aE) (first:=[]) (cap:=[.hptr 0 0 0 0,.hptr 1 0 0 0]) (by simp[sx])]
  simp only[sz,simprocAttr,FG,Fx]
  refine hc _ _ _ fun g2 fr2=>?_
  have k0:g2.h.get 0=.cells 2 [[.int .i64 0,.int .i64 0]] 0 false false:=by rw[fr2.2 0 (by simp[sx])];simp[sx,H.get_put]
  have k1:g2.h.get 1=.cells 1 [[.int .i64 0]] 0 false false:=by rw[fr2.2 1 (by simp[sx])];simp[sx]
  simp only[sz,simprocAttr,k0,k1]
  obtain ⟨v,hg1⟩:=BL (d+1) (.hptr 0 0 0 0) (.hptr 1 0 0 0) ((g2.put 0 (.cells 2 [[.int .i64 x.1,.int .i64 x.2]] 0 false false)).put 1 (.cells 1 [[.int .i64 0]] 0 false false))
  refine BC hg1 ?_
  simp only[sx,sy,↓reduceIte,Nat.reduceEqDiff,Nat.reduceAdd,Nat.reduceLeDiff]
  exact ⟨NoP,_,_,rfl,ol.2 rfl,ax.2 rfl⟩
 obtain ⟨r,h1,a,b,rfl,h2,h3⟩:=key
 have h3:=ax.1 h3
 injection h3 with h3
 rw[h1,ol.1 h2,h3]
theorem zR (d:Nat)(a b:AV)(g:G):e_ C0 (I C0) d (.clo N.a8 [] [a,b]) [] g=orF ((I C0).call d N.a8 [a,b] g):=by kernel_rfl
theorem xW {h:H}{id:Nat}{n:Int}(d k:Nat)(hg:h.get id=.cells 1 [[.int .i64 n]] 0 false false):Hx.snap h d (k+3) (.hptr id 0 0 0)=some (.tptr (Nat.max d 0) 1 [[.int .i64 n]] 0 0):=by
 simp only[Hx.snap,hg,show Nat.beq 0 0=true from rfl,aB]
 rfl
theorem Ce {h:H}{d f:Nat}{a b a' b':AV}(ha:Hx.snap h d 23 a=some a')(hb:Hx.snap h d 23 b=some b'):Hx.snap h d aD (.clo f [] [a,b])=some (.clo f [] [a',b']):=by
 show (match aB (Hx.snap h d 23) [],aB (Hx.snap h d 23) [a,b] with | some as',some cs=>some (AV.clo f as' cs) | _,_=>none)=_
 simp only[aB,ha,hb]
theorem HR:wC true .bool (.bool false) (.bool false)=.val (.bool false):=rfl
theorem DW {d:Nat}{g:G}{n m z:Nat}{K:AV->G->Prop}{D:ADf->Prop}(hd:0<d)(hn:n<=4611686018427387903)(hm0:0<m)(hm:m<=4611686018427387903)
  (kk:∀g',Fr g g'->K (.agg [.int .i64 (S.aP n m).1,.int .i64 (S.aP n m).2]) g') :
  (e_ C0 (I C0) d (.clo N.a8 [] [.tptr z 1 [[.int .i64 (n:Int)]] 0 0,.tptr z 1 [[.int .i64 (m:Int)]] 0 0]) [] g).sat K g D:=by
 have hg0:0<Nat.gcd n m:=Nat.gcd_pos_of_pos_right n hm0
 have q1:n / Nat.gcd n m<=n:=Nat.div_le_self _ _
 have q2:m / Nat.gcd n m<=m:=Nat.div_le_self _ _
 have e1:∀g,am C0 d N.aa [.int .i64 (n:Int)] g=.val (.int .u64 (n:Int)):=fun g=>yd hd ⟨by omega,by omega⟩
 have e2:∀g,am C0 d N.aa [.int .i64 (m:Int)] g=.val (.int .u64 (m:Int)):=fun g=>yd hd ⟨by omega,by omega⟩
 have e3:∀g,am C0 d N.aI [.int .u64 (n:Int),.int .u64 (m:Int)] g=.val (.int .u64 (Nat.gcd n m:Int)):=fun g=>BH hd (by omega) (by omega)
 have l1:decide ((n:Int)<0)=false:=by simp
 have l2:decide ((m:Int)<0)=false:=by simp
 have wq:∀x:Nat,x<=4611686018427387903->∀y:Nat,0<y->bP .quo (.int .u64 (x:Int)) (.int .u64 (y:Int))=.val (.int .u64 ((x / y:Nat):Int)):=fun x hx y hy=>by
  have hle:x / y<=x:=Nat.div_le_self _ _
  rw[Bh .u64 (Int.natCast_nonneg x) (by omega),<-Int.natCast_ediv]
  generalize x / y=z at hle
  rw[nS (by omega) (by omega)]
 have e4:∀g,am C0 d N.ak [.bool false,.agg [.int .u64 0,.int .u64 ((n / Nat.gcd n m:Nat):Int)],.agg [.int .u64 0,.int .u64 ((m / Nat.gcd n m:Nat):Int)]] g=.val (.agg [.int .i64 ((n / Nat.gcd n m:Nat):Int),.int .i64 ((m / Nat.gcd n m:Nat):Int)]):=fun g=>G8 hd (by omega) (by omega)
 rw[zR]
 refine vV sR (by simp[jR]) ?_
 simp only[sz,simprocAttr,jR,lY,sf,dN,e1,e2,e3,l1,l2,HR,wq n hn _ hg0,wq m hm _ hg0,e4]
 refine ⟨?_,kk _ ⟨by simp;omega,fun i hi=>?_⟩⟩
 ·simp only[List.reverse_cons,List.reverse_nil,List.nil_append,List.cons_append]
  exact be [false,false,false,false,false,false,false,false,false,false,false,false,false,false,false,false,true] [] (by simp[All2,ah,aC,tM,tW]) (by decide) (by simp)
 ·simp[H.get_put,show ¬i=g.nx by omega]
theorem xJ {d:Nat}{g:G}{n m:Nat}(hd:0<d)(hn:n<=4611686018427387903)(hm0:0<m)(hm:m<=4611686018427387903) :
  am C0 d N.ax [.int .i64 (n:Int),.int .i64 (m:Int)] g=.val (.tup [.agg [.int .i64 (S.aP n m).1,.int .i64 (S.aP n m).2],.int .i64 0]):=by
 have key:∃r,am C0 d N.ax [.int .i64 (n:Int),.int .i64 (m:Int)] g=.val r/\pc (Agg (S.aP n m)) (One (0:Int)) NoP 0 .nil r:=by
  rw[td]
  refine aX vH (xs:=[.int .i64 (n:Int),.int .i64 (m:Int)]) rfl (by simp[nE]) (cm (m:=2) (cT _) (aM _) (by decide) (by decide)) (by decide) hd ?_
  have l1:decide ((m:Int)=0)=false:=by simp;omega
  simp only[sz,simprocAttr,nE,oG,l1]
  rw[CV (x:=S.aP n m) (a':=[.tptr (Nat.max (d+1) 0) 1 [[.int .i64 (n:Int)]] 0 0,.tptr (Nat.max (d+1) 0) 1 [[.int .i64 (m:Int)]] 0 0]) (Nat.succ_pos d) ?_ (fun g K D kk=>DW (Nat.succ_pos _) hn hm0 hm kk)]
  ·simp only[sz,simprocAttr]
   exact ⟨NoP,_,_,rfl,ol.2 rfl,ax.2 rfl⟩
  ·rw[Ce (a':=.tptr (Nat.max (d+1) 0) 1 [[.int .i64 (n:Int)]] 0 0) (b':=.tptr (Nat.max (d+1) 0) 1 [[.int .i64 (m:Int)]] 0 0) (xW (n:=(n:Int)) (d+1) 20 (by simp[sx,H.get_put])) (xW (n:=(m:Int)) (d+1) 20 (by simp[sx,H.get_put]))]
 obtain ⟨r,h1,a,b,rfl,h2,h3⟩:=key
 have h3:=ax.1 h3
 injection h3 with h3
 rw[h1,ol.1 h2,h3]
def S.bh (vals e:List Int)(i:Nat):Bool:=decide (e[i]?.getD 0<0) || decide (e[i]?.getD 0=vals[i]?.getD 0)
def S.bc (vals e:List Int):Bool:=(List.range e.length).all (S.bh vals e)
theorem jk {α:Type}{C:α->Prop}{S:α->VS}{j:Nat}(h:∀a,Snb (S a) j):Snb (fun P k h v=>∃a,C a/\S a P k h v) j :=
 ⟨fun {P k hh v n} d r hn=>by
  obtain ⟨a,c,r⟩:=r
  obtain ⟨v',e,r'⟩:=(h a).snap d r hn
  exact ⟨v',e,a,c,r'⟩,fun {k hh v n} r hn=>by
  obtain ⟨a,c,r⟩:=r
  exact (h a).tag r hn⟩
theorem nH:∀{A L:List Nat},A.Nodup->(∀v∈A,v∈L)->A.length<=L.length
 | [],_,_,_=>Nat.zero_le _
 | a::A,L,hA,h=>by
  rw[List.nodup_cons] at hA
  have ha:=h a (by simp)
  have:=nH (A:=A) (L:=L.erase a) hA.2 fun v hv=>(List.mem_erase_of_ne (fun e=>hA.1 (by rw[<-e];exact hv))).2 (h v (by simp[hv]))
  rw[List.length_erase_of_mem ha] at this
  have:=List.length_pos_of_mem ha
  simp only[List.length_cons]
  omega
def Ord (p:List Nat)(L:List Nat):Prop:=(∀v,v<p.length->v∈L)/\∀(i v:Nat),L[i]?=some v->v<p.length/\∀q,(Par p v).testBit q=true->q∈L.take i
def CH (p:List Nat)(L:List Nat):Prop:=L.Nodup/\∀(i v:Nat),L[i]?=some v->v<p.length/\∀q,(Par p v).testBit q=true->q∈L.take i
theorem CY {p L:List Nat}(h:CH p L):L.length<=p.length:=by
 have:=nH (L:=List.range p.length) h.1 fun v hv=>by
  obtain ⟨i,hi,rfl⟩:=List.mem_iff_getElem.1 hv
  exact List.mem_range.2 (h.2 i _ (List.getElem?_eq_getElem hi)).1
 simpa using this
theorem Cz {p L:List Nat}(h:CH p L){v:Nat}(hv:v ∉ L)(hl:v<p.length)(hp:∀q,(Par p v).testBit q=true->q∈L):CH p (L++[v]):=by
 refine ⟨?_,fun i u hu=>?_⟩
 ·rw[List.nodup_append]
  exact ⟨h.1,by simp,fun a ha b hb=>by simp at hb;subst hb;exact fun e=>hv (e ▸ ha)⟩
 ·rcases Nat.lt_or_ge i L.length with hi | hi
  ·rw[List.getElem?_append_left hi] at hu
   obtain ⟨h1,h2⟩:=h.2 i u hu
   exact ⟨h1,fun q hq=>by rw[List.take_append_of_le_length (by omega)];exact h2 q hq⟩
  ·rw[List.getElem?_append_right hi] at hu
   have:i=L.length:=by
    have:=(List.getElem?_eq_some_iff.1 hu).1;simp at this;omega
   subst this
   simp at hu;subst hu
   exact ⟨hl,fun q hq=>by rw[List.take_left];exact hp q hq⟩
theorem Bw {p L:List Nat}(h:CH p L)(hl:p.length<=L.length):Ord p L:=by
 refine ⟨fun v hv=>?_,h.2⟩
 by_cases hm:v∈L
 ·exact hm
 ·have:=nH (A:=v::L) (L:=List.range p.length) (List.nodup_cons.2 ⟨hm,h.1⟩) fun u hu=>by
   rcases List.mem_cons.1 hu with rfl | hu
   ·exact List.mem_range.2 hv
   ·obtain ⟨i,hi,rfl⟩:=List.mem_iff_getElem.1 hu
    exact List.mem_range.2 (h.2 i _ (List.getElem?_eq_getElem hi)).1
  simp at this
  omega
theorem FC {p L:List Nat}(h:CH p L)(hl:L.length<p.length):∃v,v<p.length/\v ∉ L:=by
 by_cases hh:∃v,v<p.length/\v ∉ L
 ·exact hh
 ·exfalso
  have:=nH (A:=List.range p.length) (L:=L) List.nodup_range fun v hv=>by
   by_cases h':v∈L
   ·exact h'
   ·exact absurd ⟨v,List.mem_range.1 hv,h'⟩ hh
  simp at this
  omega
def Hk (D:Nat)(L:List Nat):Prop:=D<18446744073709551616/\∀v,D.testBit v=true↔v∈L
theorem Cd {D:Nat}{L:List Nat}(h:Hk D L){v:Nat}(hv:v<64):Hk (D ||| S.aL v) (L++[v]):=by
 refine ⟨Er h.1 (su v),fun u=>?_⟩
 rw[mU,tR hv,Bool.or_eq_true,h.2,decide_eq_true_eq,List.mem_append,List.mem_singleton]
 constructor
 ·rintro (h | h)
  ·exact .inl h
  ·exact .inr h.symm
 ·rintro (h | h)
  ·exact .inl h
  ·exact .inr h.symm
theorem Gz {g g':G}(hn:g.nx<=g'.nx)(h:∀i,i<g.nx->g'.h.get i=g.h.get i):Fr g g':=⟨hn,h⟩
section
variable {m:Causal}{c1 c2 l w c9 v35 ls v48:AV}{al:List Int}{hid kk:Int}{p:Nat}
end
end
end Hx
end
section
namespace Hx
open Go
noncomputable section
theorem zc (l:List Int)(j:Nat)(x:Int):(l.map ci).set j (ci x)=(l.set j x).map ci:=by rw[List.map_set]
theorem wn {x y:Nat}(hy:0<y):bP .rem (.int .i64 (x:Int)) (.int .i64 (y:Int))=.val (.int .i64 ((x % y:Nat):Int)):=by
 rw[ji .i64 (Int.natCast_nonneg x) (by omega),<-Int.natCast_emod]
theorem Bm {x y:Nat}(hx:x<9223372036854775808)(hy:0<y):bP .quo (.int .i64 (x:Int)) (.int .i64 (y:Int))=.val (.int .i64 ((x / y:Nat):Int)):=by
 have hle:x / y<=x:=Nat.div_le_self _ _
 rw[Bh .i64 (Int.natCast_nonneg x) (by omega),<-Int.natCast_ediv]
 generalize x / y=z at hle
 rw[aE (by omega) (by omega)]
def S.a9:List Int->Int
 | []=>0
 | x::l=>x+10000*S.a9 l
structure S.tI (bl:List Int) (n i:Nat) (V ai:Int) (k:Nat) (c:Int) (L:List Int):Prop where
 len:L.length=n
 rng:∀x∈L,0<=x/\x<10000
 zer:∀j,i+bl.length<=j->i+k<=j->L[j]?.getD 0=0
 kle:k<=bl.length+1
 c0:0<=c
 c1:c<10000
 ce:k=bl.length+1->c=0
 cs:k=0->c=0
 eq:S.a9 L+c*10000 ^ (i+k)=V+ai*10000 ^ i*S.a9 (bl.take k)
structure S.tO (al bl:List Int) (i:Nat) (L:List Int):Prop where
 len:L.length=al.length+bl.length
 rng:∀x∈L,0<=x/\x<10000
 zer:∀j,i+bl.length<=j->L[j]?.getD 0=0
 eq:S.a9 L=S.a9 (al.take i)*S.a9 bl
structure S.mI (al bl:List Int) (i:Nat) (r:Int) (L:List Int):Prop where
 len:L.length=i
 rng:∀x∈L,0<=x/\x<10000
 r01:r=0\/r=1
 eq:S.a9 L=S.a9 (al.take i) - S.a9 (bl.take i)+r*10000 ^ i
theorem CW {x y:Int}(h0:0<=x)(h1:x<9223372036854775808)(hy:0<y):bP .rem (.int .i64 x) (.int .i64 y)=.val (.int .i64 (x % y)):=by
 obtain ⟨n,rfl⟩:=Int.eq_ofNat_of_zero_le h0
 obtain ⟨m,rfl⟩:=Int.eq_ofNat_of_zero_le (by omega:0<=y)
 have:=wn (x:=n) (y:=m) (by omega)
 rw[this,Int.natCast_emod]
theorem sB {x y:Int}(h0:0<=x)(h1:x<9223372036854775808)(hy:0<y):bP .quo (.int .i64 x) (.int .i64 y)=.val (.int .i64 (x / y)):=by
 obtain ⟨n,rfl⟩:=Int.eq_ofNat_of_zero_le h0
 obtain ⟨m,rfl⟩:=Int.eq_ofNat_of_zero_le (by omega:0<=y)
 have:=Bm (x:=n) (y:=m) (by omega) (by omega)
 rw[this,Int.natCast_ediv]
structure S.qI (x b n:Nat) (i:Nat) (L:List Int):Prop where
 len:L.length=n
 rng:∀z∈L,0<=z/\z<10000
 eq:S.a9 (L.drop i)=((x / 10000 ^ i / b:Nat):Int)
theorem SlR.wd {α:Type} [Rp α]{P P':Nat->Prop}{k:Nat}{h h':H}{l:List α}{v:AV}(r:SlR P k h l v)(hf:∀i,P i->P' i/\h'.get i=h.get i):SlR P' k h' l v:=by
 obtain ⟨w,hw,q⟩:=Rp.mono (k':=k) (P':=P') (h':=h') (show Rp.rp P k h l [v] from ⟨v,rfl,r⟩) hf (Nat.le_refl _)
 injection hw with hw;subst hw;exact q
structure HS (m:Causal) (c1 c2 la lb lc:AV) (p q:Nat) (gb g:G):Prop where
 fr:Fr gb g
 mp:g.h.get p=.cells 3 [[.int .i64 m.grain,c1,c2]] 0 false false
 ml:g.h.get q=.cells 3 [[la,lb,lc]] 0 false false
 pn:p<gb.nx
 q0:gb.nx<=q
 qn:q<g.nx
section
variable {m:Causal}{c1 c2 la lb lc w c28 vi c90 vj:AV}{A B Z:List Int}{p q:Nat}
end
end
end Hx
end
end
section
namespace Hx
open Go
section
variable {p:List Nat}
theorem vd:CB p 0:=⟨fun v _ hb=>by simp at hb,fun v _ hb=>by simp at hb⟩
theorem wZ {q:Nat}(ih:CB p q){j:Nat}(hj:j<64)(hd:Sub (Par p j) q):CB p (q ||| S.aL j):=by
 refine ⟨fun v hv hb=>?_,fun v hv hb=>?_⟩
 ·intro u hu
  rw[mU,tR hj,Bool.or_eq_true,decide_eq_true_eq] at hb
  rw[mU,Bool.or_eq_true]
  rcases hb with hb | hb
  ·exact .inl (ih.1 v hv hb u hu)
  ·subst hb;exact .inl (hd u hu)
 ·rw[mU,tR hj,Bool.or_eq_true,decide_eq_true_eq] at hb
  cases hq:q.testBit v
  ·rw[hq] at hb
   simp at hb
   subst hb
   rw[<-Bool.not_eq_true]
   intro hu
   have:=zS ih.1 hd p.length j hu
   rw[hq] at this;cases this
  ·exact ih.2 v hv hq
theorem pz {q:Nat}(h:CB p q)(hf:∀v,v<p.length->q.testBit v=true):S.a8 p=true :=
 pW.2 fun v hv=>h.2 v hv (hf v hv)
theorem vM (hp:∀x∈p,x<2 ^ p.length)(h:S.a8 p=true){T:Nat}(hst:∀v,v<p.length->T.testBit v=false->¬Sub (Par p v) T):∀v,v<p.length->T.testBit v=true:=by
 rw[pW] at h
 have none:∀r v,v<p.length->T.testBit v=false->S.up p (Par p v) p.length=r->False:=by
  intro r
  induction r using Nat.strongRecOn with
  | _ r ih =>
   intro v hv hb hr
   have hns:=hst v hv hb
   have:∃u,(Par p v).testBit u=true/\T.testBit u=false:=by
    apply Classical.byContradiction
    intro hno
    apply hns
    intro u hu
    cases hc:T.testBit u
    ·exact absurd ⟨u,hu,hc⟩ hno
    ·rfl
   obtain ⟨u,hu,hub⟩:=this
   have hul:u<p.length:=Du (zE hp) hu
   have hcl:=Bz hp (s:=Par p v) (zE hp)
   have hin:(S.up p (Par p v) p.length).testBit u=true:=rL _ u hu
   have hsub:Sub (S.up p (Par p u) p.length) (S.up p (Par p v) p.length):=zS hcl (hcl u hul hin) _
   have hlt:S.up p (Par p u) p.length<S.up p (Par p v) p.length:=by
    refine Nat.lt_of_le_of_ne (G_ hsub) fun e=>?_
    have:=h u hul
    rw[e,hin] at this;cases this
   exact ih _ (by omega) u hul hub rfl
 intro v hv
 cases hc:T.testBit v
 ·exact (none _ v hv hc rfl).elim
 ·rfl
end
end Hx
end
section
namespace Hx
open Go
theorem gN:∀a b:List Int,S.aa (a++b)=S.aa a*S.aa b
 | [],b=>by simp[S.aa]
 | x::a,b=>by rw[List.cons_append,bQ,bQ,gN a b,Int.mul_assoc]
theorem nW:∀{a va:List Int} (b vb:List Int),a.length=va.length->S.af (a++b) (va++vb)=S.af a va*S.aa b+S.af b vb
 | [],[],b,vb,_=>by simp[S.af]
 | [],_::_,_,_,h=>by simp at h
 | _::_,[],_,_,h=>by simp at h
 | c::a,v::va,b,vb,h=>by
  rw[List.cons_append,List.cons_append,S.af,S.af,nW b vb (by simpa using h),gN,Int.add_mul,Int.mul_assoc]
  omega
theorem yy:∀{cs vs:List Int} (a:Int),(∀c∈cs,1<=c)->InC cs vs->S.bf cs (a*S.aa cs+S.af cs vs)=a
 | [],[],a,_,_=>by simp[S.bf,S.aa,S.af]
 | [],_::_,_,_,h=>by cases h
 | _::_,[],_,_,h=>by cases h
 | c::cs,v::vs,a,hc,h=>by
  obtain ⟨⟨h1,h2⟩,h3⟩:=h
  have ih:=yy (cs:=cs) (vs:=vs) (a*c+v) (fun x hx=>hc x (by simp[hx])) h3
  have e:a*S.aa (c::cs)+S.af (c::cs) (v::vs)=(a*c+v)*S.aa cs+S.af cs vs:=by
   rw[bQ,S.af,Int.add_mul,Int.mul_assoc];omega
  rw[e]
  show S.bf cs _ / c=a
  rw[ih,Int.add_comm,Int.add_mul_ediv_right _ _ (by omega),Int.ediv_eq_zero_of_lt h1 h2];omega
theorem u0:∀{cs vs:List Int} (a:Int) (i:Nat),(∀c∈cs,1<=c)->InC cs vs->i<cs.length->S.aJ cs (a*S.aa cs+S.af cs vs) i=vs[i]?.getD 0
 | [],_,_,_,_,_,hi=>by simp at hi
 | _::_,[],_,_,_,h,_=>by cases h
 | c::cs,v::vs,a,i,hc,h,hi=>by
  obtain ⟨⟨h1,h2⟩,h3⟩:=h
  have hc':∀x∈cs,1<=x:=fun x hx=>hc x (by simp[hx])
  have e:a*S.aa (c::cs)+S.af (c::cs) (v::vs)=(a*c+v)*S.aa cs+S.af cs vs:=by
   rw[bQ,S.af,Int.add_mul,Int.mul_assoc];omega
  rw[e]
  cases i with
  | zero =>
   show S.bf cs _ % c=v
   rw[yy _ hc' h3,Int.add_comm,Int.add_mul_emod_self_right,Int.emod_eq_of_lt h1 h2]
  | succ i =>
   have:=u0 (a*c+v) i hc' h3 (by simpa using hi)
   simpa [S.aJ] using this
theorem yY {cs vs:List Int}(hc:∀c∈cs,1<=c)(h:InC cs vs):S.ak cs (S.af cs vs)=vs:=by
 have hl:=h.len
 refine List.ext_getElem (by simp[S.ak,hl]) fun i h1 h2=>?_
 have hi:i<cs.length:=by simpa [S.ak] using h1
 have:=u0 0 i hc h hi
 rw[Int.zero_mul,Int.zero_add,List.getElem?_eq_getElem h2,Option.getD_some] at this
 simp[S.ak,this]
theorem pk {cs:List Int}(hc:∀c∈cs,1<=c)(h:Int):InC cs (S.ak cs h):=by
 refine wj (by simp[S.ak]) fun i c v h1 h2=>?_
 have hi:=(List.getElem?_eq_some_iff.1 h1).1
 rw[S.ak,List.getElem?_map,List.getElem?_range hi,Option.map_some,Option.some.injEq] at h2
 have hcc:=hc c (List.mem_of_getElem? h1)
 rw[<-h2,S.aJ,h1,Option.getD_some]
 exact ⟨Int.emod_nonneg _ (by omega),Int.emod_lt_of_pos _ (by omega)⟩
theorem gn (cs:List Int)(h:Int):(S.ak cs h).length=cs.length:=by simp[S.ak]
theorem bA:∀{cs:List Int},(∀c∈cs,1<=c)->1<=S.aa cs
 | [],_=>by decide
 | c::cs,h=>by
  rw[bQ]
  have h1:=h c (by simp)
  have h2:=bA (cs:=cs) fun x hx=>h x (by simp[hx])
  exact Int.le_trans h1 (by have:=Int.mul_le_mul_of_nonneg_left h2 (show 0<=c by omega);omega)
theorem tg:∀(cs:List Int) (n:Nat),S.af cs (List.replicate n 0)=0
 | [],n=>by cases n<;>rfl
 | _::_,0=>rfl
 | c::cs,n+1=>by rw[List.replicate_succ,S.af,tg cs n];simp
theorem vT:∀{cs vs:List Int},cs.length=vs.length->(∀(i:Nat) (c:Int),cs[i]?=some c->vs[i]?.getD 0=c - 1)->S.af cs vs=S.aa cs - 1
 | [],[],_,_=>by decide
 | [],_::_,h,_=>by simp at h
 | _::_,[],h,_=>by simp at h
 | c::cs,v::vs,hl,h=>by
  have h0:=h 0 c rfl
  have ih:=vT (cs:=cs) (vs:=vs) (by simpa using hl) fun i x hx=>by have:=h (i+1) x (by simpa using hx);simpa using this
  simp at h0
  rw[S.af,ih,bQ,h0,Int.sub_mul];omega
theorem EP {cs vs:List Int}(hl:cs.length=vs.length){i:Nat}{x:Int}(hi:vs[i]?=some x)(hm:∀(j:Nat) (c:Int),i<j->cs[j]?=some c->vs[j]?.getD 0=c - 1) :
  S.af cs (vs.take i++(x+1)::List.replicate (vs.length - (i+1)) 0)=S.af cs vs+1:=by
 have hil:=(List.getElem?_eq_some_iff.1 hi).1
 obtain ⟨c,hc⟩:∃c,cs[i]?=some c:=⟨_,List.getElem?_eq_getElem (by omega)⟩
 have e1:cs=cs.take i++c::cs.drop (i+1):=by
  have:=List.drop_eq_getElem_cons (l:=cs) (i:=i) (by omega)
  rw[List.getElem?_eq_getElem (by omega),Option.some.injEq] at hc
  rw[<-hc,<-this,List.take_append_drop]
 have e2:vs=vs.take i++x::vs.drop (i+1):=by
  have:=List.drop_eq_getElem_cons (l:=vs) (i:=i) hil
  rw[List.getElem?_eq_getElem hil,Option.some.injEq] at hi
  rw[<-hi,<-this,List.take_append_drop]
 have hlt:(cs.take i).length=(vs.take i).length:=by simp[hl]
 have hmx:S.af (cs.drop (i+1)) (vs.drop (i+1))=S.aa (cs.drop (i+1)) - 1:=by
  refine vT (by simp[hl]) fun j d hj=>?_
  rw[List.getElem?_drop] at hj ⊢
  exact hm _ d (by omega) hj
 have h1:S.af cs vs=S.af (cs.take i) (vs.take i)*S.aa (c::cs.drop (i+1))+(x*S.aa (cs.drop (i+1))+S.af (cs.drop (i+1)) (vs.drop (i+1))):=by
  conv=>lhs;rw[e1,e2,nW _ _ hlt,S.af]
 have h2:S.af cs (vs.take i++(x+1)::List.replicate (vs.length - (i+1)) 0)=S.af (cs.take i) (vs.take i)*S.aa (c::cs.drop (i+1))+((x+1)*S.aa (cs.drop (i+1))+0):=by
  conv=>lhs;rw[e1,nW _ _ hlt,S.af,tg]
 rw[h2,h1,hmx,Int.add_mul]
 omega
end Hx
end
section
namespace Hx
open Go
def S.ac (n:Net):List Int:=n.nodes.map (·.card)
def S.ae (cs ps:List Int):List Int:=ps.map fun p=>cs[p.toNat]?.getD 0
def S.am (n:Net):List Nat:=n.nodes.map fun x=>S.ap x.parents
def S.aI (gr card:Int)(r:List Int):Bool:=decide ((r.length:Int)=card)&&r.all (fun x=>decide (0<=x)&&decide (x<=gr))&&decide (r.sum=gr)
def S.bw (k:Int)(x:Node):Bool:=decide (1<=x.card)&&decide (x.card<=4)&&S.aV x.parents k
def S.br (n:Net)(x:Node):Bool:=decide ((x.rows.length:Int)=S.aa (S.ae (S.ac n) x.parents))&&x.rows.all (S.aI n.grain x.card)
def S.aF (n:Net):Bool:=decide (1<=n.grain)&&decide (n.grain<=60)&&decide (1<=n.nodes.length)&&decide (n.nodes.length<=8)&&n.nodes.all (S.bw n.nodes.length)&&decide (S.aa (S.ac n)<=1024)&&S.a8 (S.am n)&&n.nodes.all (S.br n)
structure NR (n:Net):Prop where
 g1:1<=n.grain
 g2:n.grain<=60
 l1:1<=n.nodes.length
 l2:n.nodes.length<=8
 card:∀x∈n.nodes,1<=x.card/\x.card<=4
 places:∀x∈n.nodes,S.aV x.parents n.nodes.length=true
 worlds:S.aa (S.ac n)<=1024
 acyc:S.a8 (S.am n)=true
 rows:∀x∈n.nodes,(x.rows.length:Int)=S.aa (S.ae (S.ac n) x.parents)
 row:∀x∈n.nodes,∀r∈x.rows,(r.length:Int)=x.card/\(∀y∈r,0<=y/\y<=n.grain)/\r.sum=n.grain
theorem cA {n:Net}:S.aF n=true↔NR n:=by
 simp only[S.aF,S.bw,S.br,S.aI,Bool.and_eq_true,decide_eq_true_eq,List.all_eq_true]
 constructor
 ·rintro ⟨⟨⟨⟨⟨⟨⟨a,b⟩,c⟩,d⟩,e⟩,f⟩,g⟩,h⟩
  exact ⟨a,b,c,d,fun x hx=>(e x hx).1,fun x hx=>(e x hx).2,f,g,fun x hx=>(h x hx).1,fun x hx r hr=>⟨((h x hx).2 r hr).1.1,((h x hx).2 r hr).1.2,((h x hx).2 r hr).2⟩⟩
 ·rintro ⟨a,b,c,d,e1,e2,f,g,h1,h2⟩
  exact ⟨⟨⟨⟨⟨⟨⟨a,b⟩,c⟩,d⟩,fun x hx=>⟨e1 x hx,e2 x hx⟩⟩,f⟩,g⟩,fun x hx=>⟨h1 x hx,fun r hr=>⟨⟨(h2 x hx r hr).1,(h2 x hx r hr).2.1⟩,(h2 x hx r hr).2.2⟩⟩⟩
theorem dV {l:List Int}{k:Int}(h:S.aV l k=true):∀x∈l,0<=x/\x<k:=by
 intro x hx
 obtain ⟨i,hi,he⟩:=List.mem_iff_getElem.1 hx
 have:=List.all_eq_true.1 h i (List.mem_range.2 hi)
 have e:l[i]?.getD 0=x:=by rw[List.getElem?_eq_getElem hi,he];rfl
 simp only[S.bi,Bool.and_eq_true,decide_eq_true_eq,e] at this
 omega
theorem oR {l:List Int}{k:Int}(h:S.aV l k=true){i:Nat}{x y:Int}(hx:l[i]?=some x)(hy:l[i+1]?=some y):x<y:=by
 have hi:=(List.getElem?_eq_some_iff.1 hy).1
 have:=List.all_eq_true.1 h (i+1) (List.mem_range.2 hi)
 simp only[S.bi,Bool.and_eq_true,decide_eq_true_eq,hy,Option.getD_some,Nat.add_sub_cancel,hx] at this
 simp at this
 omega
theorem Bt {l:List Int}{k:Int}(h:S.aV l k=true):∀{i j:Nat} {x y:Int},l[i]?=some x->l[j]?=some y->i<j->x<y:=by
 intro i j
 induction j with
 | zero=>intro x y _ _ h;omega
 | succ j ih =>
  intro x y hx hy hij
  have hj:=(List.getElem?_eq_some_iff.1 hy).1
  have hz:l[j]?=some l[j]:=List.getElem?_eq_getElem (by omega)
  have h1:=oR h hz hy
  by_cases e:i=j
  ·subst e
   rw[hx] at hz
   injection hz with hz
   omega
  ·have:=ih hx hz (by omega)
   omega
theorem eJ {l:List Int}{k:Int}(h:S.aV l k=true)(hk:0<=k):(l.length:Int)<=k:=by
 have key:∀(i:Nat) (x:Int),l[i]?=some x->(i:Int)<=x:=by
  intro i
  induction i with
  | zero=>intro x hx;have:=dV h x (List.mem_of_getElem? hx);omega
  | succ i ih =>
   intro x hx
   have hi:=(List.getElem?_eq_some_iff.1 hx).1
   have h1:=ih l[i] (List.getElem?_eq_getElem (by omega))
   have:=oR h (List.getElem?_eq_getElem (show i<l.length by omega)) hx
   omega
 by_cases hl:l.length=0
 ·omega
 ·have h1:=key (l.length - 1) l[l.length - 1] (List.getElem?_eq_getElem (by omega))
  have h2:=dV h _ (List.getElem_mem (show l.length - 1<l.length by omega))
  omega
theorem NR.cs {n:Net}(h:NR n):∀c∈S.ac n,1<=c/\c<=4:=fun c hc=>by
 obtain ⟨x,hx,rfl⟩:=List.mem_map.1 hc
 exact h.card x hx
theorem aR (n:Net):(S.ac n).length=n.nodes.length:=by simp[S.ac]
theorem bh {cs ps:List Int}(hc:∀c∈cs,1<=c/\c<=4)(hp:∀p∈ps,0<=p/\p<cs.length):∀c∈S.ae cs ps,1<=c/\c<=4:=fun c h=>by
 obtain ⟨p,h1,rfl⟩:=List.mem_map.1 h
 have h2:=hp p h1
 rw[List.getElem?_eq_getElem (by omega),Option.getD_some]
 exact hc _ (List.getElem_mem _)
theorem gB {cs ps vals:List Int}(h:InC cs vals)(hp:∀p∈ps,0<=p/\p<cs.length):InC (S.ae cs ps) (S.ae vals ps):=by
 refine wj (by simp[S.ae]) fun i c v h1 h2=>?_
 simp only[S.ae,List.getElem?_map,Option.map_eq_some_iff] at h1 h2
 obtain ⟨p,h3,rfl⟩:=h1
 obtain ⟨p',h4,rfl⟩:=h2
 rw[h3] at h4
 injection h4 with h4
 subst h4
 have h5:=hp p (List.mem_of_getElem? h3)
 have h6:cs[p.toNat]?=some cs[p.toNat]:=List.getElem?_eq_getElem (by omega)
 obtain ⟨v,h7,h8⟩:=h.get h6
 rw[h6,h7,Option.getD_some,Option.getD_some]
 exact h8
theorem bU (cs a b:List Int):S.ae cs (a++b)=S.ae cs a++S.ae cs b:=by simp[S.ae]
def S.ay (n:Net)(vals:List Int)(v:Nat):Int:=match n.nodes[v]? with
 | none=>1
 | some x=>(x.rows[(S.af (S.ae (S.ac n) x.parents) (S.ae vals x.parents)).toNat]?.getD [])[(vals[v]?.getD 0).toNat]?.getD 0
def S.aR (n:Net)(vals:List Int):Int:=S.aa ((List.range n.nodes.length).map (S.ay n vals))
theorem NR.pin {n:Net}(h:NR n){x:Node}(hx:x∈n.nodes):∀p∈x.parents,0<=p/\p<(S.ac n).length:=fun p hp=>by rw[aR];exact dV (h.places x hx) p hp
theorem s8 {n:Net}(h:NR n){vals:List Int}(hv:InC (S.ac n) vals){v:Nat}{x:Node}(hx:n.nodes[v]?=some x) :
  ∃(i:Nat) (r:List Int) (c y:Int),S.af (S.ae (S.ac n) x.parents) (S.ae vals x.parents)=(i:Int)/\i<x.rows.length/\x.rows[i]?=some r/\vals[v]?=some c/\0<=c/\c<x.card/\r[c.toNat]?=some y/\S.ay n vals v=y/\0<=y/\y<=n.grain:=by
 have hm:=List.mem_of_getElem? hx
 have hi:=dQ (bh h.cs (h.pin hm)) (gB hv (h.pin hm))
 rw[<-h.rows x hm] at hi
 obtain ⟨i,he⟩:=Int.eq_ofNat_of_zero_le hi.1
 have hil:i<x.rows.length:=by omega
 have hc:(S.ac n)[v]?=some x.card:=by simp[S.ac,hx]
 obtain ⟨c,h1,h2,h3⟩:=hv.get hc
 obtain ⟨r1,r2,-⟩:=h.row x hm x.rows[i] (List.getElem_mem hil)
 have hcl:c.toNat<(x.rows[i]).length:=by omega
 refine ⟨i,x.rows[i],c,(x.rows[i])[c.toNat],he,hil,List.getElem?_eq_getElem hil,h1,h2,h3,List.getElem?_eq_getElem hcl,?_,r2 _ (List.getElem_mem hcl)⟩
 simp only[S.ay,hx,he,h1,Int.toNat_natCast,List.getElem?_eq_getElem hil,Option.getD_some,List.getElem?_eq_getElem hcl]
theorem pN:∀{l:List Int},(∀x∈l,0<=x/\x<=60)->0<=S.aa l/\S.aa l<=60 ^ l.length
 | [],_=>by decide
 | x::l,h=>by
  have h1:=pN (l:=l) fun y hy=>h y (by simp[hy])
  have h2:=h x (by simp)
  rw[bQ,List.length_cons,Int.pow_succ,Int.mul_comm x]
  refine ⟨Int.mul_nonneg h1.1 h2.1,Int.le_trans (Int.mul_le_mul_of_nonneg_left h2.2 h1.1) (Int.mul_le_mul_of_nonneg_right h1.2 (by decide))⟩
theorem HV {k:Nat}(h:k<=8):(60:Int) ^ k<=167961600000000:=by
 have hk:k=0\/k=1\/k=2\/k=3\/k=4\/k=5\/k=6\/k=7\/k=8:=by omega
 rcases hk with rfl | rfl | rfl | rfl | rfl | rfl | rfl | rfl | rfl<;>decide
theorem B5 {n:Net}(h:NR n){vals:List Int}(hv:InC (S.ac n) vals){v:Nat}(hi:v<n.nodes.length):0<=S.ay n vals v/\S.ay n vals v<=60:=by
 obtain ⟨i,r,c,y,-,-,-,-,-,-,-,e,a,b⟩:=s8 h hv (List.getElem?_eq_getElem hi)
 have:=h.g2
 omega
theorem jH {n:Net}(h:NR n){vals:List Int}(hv:InC (S.ac n) vals){j:Nat}(hj:j<=n.nodes.length):0<=S.aa ((List.range j).map (S.ay n vals))/\S.aa ((List.range j).map (S.ay n vals))<=167961600000000:=by
 have h1:=pN (l:=(List.range j).map (S.ay n vals)) fun x hx=>by
  obtain ⟨i,hi,rfl⟩:=List.mem_map.1 hx
  exact B5 h hv (by have:=List.mem_range.1 hi;omega)
 have h2:=HV (k:=((List.range j).map (S.ay n vals)).length) (by have:=h.l2;simp;omega)
 omega
theorem ph (n:Net)(vals:List Int)(j:Nat):S.aa ((List.range (j+1)).map (S.ay n vals))=S.aa ((List.range j).map (S.ay n vals))*S.ay n vals j:=by
 rw[List.range_succ,List.map_append,List.map_singleton,nO]
def S.aq (n:Net)(p:Nat->Bool):Nat->Int
 | 0=>0
 | j+1=>S.aq n p j+if p j then S.aR n (S.ak (S.ac n) (j:Int)) else 0
theorem oo {n:Net}(h:NR n){vals:List Int}(hv:InC (S.ac n) vals):0<=S.aR n vals/\S.aR n vals<=167961600000000:=jH h hv (Nat.le_refl _)
theorem pg {n:Net}(h:NR n)(p:Nat->Bool):∀j:Nat,0<=S.aq n p j/\S.aq n p j<=167961600000000*j
 | 0=>by simp[S.aq]
 | j+1=>by
  have ih:=pg h p j
  have hw:=oo h (pk (fun c hc=>(h.cs c hc).1) (j:Int))
  rw[S.aq]
  split<;>omega
def S.ah (n:Net):Nat:=(S.aa (S.ac n)).toNat
def S.aN (n:Net)(e:List Int):Int:=S.aq n (fun w=>S.bc (S.ak (S.ac n) (w:Int)) e) (S.ah n)
theorem NR.wl {n:Net}(h:NR n):1<=S.ah n/\S.ah n<=1024/\((S.ah n:Nat):Int)=S.aa (S.ac n):=by
 have h1:=bA fun c hc=>(h.cs c hc).1
 have h2:=h.worlds
 unfold S.ah
 omega
theorem qN {n:Net}(h:NR n)(e:List Int):0<=S.aN n e/\S.aN n e<=171992678400000000:=by
 have h1:=pg h (fun w=>S.bc (S.ak (S.ac n) (w:Int)) e) (S.ah n)
 have h2:=h.wl
 unfold S.aN
 omega
def S.aB (n:Net)(e:List Int):Bool:=decide (e.length=n.nodes.length)&&(List.range e.length).all fun v=>decide (-1<=e[v]?.getD 0)&&decide (e[v]?.getD 0<(S.ac n)[v]?.getD 0)
def S.ax (n:Net)(e:List Int):Int:=if S.aF n then (if S.aB n e then 0 else 2) else 50
end Hx
end
section
namespace Hx
open Go
section
variable {b card:Nat}
def S.aw (b card i x:Nat):Nat:=(i / b*card+x)*b+i % b
def S.aE (b card p:Nat):Nat:=p / (b*card)*b+p % b
def S.aU (b card p:Nat):Nat:=p / b % card
theorem Af (hb:0<b){i x:Nat}(hx:x<card):S.aE b card (S.aw b card i x)=i/\S.aU b card (S.aw b card i x)=x:=by
 have hm:=Nat.mod_lt i hb
 have h1:S.aw b card i x / b=i / b*card+x:=by
  unfold S.aw
  rw[Nat.add_comm,Nat.add_mul_div_right _ _ hb,Nat.div_eq_of_lt hm,Nat.zero_add]
 have h2:S.aw b card i x % b=i % b:=by
  unfold S.aw
  rw[Nat.add_comm,Nat.add_mul_mod_self_right,Nat.mod_mod]
 have h3:(i / b*card+x) / card=i / b:=by rw[Nat.add_comm,Nat.add_mul_div_right _ _ (by omega),Nat.div_eq_of_lt hx,Nat.zero_add]
 have h4:(i / b*card+x) % card=x:=by rw[Nat.add_comm,Nat.add_mul_mod_self_right,Nat.mod_eq_of_lt hx]
 refine ⟨?_,?_⟩
 ·unfold S.aE
  rw[<-Nat.div_div_eq_div_mul,h1,h2,h3,Nat.mul_comm]
  exact Nat.div_add_mod i b
 ·unfold S.aU
  rw[h1,h4]
theorem HD (hb:0<b)(p:Nat):S.aw b card (S.aE b card p) (S.aU b card p)=p:=by
 have hm:=Nat.mod_lt p hb
 have h1:S.aE b card p / b=p / (b*card):=by
  unfold S.aE
  rw[Nat.add_comm,Nat.add_mul_div_right _ _ hb,Nat.div_eq_of_lt hm,Nat.zero_add]
 have h2:S.aE b card p % b=p % b:=by
  unfold S.aE
  rw[Nat.add_comm,Nat.add_mul_mod_self_right,Nat.mod_mod]
 unfold S.aw S.aU
 rw[h1,h2,<-Nat.div_div_eq_div_mul,Nat.mul_comm (p / b / card) card,Nat.div_add_mod,Nat.mul_comm]
 exact Nat.div_add_mod p b
theorem zY (hc:0<card)(p:Nat):S.aU b card p<card:=Nat.mod_lt _ hc
theorem FE {A p:Nat}(hb:0<b)(hp:p<A*b*card):S.aE b card p<A*b:=by
 have h1:p / (b*card)<A:=Nat.div_lt_of_lt_mul (by rw[Nat.mul_comm (b*card),<-Nat.mul_assoc];exact hp)
 have hm:=Nat.mod_lt p hb
 unfold S.aE
 have:(p / (b*card)+1)*b<=A*b:=Nat.mul_le_mul_right _ h1
 rw[Nat.add_mul,Nat.one_mul] at this
 omega
theorem wI {A i x:Nat}(hb:0<b)(hi:i<A*b)(hx:x<card):S.aw b card i x<A*b*card:=by
 have h1:i / b<A:=Nat.div_lt_of_lt_mul (by rw[Nat.mul_comm];exact hi)
 have hm:=Nat.mod_lt i hb
 unfold S.aw
 have h2:(i / b+1)*card<=A*card:=Nat.mul_le_mul_right _ h1
 rw[Nat.add_mul,Nat.one_mul] at h2
 have h3:(i / b*card+x+1)*b<=A*card*b:=Nat.mul_le_mul_right _ (by omega)
 rw[Nat.add_mul (i / b*card+x),Nat.one_mul,Nat.mul_assoc A,Nat.mul_comm card b,<-Nat.mul_assoc] at h3
 omega
def S.aC (rows:List (List Int))(b card t:Nat):List Int:=(List.range (rows.length*card)).map fun p=>if S.aE b card p*card+S.aU b card p<t then (rows[S.aE b card p]?.getD [])[S.aU b card p]?.getD 0 else 0
def S.bg (rows:List (List Int))(b card:Nat):List Int:=(List.range (rows.length*card)).map fun p=>(rows[S.aE b card p]?.getD [])[S.aU b card p]?.getD 0
theorem xi (rows:List (List Int))(b card t:Nat):(S.aC rows b card t).length=rows.length*card:=by simp[S.aC]
theorem BZ (rows:List (List Int))(b card:Nat):S.aC rows b card 0=List.replicate (rows.length*card) 0:=by
 refine List.ext_getElem (by simp[S.aC]) fun i h1 h2=>?_
 simp[S.aC]
theorem Ch {rows:List (List Int)}{A i x:Nat}{r:List Int}{w:Int}(hb:0<b)(hA:rows.length=A*b)(hr:rows[i]?=some r)(hx:x<card)(hw:r[x]?=some w) :
  (S.aC rows b card (i*card+x)).set (S.aw b card i x) w=S.aC rows b card (i*card+x+1):=by
 have hi:=(List.getElem?_eq_some_iff.1 hr).1
 refine List.ext_getElem (by simp[S.aC]) fun p h1 h2=>?_
 have hp:p<rows.length*card:=by simpa [S.aC] using h2
 obtain ⟨q1,q2⟩:=Af hb (i:=i) hx
 rw[List.getElem_set]
 by_cases e:S.aw b card i x=p
 ·subst e
  rw[if_pos rfl]
  simp only[S.aC,List.getElem_map,List.getElem_range,q1,q2]
  rw[if_pos (by omega),hr,Option.getD_some,hw,Option.getD_some]
 ·rw[if_neg e]
  simp only[S.aC,List.getElem_map,List.getElem_range]
  have hf:=zY (b:=b) (card:=card) (by omega) p
  have hne:S.aE b card p*card+S.aU b card p≠i*card+x:=fun h=>e (by
   have e1:S.aE b card p=i:=by
    have h1:(S.aE b card p*card+S.aU b card p) / card=S.aE b card p:=by rw[Nat.add_comm,Nat.add_mul_div_right _ _ (by omega),Nat.div_eq_of_lt hf,Nat.zero_add]
    have h2:(i*card+x) / card=i:=by rw[Nat.add_comm,Nat.add_mul_div_right _ _ (by omega),Nat.div_eq_of_lt hx,Nat.zero_add]
    rw[<-h1,h,h2]
   have e2:S.aU b card p=x:=by rw[e1] at h;omega
   rw[<-HD hb p (card:=card),e1,e2])
  by_cases h:S.aE b card p*card+S.aU b card p<i*card+x
  ·rw[if_pos h,if_pos (by omega)]
  ·rw[if_neg h,if_neg (by omega)]
theorem Fj {rows:List (List Int)}{A:Nat}(hb:0<b)(hA:rows.length=A*b):S.aC rows b card (rows.length*card)=S.bg rows b card:=by
 unfold S.aC S.bg
 refine List.map_congr_left fun p hp=>?_
 have hp:=List.mem_range.1 hp
 have hc:0<card:=Nat.pos_of_ne_zero fun e=>by subst e;simp at hp
 have h1:=FE (A:=A) hb (by rw[<-hA];exact hp)
 have h2:=zY (b:=b) hc p
 rw[if_pos]
 rw[<-hA] at h1
 have:(S.aE b card p+1)*card<=rows.length*card:=Nat.mul_le_mul_right _ h1
 rw[Nat.add_mul,Nat.one_mul] at this
 omega
theorem Fu {rows:List (List Int)}{A i x:Nat}(hb:0<b)(hA:rows.length=A*b)(hi:i<rows.length)(hx:x<card):(S.bg rows b card)[S.aw b card i x]?=some ((rows[i]?.getD [])[x]?.getD 0):=by
 obtain ⟨q1,q2⟩:=Af hb (i:=i) hx
 have hp:=wI (A:=A) (i:=i) hb (by rw[<-hA];exact hi) hx
 simp only[S.bg,List.getElem?_map]
 rw[List.getElem?_range (by rw[hA];exact hp)]
 simp only[Option.map_some,q1,q2]
end
def S.au (ps:List Int)(k:Nat)(v:Int):List Int:=ps.take k++v::ps.drop k
theorem G9 {n:Net}(h:NR n){vals:List Int}(hv:InC (S.ac n) vals){v:Nat}{x:Node}(hx:n.nodes[v]?=some x)(k:Nat) :
  ∃p:Nat,S.af (S.ae (S.ac n) (S.au x.parents k (v:Int))) (S.ae vals (S.au x.parents k (v:Int)))=(p:Int)/\p<x.rows.length*x.card.toNat /\
   (S.bg x.rows (S.aa (S.ae (S.ac n) (x.parents.drop k))).toNat x.card.toNat)[p]?=some (S.ay n vals v):=by
 have hm:=List.mem_of_getElem? hx
 obtain ⟨i,r,c,y,e1,e2,e3,e4,e5,e6,e7,e8,-,-⟩:=s8 h hv hx
 have hpin:=h.pin hm
 have hcb:=bh h.cs hpin
 have hin:=gB hv hpin
 have hcx:(S.ac n)[v]?=some x.card:=by simp[S.ac,hx]
 have ps:x.parents=x.parents.take k++x.parents.drop k:=(List.take_append_drop k _).symm
 have hd1:∀c∈S.ae (S.ac n) (x.parents.drop k),1<=c/\c<=4:=bh h.cs fun p hp=>hpin p (List.mem_of_mem_drop hp)
 have hd2:InC (S.ae (S.ac n) (x.parents.drop k)) (S.ae vals (x.parents.drop k)):=gB hv fun p hp=>hpin p (List.mem_of_mem_drop hp)
 have ht1:∀c∈S.ae (S.ac n) (x.parents.take k),1<=c/\c<=4:=bh h.cs fun p hp=>hpin p (List.mem_of_mem_take hp)
 have ht2:InC (S.ae (S.ac n) (x.parents.take k)) (S.ae vals (x.parents.take k)):=gB hv fun p hp=>hpin p (List.mem_of_mem_take hp)
 obtain ⟨b1,b2⟩:=dQ hd1 hd2
 obtain ⟨a1,a2⟩:=dQ ht1 ht2
 have hlt:(S.ae (S.ac n) (x.parents.take k)).length=(S.ae vals (x.parents.take k)).length:=by simp[S.ae]
 have ei:S.af (S.ae (S.ac n) x.parents) (S.ae vals x.parents)=S.af (S.ae (S.ac n) (x.parents.take k)) (S.ae vals (x.parents.take k))*S.aa (S.ae (S.ac n) (x.parents.drop k))+S.af (S.ae (S.ac n) (x.parents.drop k)) (S.ae vals (x.parents.drop k)):=by
  conv=>lhs;rw[ps,bU,bU,nW _ _ hlt]
 have er:(x.rows.length:Int)=S.aa (S.ae (S.ac n) (x.parents.take k))*S.aa (S.ae (S.ac n) (x.parents.drop k)):=by
  rw[h.rows x hm]
  conv=>lhs;rw[ps,bU,gN]
 have ef:S.af (S.ae (S.ac n) (S.au x.parents k (v:Int))) (S.ae vals (S.au x.parents k (v:Int))) =
   S.af (S.ae (S.ac n) (x.parents.take k)) (S.ae vals (x.parents.take k))*(x.card*S.aa (S.ae (S.ac n) (x.parents.drop k)))+(c*S.aa (S.ae (S.ac n) (x.parents.drop k))+S.af (S.ae (S.ac n) (x.parents.drop k)) (S.ae vals (x.parents.drop k))):=by
  rw[S.au,bU,bU,nW _ _ hlt]
  have:S.ae (S.ac n) ((v:Int)::x.parents.drop k)=x.card::S.ae (S.ac n) (x.parents.drop k):=by simp[S.ae,hcx]
  have h2:S.ae vals ((v:Int)::x.parents.drop k)=c::S.ae vals (x.parents.drop k):=by simp[S.ae,e4]
  rw[this,h2,bQ,S.af]
 have hpp:=bA fun c hc=>(hd1 c hc).1
 generalize S.aa (S.ae (S.ac n) (x.parents.drop k))=B at *
 generalize S.aa (S.ae (S.ac n) (x.parents.take k))=A at *
 generalize S.af (S.ae (S.ac n) (x.parents.drop k)) (S.ae vals (x.parents.drop k))=q at *
 generalize S.af (S.ae (S.ac n) (x.parents.take k)) (S.ae vals (x.parents.take k))=a at *
 obtain ⟨B,rfl⟩:=Int.eq_ofNat_of_zero_le (show 0<=B by omega)
 obtain ⟨A,rfl⟩:=Int.eq_ofNat_of_zero_le (show 0<=A by omega)
 obtain ⟨q,rfl⟩:=Int.eq_ofNat_of_zero_le b1
 obtain ⟨a,rfl⟩:=Int.eq_ofNat_of_zero_le a1
 obtain ⟨c,rfl⟩:=Int.eq_ofNat_of_zero_le e5
 obtain ⟨C,hC⟩:=Int.eq_ofNat_of_zero_le (show 0<=x.card by omega)
 rw[hC] at ef e6 ⊢
 have hB:0<B:=by omega
 have hq:q<B:=by omega
 have hc:c<C:=by omega
 rw[e1] at ei
 have hi:i=a*B+q:=by
  have:(i:Int)=((a*B+q:Nat):Int):=by rw[ei,Int.natCast_add,Int.natCast_mul]
  omega
 have hiB:i / B=a:=by rw[hi,Nat.add_comm,Nat.add_mul_div_right _ _ hB,Nat.div_eq_of_lt hq,Nat.zero_add]
 have hiM:i % B=q:=by rw[hi,Nat.add_comm,Nat.add_mul_mod_self_right,Nat.mod_eq_of_lt hq]
 have hrl:x.rows.length=A*B:=by
  have:((x.rows.length:Nat):Int)=((A*B:Nat):Int):=by rw[er,Int.natCast_mul]
  omega
 refine ⟨S.aw B C i c,?_,?_,?_⟩
 ·rw[ef,S.aw,hiB,hiM,Nat.add_mul,Int.natCast_add,Int.natCast_add,Int.natCast_mul,Int.natCast_mul,Int.natCast_mul,Int.mul_assoc]
  omega
 ·rw[Int.toNat_natCast,hrl]
  exact wI hB (by rw[<-hrl];exact e2) hc
 ·rw[Int.toNat_natCast,Int.toNat_natCast,Fu hB hrl e2 hc,e3,Option.getD_some]
  rw[Int.toNat_natCast] at e7
  rw[e7,e8];rfl
end Hx
end
section
namespace Hx
open Go
noncomputable section
abbrev wc:Type:=UInt8×UInt8×List UInt8
abbrev qt:Type:=UInt8×List wc×List UInt8
abbrev AN:Type:=UInt8×UInt8×UInt8×Int
theorem vy {P:Nat->Prop}{k:Nat}{h:H}{x:wc}{cs:List AV}:Rp.rp P k h x cs↔∃a,cs=[u8v x.1,u8v x.2.1,a]/\SlR P k h x.2.2 a:=by
 constructor
 ·rintro ⟨c1,c2,rfl,h1,c3,c4,rfl,h2,⟨a,rfl,h4⟩⟩
  rw[fe.1 h1,fe.1 h2];exact ⟨a,rfl,h4⟩
 ·rintro ⟨a,rfl,h4⟩
  exact ⟨[_],[_,a],rfl,fe.2 rfl,[_],[a],rfl,fe.2 rfl,⟨a,rfl,h4⟩⟩
theorem uV {P:Nat->Prop}{k:Nat}{h:H}{x:qt}{cs:List AV}:Rp.rp P k h x cs↔∃a b,cs=[u8v x.1,a,b]/\SlR P k h x.2.1 a/\SlR P k h x.2.2 b:=by
 constructor
 ·rintro ⟨c1,c2,rfl,h1,c3,c4,rfl,⟨a,rfl,ha⟩,⟨b,rfl,hb⟩⟩
  rw[fe.1 h1];exact ⟨a,b,rfl,ha,hb⟩
 ·rintro ⟨a,b,rfl,ha,hb⟩
  exact ⟨[_],[a,b],rfl,fe.2 rfl,[a],[b],rfl,⟨a,rfl,ha⟩,⟨b,rfl,hb⟩⟩
theorem Hn {d k k2:Nat}{g:G}{P P2:Nat->Prop}{v w:AV}{l p:List Int}(hd:0<d)(hv:SlR P k g.h l v)(hw:SlR P2 k2 g.h p w)(hp:p.length<1073741824)(hin:∀x∈p,0<=x/\x<l.length) :
  ∃r,am C0 d N.a9 [v,w] g=.val r/\IT 0 (S.ae l p) r:=by
 obtain ⟨v',e1,r1⟩:=fG hv d
 obtain ⟨w',e2,r2⟩:=fG hw d
 rw[t_]
 refine aX xh (xs:=[v',w']) (by simp only[aB,e1,e2]) (by simp[o_]) (aM _) (by decide) hd ?_
 simp only[sz,simprocAttr,o_]
 have n2:=fun g=>(r2 .nil).len g
 have ra:∀h',ae h' 1 v'=some (l.map ci):=fun h'=>(r1 h').ints
 have rb:∀h',ae h' 1 w'=some (p.map ci):=fun h'=>(r2 h').ints
 refine Ab (v:=w') (m:=p.length) (by omega) n2 (fun j t df g=>df=[]/\St t [(0,v')]/\∃u,tat t 5=u/\Own g 0 u 1 ((S.ae l (p.take j)).map ci)) ⟨rfl,by simp[St,sx],_,rfl,.inl ⟨by simp[sx],by simp[S.ae]⟩⟩ (by simp[sx]) (by simp[sx]) (by decide)
  (by rintro j t df g v s (rfl | rfl | rfl | rfl | rfl | rfl | rfl)<;>simp[sx,St]) ?_ ?_
 ·rintro j t df g1 hj ⟨rfl,⟨h0,-⟩,u,h5,hu⟩ h6 h1
  obtain ⟨x,hx,htk,hm⟩:=au hj
  obtain ⟨hx0,hxl⟩:=hin x hm
  obtain ⟨n,rfl⟩:=Int.eq_ofNat_of_zero_le hx0
  have hn:n<l.length:=by omega
  simp only[sz,simprocAttr,ra,rb,h0,h1,h5,h6,hx,hj,hn,List.length_map,List.getElem?_map,Option.map_some,ci,List.getElem?_eq_getElem hn]
  refine dw (new:=[ci l[n]]) (hu.step (Fr.new _ _)) (by simp[sx,sy,ci]) (by simp) (by simp[bg,S.ae];omega) fun v2 g2 hv2 n2 f2 _ l2=>?_
  simp only[sz,simprocAttr,h0,h1,h6,St]
  refine ⟨_,rfl,?_⟩
  rw[htk]
  simpa [hn,ci,S.ae] using hv2
 ·rintro t df g1 ⟨rfl,⟨h0,-⟩,u,h5,hu⟩ -
  rw[List.take_length] at hu
  simp only[sz,simprocAttr,oC,h5]
  exact ⟨_,hu.ints (by simp[S.ae];omega)⟩
theorem Cv {d k:Nat}{g:G}{P:Nat->Prop}{v:AV}{n:Net}(hd:0<d)(hm:Agg n P k g.h v)(hn:n.nodes.length<1073741824) :
  ∃r,am C0 d N.ba [v] g=.val r/\IT 0 (S.ac n) r:=by
 obtain ⟨v',e,cs,rfl,hc⟩:=mS (cT n) (by decide) d hm
 obtain ⟨b,rfl,hN⟩:=iG.1 hc
 obtain ⟨rows,r1,r2,r3,r4⟩:=hN.all
 have r1:∀h',ae h' 3 b=some rows:=r1
 rw[qu]
 refine aX tE (xs:=[.agg [.int .i64 n.grain,b]]) (by simp only[aB,e]) (by simp[jL]) (aM _) (by decide) hd ?_
 simp only[sz,simprocAttr,jL,lX,kC]
 refine fJ n.nodes.length (by omega) (fun j t df g=>df=[]/\tat t 1=.hptr 0 0 0 0/\g.h.get 0=.cells 2 [[.int .i64 n.grain,b]] 0 false false/\1<=g.nx/\∃u,tat t 3=u/\Own g 1 u 1 (((n.nodes.take j).map (·.card)).map ci))
  ⟨rfl,by simp[sx],by simp[sx],by simp[sx],_,rfl,.inl ⟨by simp[sx],rfl⟩⟩ (by simp[sx]) (by decide)
  (by rintro j t df g v s (rfl | rfl | rfl)<;>simp[sx]) ?_ ?_ ?_
 ·rintro j t df g hj ⟨rfl,h1,hg,hnx,u,h3,hu⟩ h4
  simp only[sz,simprocAttr,h1,h4,hg,hN.len]
  exact ⟨hnx,u,h3,hu⟩
 ·rintro j t df g hj ⟨rfl,h1,hg,hnx,u,h3,hu⟩ h4
  obtain ⟨x,hx,htk,hm⟩:=au hj
  obtain ⟨row,q1,q2⟩:=r3 j x hx
  obtain ⟨a',b',rfl,ha',-⟩:=dv.1 q2
  have hlt:j<rows.length:=by omega
  have hry:=r4 (by omega)
  simp only[sz,simprocAttr,h1,h3,h4,hg,r1,hlt,q1,hry]
  refine dw (new:=[ci x.card]) (hu.step (Fr.new _ _)) (by simp[sx,sy,ci]) (by simp) (by simp[bg];omega) fun v2 g2 hv2 n2 f2 _ l2=>?_
  simp only[sz,simprocAttr,h1,h4]
  refine ⟨?_,?_,_,rfl,?_⟩
  ·rw[f2 0 (by simp) (fun e=>by have:=(hu.lt e).1;omega),G.new_h,aP _ _ _ (by omega),hg]
  ·simp at n2;omega
  ·rw[htk]
   simpa [ci] using hv2
 ·rintro t df g ⟨rfl,h1,hg,hnx,u,h3,hu⟩
  rw[List.take_length] at hu
  simp only[sz,simprocAttr,ko,h3]
  exact ⟨_,hu.ints (by simp;omega)⟩
theorem B8 {d k:Nat}{g:G}{P:Nat->Prop}{v:AV}{n:Net}{i:Nat}{x:Node}(hd:0<d)(hm:Agg n P k g.h v)(hn:n.nodes.length<1073741824)(hx:n.nodes[i]?=some x)(hl:x.parents.length<1073741824)(hin:∀p∈x.parents,0<=p/\p<n.nodes.length) :
  ∃r,am C0 d N.aR [v,.int .i64 (i:Int)] g=.val r/\IT 0 (S.ae (S.ac n) x.parents) r:=by
 obtain ⟨v',e,cs,rfl,hc⟩:=mS (cT n) (by decide) d hm
 have hc':=hc
 obtain ⟨b,rfl,hN⟩:=iG.1 hc
 have hm':∀h,Agg n NoP (max k d) h (.agg [.int .i64 n.grain,b]):=fun h=>⟨_,rfl,Rp.tree hc' (Nat.le_refl _)⟩
 obtain ⟨rows,r1,r2,r3,r4⟩:=hN.all
 have r1:∀h',ae h' 3 b=some rows:=r1
 obtain ⟨row,q1,q2⟩:=r3 i x hx
 obtain ⟨a',b',rfl,ha',-⟩:=dv.1 q2
 have hil:=(List.getElem?_eq_some_iff.1 hx).1
 have hlt:i<rows.length:=by omega
 have hry:=r4 (by omega)
 rw[lD]
 refine aX mH (xs:=[.agg [.int .i64 n.grain,b],.int .i64 (i:Int)]) (by simp only[aB,e,dq 0]) (by simp[d6]) (aM _) (by decide) hd ?_
 simp only[sz,simprocAttr,d6,ge]
 refine fF (Cv (Nat.succ_pos d) (hm' _) hn) fun rc hrc=>?_
 have hat:=fun g=>Hn (d:=d+1) (g:=g) (P:=NoP) (P2:=NoP) (k:=0) (k2:=max k d) (l:=S.ac n) (p:=x.parents) (Nat.succ_pos d) (hrc.sl g.h) (ha'.tree (h':=g.h) (Nat.le_refl _)) hl (fun p hp=>by rw[aR];exact hin p hp)
 simp only[sz,simprocAttr,r1,hlt,q1,hry]
 refine fF (hat _) fun r hr=>?_
 simp only[sz,simprocAttr]
 obtain ⟨w,hw,hs⟩:=hr
 exact ⟨_,w,hw,hs.tree (Nat.le_refl _)⟩
theorem C2 {d k:Nat}{g:G}{P:Nat->Prop}{v:AV}{l:List Int}(hd:0<d)(hv:SlR P k g.h l v):am C0 d N.aM [v] g=.val (.int .i64 (S.aY l)):=by
 have b:=AB hv.ints
 have:=Fy hd (BY hv.ints) (by rw[b];exact hv.1)
 rwa [b] at this
theorem fR {g:G}{v:AV}{n:Net}(d:Nat)(hm:Agg n NoP 0 g.h v):∃b rows,v=.agg [.int .i64 n.grain,b]/\Hx.snap g.h d aD v=some v/\(∀h,Agg n NoP 0 h v)/\SlR NoP 0 .nil n.nodes b/\(∀h,ae h 3 b=some rows)/\rows.length=n.nodes.length /\
  (∀(i:Nat) (x:Node),n.nodes[i]?=some x->∃pa ra,rows[i]?=some [.int .i64 x.card,pa,ra]/\i<rows.length/\SlR NoP 0 .nil x.parents pa/\SlR NoP 0 .nil x.rows ra)/\(0<n.nodes.length->tN b=true):=by
 have e:=iH d hm
 obtain ⟨cs,rfl,hc⟩:=hm
 have hc':=hc
 obtain ⟨b,rfl,hN⟩:=iG.1 hc
 have hN:=hN.tree (h':=.nil) (Nat.le_refl _)
 obtain ⟨rows,r1,r2,r3,r4⟩:=hN.all
 refine ⟨b,rows,rfl,e,fun h=>⟨_,rfl,Rp.tree hc' (Nat.le_refl _)⟩,hN,r1,r2,fun i x hx=>?_,r4⟩
 obtain ⟨row,q1,q2⟩:=r3 i x hx
 obtain ⟨a',b',rfl,ha',hb'⟩:=dv.1 q2
 exact ⟨a',b',q1,by rw[r2];exact (List.getElem?_eq_some_iff.1 hx).1,ha',hb'⟩
theorem wB {k:Nat}{l:List (List Int)}{b:AV}(hb:SlR NoP k .nil l b):∃rows:List (List AV),(∀h,ae h 1 b=some rows)/\rows.length=l.length/\(∀(i:Nat) (r:List Int),l[i]?=some r->∃z,rows[i]?=some [z]/\i<rows.length/\SlR NoP k .nil r z)/\(0<l.length->tN b=true):=by
 obtain ⟨rows,r1,r2,r3,r4⟩:=hb.all
 refine ⟨rows,r1,r2,fun i r hr=>?_,r4⟩
 obtain ⟨row,q1,q2⟩:=r3 i r hr
 obtain ⟨z,rfl,hz⟩:=kT.1 q2
 exact ⟨z,q1,by rw[r2];exact (List.getElem?_eq_some_iff.1 hr).1,hz⟩
section
variable {d:Nat}{b pa ra z:AV}{gr card:Int}{r:List Int}
def LR5 (v:Nat)(q:Nat):List (Nat×AV):=[(1,.hptr 0 0 0 0),(6,.int .i64 (v:Int)),(7,.hptr q 0 0 0)]
structure RJ1 (gr:Int) (r:List Int) (v q i j:Nat) (t:T):Prop where
 st:St t ((8,.int .i64 (i:Int))::LR5 v q)
 s9:tat t 9=.int .i64 (r.take j).sum
 all:∀y∈r.take j,0<=y/\y<=gr
structure RJ4 (gr card:Int) (rws:List (List Int)) (v q j:Nat) (t:T):Prop where
 st:St t (LR5 v q)
 all:∀r∈rws.take j,S.aI gr card r=true
structure RJ0 (n:Net) (b:AV) (j:Nat) (t:T) (g:G):Prop where
 st:St t [(1,.hptr 0 0 0 0),(3,.int .i64 (S.aa ((S.ac n).take j)))]
 hg:g.h.get 0=.cells 2 [[.int .i64 n.grain,b]] 0 false false
 nx:1<=g.nx
 all:∀x∈n.nodes.take j,S.bw n.nodes.length x=true
structure RJ6 (n:Net) (b:AV) (j:Nat) (t:T) (g:G):Prop where
 st:St t [(1,.hptr 0 0 0 0)]
 hg:g.h.get 0=.cells 2 [[.int .i64 n.grain,b]] 0 false false
 nx:1<=g.nx
 all:∀x∈n.nodes.take j,S.br n x=true
end
end
end Hx
end
section
namespace Hx
open Go
noncomputable section
def OwnC (g:G)(b id:Nat)(l tl:List Int):Prop:=b<=id/\id<g.nx/\g.h.get id=.cells 1 (l.map ci++tl.map ci) 0 false false
theorem OwnC.rows {g:G}{b id:Nat}{l tl:List Int}(h:OwnC g b id l tl):ae g.h 1 (.hsl id 0 0 l.length none)=some (l.map ci):=by
 rw[gv,h.2.2,dg,if_pos (by simp),List.drop_zero,List.take_left' (by simp)]
theorem OwnC.fr {g g':G}{b id:Nat}{l tl:List Int}(h:OwnC g b id l tl)(hn:g.nx<=g'.nx)(hf:g'.h.get id=g.h.get id):OwnC g' b id l tl:=⟨h.1,Nat.lt_of_lt_of_le h.2.1 hn,by rw[hf,h.2.2]⟩
theorem HQ {g:G}{b n:Nat}{K:AV->G->Prop}{D:ADf->Prop}(hn:n<=1000)(hb:b<=g.nx)(k:∀g',OwnC g' b g.nx [] (List.replicate n 0)->g'.nx=g.nx+1->(∀i,i<g.nx->g'.h.get i=g.h.get i)->K (.hsl g.nx 0 0 0 none) g') :
  (B6 1 8 [.int .i64 0] (.int .i64 0) (.int .i64 (n:Int)) g).sat K g D:=by
 have h1:n<=bg:=by unfold bg;omega
 have h2:n*8<=bg:=by unfold bg;omega
 have key:B6 1 8 [.int .i64 0] (.int .i64 0) (.int .i64 (n:Int)) g=.upd (.hsl g.nx 0 0 0 none) (g.new (.cells 1 (fk n [.int .i64 0]) 0 false false)):=by
  show (match cR bg (.int .i64 (.ofNat n)) with
   | some cn=>match cR cn (.int .i64 0) with
    | some ln=>an (Nat.ble (cn*8) bg) (OR.upd (.hsl g.nx 0 0 ln none) (g.new (.cells 1 (fk cn [.int .i64 0]) 0 false false))) .fail
    | none=>.fail
   | none=>.fail)=_
  have a1:cR bg (.int .i64 (.ofNat n))=some n:=by
   show an (Nat.ble n bg) (some n) none=_
   rw[aa,if_pos (by simpa using h1)]
  have a2:cR n (.int .i64 0)=some 0:=by
   show an (Nat.ble 0 n) (some 0) none=_
   rw[aa,if_pos (by simp)]
  rw[a1];dsimp only;rw[a2];dsimp only
  rw[aa,if_pos (by simpa using h2)]
 rw[key]
 refine k _ ⟨hb,by simp,?_⟩ (by simp) (fun i hi=>?_)
 ·simp[bf,fk,ci]
 ·rw[G.new_h,aP _ _ _ (by omega)]
theorem E6 {g:G}{b id:Nat}{l tl:List Int}{x y:Int}{w:AV}{K:AV->G->Prop}{D:ADf->Prop}(hv:OwnC g b id l (y::tl))(hx:ae g.h 1 w=some [ci x])(hr:l.length<=1000)
  (k:∀g',OwnC g' b id (l++[x]) tl->g'.nx=g.nx->(∀i,i≠id->g'.h.get i=g.h.get i)->K (.hsl id 0 0 (l++[x]).length none) g'):(cV 1 8 (.hsl id 0 0 l.length none) w g).sat K g D:=by
 unfold cV
 rw[hx]
 obtain ⟨h1,h2,h3⟩:=hv
 simp only[aY,G.get_eq,h3,ap,aa,Nat.beq_refl,Bool.true_and,Nat.ble_eq,Bool.and_eq_true,Nat.zero_add,Option.getD_none,Nat.sub_zero,List.length_append,List.length_map,List.length_cons,List.length_nil]
 rw[if_pos ⟨by omega,by unfold bg;omega⟩,if_pos (by omega)]
 have hnb:fU false=true:=rfl
 rw[if_pos ⟨by omega,hnb⟩]
 have e:iq (l.map ci++(y::tl).map ci) l.length [ci x]=(l++[x]).map ci++tl.map ci:=by
  simp only[iq,fD]
  rw[List.map_append,List.append_assoc,List.map_cons,List.set_append_right _ _ (by simp)]
  simp
 rw[e]
 have k:=k (g.put id (.cells 1 ((l++[x]).map ci++tl.map ci) 0 false false)) ⟨h1,by simpa using h2,by simp[bf]⟩ (by simp) (fun i hi=>by rw[G.put_h,aP _ _ _ hi])
 have e3:l.length+1=(l++[x]).length:=by simp
 rw[e3]
 exact k
def HO (p:List Nat):VS:=fun P k h v=>∃o:List Int,True/\pc (One o) (One (S.a8 p)) P k h v
theorem CA {d k:Nat}{g:G}{P:Nat->Prop}{v:AV}{p:List Nat}(hd:0<d)(hv:SlR P k g.h p v)(hn:p.length<=8)(hp:∀x∈p,x<2 ^ p.length) :
  ∃z,am C0 d N.aY [v] g=.val z/\HO p NoP 0 .nil z:=by
 obtain ⟨v',e,r1⟩:=fG hv d
 have hlt:=wP hv
 rw[rk]
 refine aX tX (xs:=[v']) (by simp only[aB,e]) (by simp[lM]) (jk fun o=>cm (m:=1) (aM _) (aM _) (by decide) (by decide)) (by decide) hd ?_
 have vl:∀g,g8 .slice v' g=.val (.int .i64 (p.length:Int)):=fun g=>(r1 .nil).len g
 simp only[sz,simprocAttr,lM,vl]
 refine HQ (b:=0) (n:=p.length) (by omega) (Nat.zero_le _) fun g1 hu hn1 hf1=>?_
 obtain ⟨id,hid⟩:∃id,id=G.empty.nx:=⟨_,rfl⟩
 rw[<-hid] at hu ⊢
 clear hid hn1 hf1
 simp only[sz,simprocAttr]
 refine nc (fun n t df g=>df=[]/\∃(L:List Nat) (D:Nat) (tl:List Int),n=p.length - L.length/\L.length+tl.length=p.length/\CH p L/\Hk D L/\CB p D/\St t [(0,v'),(4,.hsl id 0 0 (L.map fun i:Nat=>(i:Int)).length none),(5,.int .u64 (D:Int))]/\OwnC g 0 id (L.map fun i:Nat=>(i:Int)) tl) p.length
  ⟨rfl,[],0,List.replicate p.length 0,by simp,by simp,⟨by simp,by simp⟩,⟨by decide,by simp⟩,vd,by simp[sx,St],hu⟩ ?_
 rintro n t df g ⟨rfl,L,D,tl,rfl,hLt,hO,hD,hG,⟨h0,h4,h5,-⟩,hu⟩
 have hLl:=CY hO
 have hul:∀g',g8 .slice (.hsl id 0 0 (L.map fun i:Nat=>(i:Int)).length none) g'=.val (.int .i64 (L.length:Int)):=fun g'=>by rw[iB hu.rows];simp
 simp only[sz,simprocAttr,lT,h0,h4,vl,hul]
 refine dX (fun hb=>?_) (fun hb=>?_)
 ·have hlt2:L.length<p.length:=by simpa using hb
  obtain ⟨y,tl,rfl⟩:∃y tl',tl=y::tl':=by
   cases tl with
   | nil=>simp at hLt;omega
   | cons y tl=>exact ⟨y,tl,rfl⟩
  simp only[sz,simprocAttr,h0,vl,lU]
  refine aT (m:=p.length) (by omega) (fun j t df g'=>df=[]/\g'=g/\St t [(0,v'),(16,v'),(4,.hsl id 0 0 (L.map fun i:Nat=>(i:Int)).length none),(5,.int .u64 (D:Int))]/\∀v,v<j->D.testBit v=true\/¬Sub (Par p v) D)
   ⟨rfl,rfl,by simp[sx,St,h0,h4,h5],fun v hv=>by omega⟩ (by simp[sx]) (by simp[sx]) (by decide) (by rintro j t df g v s (rfl | rfl | rfl)<;>simp[sx,St]) ?_ ?_
  ·rintro j t df g' hj ⟨rfl,rfl,⟨h0,h16,h4,h5,-⟩,hall⟩ h18 h17
   obtain ⟨x,hx,-,hxm⟩:=au hj
   have hpj:Par p j=x:=by simp[Par,hx]
   have hxl:=hlt x hxm
   have hjl:j<(p.map cu).length:=by simpa using hj
   have hjr:(p.map cu)[j]?=some (cu x):=by rw[List.getElem?_map,hx];rfl
   have b1:=Bj .i64 D j hD.1
   have hdv:D / 2 ^ j<18446744073709551616:=Nat.lt_of_le_of_lt (Nat.div_le_self _ _) hD.1
   have b2:bP .and (.int .u64 ((D / 2 ^ j:Nat):Int)) (.int .u64 1)=.val (.int .u64 ((D / 2 ^ j &&& 1:Nat):Int)):=Gu _ 1 hdv (by decide)
   have b3:=ze x D hxl hD.1
   have ra:=fun h=>(r1 h).nats
   have hbit:D.testBit j = !decide (((D / 2 ^ j &&& 1:Nat):Int)=0):=by
    rw[<-qb,S.bj]
    have h2:D / 2 ^ j &&& 1=(D / 2 ^ j) % 2:=Nat.and_one_is_mod _
    rw[h2]
    have:=Nat.mod_lt (D / 2 ^ j) (show 0<2 by decide)
    by_cases h3:D / 2 ^ j % 2=0
    ·rw[h3];simp
    ·have h4:D / 2 ^ j % 2=1:=by omega
     rw[h4];simp
   have next:(D.testBit j=true\/¬Sub (Par p j) D)->∀v,v<j+1->D.testBit v=true\/¬Sub (Par p v) D:=fun h v hv=>by
    by_cases e:v=j
    ·subst e;exact h
    ·exact hall v (by omega)
   by_cases c1:((D / 2 ^ j &&& 1:Nat):Int)=0
   ·by_cases c2:((x ^^^ (x &&& D):Nat):Int)=0
    ·have hd0:S.bk x D=0:=by simpa [S.bk] using c2
     have hsub:=uY.1 hd0
     have hjL:j ∉ L:=fun h=>by
      have:=(hD.2 j).2 h
      rw[hbit,c1] at this;simp at this
     have hb2:D ||| S.aL j<18446744073709551616:=Er hD.1 (su j)
     simp only[sz,simprocAttr,h16,h4,h5,h18,b1,b2,b3,ra,hjl,hjr,cu,c1,c2]
     refine E6 (x:=(j:Int)) (hu.fr (by simp) (by rw[G.new_h,aP _ _ _ (by have:=hu.2.1;omega)])) (by simp[sx,sy,ci]) (by simp;omega) fun g2 hu2 n2 f2=>?_
     have hone:bP .shl (.int .u64 1) (.int .i64 (j:Int))=.val (.int .u64 (S.aL j:Int)):=qH .i64 j
     have e1:(L.map fun i:Nat=>(i:Int))++[(j:Int)]=(L++[j]).map fun i:Nat=>(i:Int):=by simp
     rw[e1] at hu2 ⊢
     simp only[sz,simprocAttr,h5,hone,EL _ _ hD.1 (su j)]
     refine ⟨p.length - (L++[j]).length,by simp;omega,L++[j],D ||| S.aL j,tl,rfl,by simp at hLt ⊢;omega,Cz hO hjL hj fun q hq=>?_,Cd hD (by omega),wZ hG (by omega) (by rw[hpj];exact hsub),by simp[sx,St,h0],hu2⟩
     rw[hpj] at hq;exact (hD.2 q).1 (hsub q hq)
    ·have hns:¬Sub (Par p j) D:=fun h=>c2 (by
      have:=uY.2 h
      rw[hpj] at this
      simp[S.bk] at this
      simp[this])
     simp only[sz,simprocAttr,h0,h16,h4,h5,h18,h17,b1,b2,b3,ra,hjl,hjr,cu,c1,c2,St]
     exact next (.inr hns)
   ·simp only[sz,simprocAttr,h0,h16,h4,h5,h18,h17,b1,b2,ra,hjl,hjr,cu,c1,St]
    exact next (.inl (by rw[hbit,decide_eq_false c1];rfl))
  ·rintro t df g' ⟨rfl,rfl,-,hall⟩
   obtain ⟨v0,hv0,hv0'⟩:=FC hO hlt2
   have hac:S.a8 p=false:=by
    cases hc:S.a8 p with
    | false=>rfl
    | true =>
     have:=vM hp hc (T:=D) (fun v hv hb=>by
      rcases hall v hv with h | h
      ·rw[h] at hb;cases hb
      ·exact h) v0 hv0
     exact absurd ((hD.2 v0).1 this) hv0'
   simp only[sz,simprocAttr,lS]
   exact ⟨fun _=>True,[],.nils,.bool false,rfl,⟨.nils,rfl,by show 0<9223372036854775808;decide,rfl⟩,ir.2 (by rw[hac])⟩
 ·have hge:p.length<=L.length:=by simp at hb;omega
  have htl:tl=[]:=List.eq_nil_of_length_eq_zero (by omega)
  subst htl
  have hfull:=Bw hO hge
  have hac:=pz hG fun v hv=>(hD.2 v).2 (hfull.1 v hv)
  simp only[sz,simprocAttr,l4,h4]
  refine ⟨fun _=>True,L.map (fun i:Nat=>(i:Int)),_,_,rfl,⟨_,rfl,by simp;omega,trivial,_,hu.rows,All2.of_map (fun a=>ax.2 rfl) _⟩,ir.2 (by rw[hac])⟩
end
end Hx
end
