/- A part of the proof: an interpreter over abstract values, shown right against the model, and what the functions of the chapter compute on it. -/
import Derived.Test.YteaikmdilmfbeaaGreatHx9
set_option linter.unusedVariables false
set_option linter.unusedSimpArgs false
set_option linter.unnecessarySimpa false
section
section
namespace Hx
open Go
noncomputable section
theorem ac {α:Type}{l:List α}{j:Nat}(h:j<l.length):∃x,l[j]?=some x/\l.take (j+1)=l.take j++[x]/\x∈l :=
 ⟨l[j],List.getElem?_eq_getElem h,by rw[List.take_add_one,List.getElem?_eq_getElem h];rfl,List.getElem_mem h⟩
def S.aV (l:List Int):Int:=l.foldl (λs x=>IntKind.wrap .i64 (s*x)) 1
theorem IP {d:Nat}{g:G}{v:AV}(hd:0<d)(hv:vA g.h v)(hl:(mc g.h v).length<9223372036854775808) :
  ax C0 d N.aE [v] g=.val (.int .i64 (S.aV (mc g.h v))):=by
 obtain ⟨v',e,hr,hlen⟩:=Ff hv hl d;generalize mc g.h v=l at hr hlen hl ⊢;rw[tR];refine lJ wW (xs:=[v']) (by simp only[aE,e]) (by simp[nH]) hd ?_;simp only[sz,simprocAttr,nH];refine Dw hl hlen (λj t df g=>df=[]/\tat t 3=.int .i64 (S.aV (l.take j))) ⟨rfl,by simp[sx,S.aV]⟩ (by simp[sx]) (by simp[sx]) (by decide)
  (by rintro j t df g v s (rfl | rfl | rfl | rfl | rfl | rfl | rfl)<;>simp[sx]) ?_ ?_
 ·rintro j t df g hj ⟨rfl,h3⟩ h4 h0;obtain ⟨x,hx,htk,hm⟩:=ac hj;simp only[sz,simprocAttr,hr,h0,h3,h4,hx,hj,List.length_map,List.getElem?_map,Option.map_some,ci,htk,S.aV,List.foldl_append,List.foldl_cons,List.foldl_nil]
 ·rintro t df g ⟨rfl,h3⟩ -;rw[List.take_length] at h3;simp only[sz,simprocAttr,ox,h3]
def S.aZ (l:List Int)(n:Int)(i:Nat):Bool:=decide (0<=l[i]?.getD 0)&&decide (l[i]?.getD 0<n)&&(i == 0 || decide (l[i - 1]?.getD 0<l[i]?.getD 0))
def S.au (l:List Int)(n:Int):Bool:=(List.range l.length).all (S.aZ l n)
def S.aP (n:Nat):Nat:=1*2 ^ n % 18446744073709551616
def S.aq (l:List Int):Nat:=l.foldl (λs x=>s ||| S.aP x.toNat) 0
theorem uB (n:Nat):S.aP n<18446744073709551616:=Nat.mod_lt _ (by decide)
theorem tw {α:Type}(f:α->Nat)(hf:∀a,f a<18446744073709551616):∀(l:List α) (s:Nat),s<18446744073709551616->l.foldl (λs x=>s ||| f x) s<18446744073709551616
 | [],_,h=>h
 | a::l,s,h=>tw f hf l _ (GN h (hf a))
theorem ue (l:List Int):S.aq l<18446744073709551616:=tw _ (λa=>uB _) l 0 (by decide)
theorem Er (l:List Int)(x:Int):S.aq (l++[x])=S.aq l ||| S.aP x.toNat:=by simp[S.aq]
theorem tk (k':IntKind)(n:Nat):cy .shl (.int .u64 1) (.int k' (n:Int))=.val (.int .u64 (S.aP n:Int)):=HQ k' 1 n
def S.bG (s v:Nat):Bool:=s / 2 ^ v &&& 1 == 1
def S.aW (p:List Nat)(s:Nat)(j:Nat):Nat:=(List.range j).foldl (λs v=>if S.bG s v then s ||| p[v]?.getD 0 else s) s
def S.up (p:List Nat)(s:Nat)(j:Nat):Nat:=(List.range j).foldl (λs _=>S.aW p s p.length) s
theorem lq (p:List Nat)(s j:Nat):S.aW p s (j+1)=if S.bG (S.aW p s j) j then S.aW p s j ||| p[j]?.getD 0 else S.aW p s j:=by unfold S.aW;rw[List.range_succ,List.foldl_append];rfl
theorem nY (p:List Nat)(s j:Nat):S.up p s (j+1)=S.aW p (S.up p s j) p.length:=by unfold S.up;rw[List.range_succ,List.foldl_append];rfl
def S.bg (p:List Nat):Bool:=(List.range p.length).all λv=>!S.bG (S.up p (p[v]?.getD 0) p.length) v
def S.ae (l:List Int):Int:=l.foldl (·*·) 1
theorem s5 (l:List Int)(x:Int):S.ae (l++[x])=S.ae l*x:=by simp[S.ae]
theorem fe {a b:Nat}(h:a<=b):(4:Int) ^ a<=4 ^ b:=by
 obtain ⟨c,rfl⟩:∃c,b=a+c:=⟨b - a,by omega⟩
 induction c with
 | zero=>exact Int.le_refl _
 | succ c ih =>
  have:=ih (by omega);rw[show a+(c+1)=(a+c)+1 from rfl,Int.pow_succ];have h0:(0:Int)<=4 ^ (a+c):=Int.le_of_lt (Int.pow_pos (by decide));omega
theorem cO (a:Int)(l:List Int):S.ae (a::l)=a*S.ae l:=by
 have:∀(l:List Int) (s:Int),l.foldl (·*·) s=s*l.foldl (·*·) 1:=by
  intro l
  induction l with
  | nil=>intro s;simp
  | cons x l ih=>intro s;rw[List.foldl_cons,ih,List.foldl_cons,ih (1*x),Int.one_mul,Int.mul_assoc]
 unfold S.ae;rw[List.foldl_cons,this,Int.one_mul]
theorem bz:∀{l:List Int},(∀x∈l,1<=x/\x<=4)->1<=S.ae l/\S.ae l<=4 ^ l.length
 | [],_=>⟨by decide,by decide⟩
 | a::l,h=>by
  obtain ⟨h1,h2⟩:=bz (l:=l) λx hx=>h x (by simp[hx]);obtain ⟨h3,h4⟩:=h a (by simp);rw[cO,List.length_cons,Int.pow_succ,Int.mul_comm (4 ^ l.length)];constructor
  ·have:=Int.mul_le_mul h3 h1 (by decide) (by omega);simpa using this
  ·exact Int.mul_le_mul h4 h2 (by omega) (by decide)
theorem wE (l:List Int)(x:Int):(l++[x]).sum=l.sum+x:=by simp
def S.bQ (m:Causal)(p:Int):Int:=(m.nodes[p.toNat]?.map (·.card)).getD 0
def S.bV (m:Causal)(r:Int):Int:=(m.roots[r.toNat]?.map λr=>(r.length:Int)).getD 0
def S.bE (a b:Nat):Nat:=a ^^^ (a &&& b)
theorem JI {n:Nat}(h:n<64):S.aP n=2 ^ n:=by unfold S.aP;rw[Nat.one_mul,Nat.mod_eq_of_lt];exact Nat.pow_lt_pow_right (a:=2) (by decide) h
def S.bX (m:Causal)(x:Mech):List Int:=x.frm.map (S.bQ m)++x.noise.map (S.bV m)
def S.bT (m:Causal):Int:=S.ae (m.roots.map λr=>(r.length:Int))
end
end Hx
end
section
namespace Hx
open Go
def Sub (a s:Nat):Prop:=∀v,a.testBit v=true->s.testBit v=true
theorem rV (s v:Nat):S.bG s v=s.testBit v:=by rw[Nat.testBit_eq_decide_div_mod_eq,S.bG,Nat.and_one_is_mod];rw[Bool.eq_iff_iff,beq_iff_eq,decide_eq_true_iff]
theorem xH {a s:Nat}:S.bE a s=0↔Sub a s:=by
 constructor
 ·intro h v hv;have:=congrArg (·.testBit v) h;simp[S.bE,hv] at this;exact this
 ·intro h;refine Nat.eq_of_testBit_eq λv=>?_;have:=h v;simp only[S.bE,Nat.testBit_xor,Nat.testBit_and,Nat.zero_testBit];cases ha:a.testBit v
  ·rfl
  ·rw[this ha];rfl
theorem pT (a b v:Nat):(a ||| b).testBit v=(a.testBit v || b.testBit v):=Nat.testBit_or a b v
theorem uC {n:Nat}(h:n<64)(v:Nat):(S.aP n).testBit v=decide (n=v):=by rw[JI h,Nat.testBit_two_pow]
section
variable {p:List Nat}
def Par (p:List Nat)(v:Nat):Nat:=p[v]?.getD 0
def Cl (p:List Nat)(s:Nat):Prop:=∀v,v<p.length->s.testBit v=true->Sub (Par p v) s
theorem yh {s t:Nat}(hc:Cl p t)(h:Sub s t):∀j,j<=p.length->Sub (S.aW p s j) t
 | 0,_=>h
 | j+1,hj=>by
  have ih:=yh hc h j (by omega);rw[lq]
  split
  ·rename_i hb;rw[rV] at hb;intro v hv;rw[pT,Bool.or_eq_true] at hv;rcases hv with hv | hv
   ·exact ih v hv
   ·exact hc j (by omega) (ih j hb) v hv
  ·exact ih
theorem Ch {s t:Nat}(hc:Cl p t)(h:Sub s t):∀j,Sub (S.up p s j) t
 | 0=>h
 | j+1=>by rw[nY];exact yh hc (Ch hc h j) _ (Nat.le_refl _)
def DH (p:List Nat)(s:Nat):Prop:=Cl p s/\∀v,v<p.length->s.testBit v=true->(S.up p (Par p v) p.length).testBit v=false
theorem rF:S.bg p=true↔∀v,v<p.length->(S.up p (Par p v) p.length).testBit v=false:=by
 unfold S.bg;rw[List.all_eq_true];constructor
 ·intro h v hv;have:=h v (List.mem_range.2 hv);rw[rV] at this;simpa [Par] using this
 ·intro h v hv;have:=h v (List.mem_range.1 hv);rw[rV];simpa [Par] using this
def bct (s:Nat):Nat->Nat
 | 0=>0
 | n+1=>bct s n+(if s.testBit n then 1 else 0)
theorem Bd (s:Nat):∀n,bct s n<=n
 | 0=>Nat.le_refl _
 | n+1=>by have:=Bd s n;unfold bct;split<;>omega
theorem zx {a s:Nat}(h:Sub a s):∀n,bct a n<=bct s n
 | 0=>Nat.le_refl _
 | n+1=>by
  have:=zx h n;unfold bct
  split
  ·rename_i hb;rw[if_pos (h n hb)];omega
  ·split<;>omega
theorem Fg {a s:Nat}(h:Sub a s){v:Nat}(hv:s.testBit v=true)(ha:a.testBit v=false):∀n,v<n->bct a n<bct s n
 | 0,h0=>by omega
 | n+1,hn=>by
  unfold bct
  by_cases hvn:v=n
  ·subst hvn;have:=zx h v;rw[if_pos hv,ha];simp;omega
  ·have:=Fg h hv ha n (by omega)
   split
   ·rename_i hb;rw[if_pos (h n hb)];omega
   ·split<;>omega
theorem zw {s:Nat}:∀n,bct s n=n->∀v,v<n->s.testBit v=true
 | 0,_,v,h=>by omega
 | n+1,h,v,hv=>by
  unfold bct at h;have:=Bd s n
  split at h
  ·rename_i hb
   by_cases e:v=n
   ·subst e;exact hb
   ·exact zw n (by omega) v (by omega)
  ·omega
theorem sB {a s:Nat}(h:Sub a s)(h':Sub s a):a=s:=Nat.eq_of_testBit_eq λv=>by
 cases ha:a.testBit v
 ·cases hs:s.testBit v
  ·rfl
  ·rw[h' v hs] at ha;cases ha
 ·rw[h v ha]
theorem Kg {a s:Nat}(h:Sub a s):a<=s:=by
 have:a ||| s=s:=Nat.eq_of_testBit_eq λv=>by
  rw[pT];cases ha:a.testBit v
  ·simp
  ·rw[h v ha];rfl
 rw[<-this];exact Nat.left_le_or
theorem nX (s:Nat):∀j,Sub s (S.aW p s j)
 | 0=>λ_ h=>h
 | j+1=>by
  have ih:=nX s j;rw[lq]
  split
  ·intro v hv;rw[pT,ih v hv];rfl
  ·exact ih
theorem Cg {s:Nat}{j k:Nat}(h:j<=k):Sub (S.aW p s j) (S.aW p s k):=by
 induction h with
 | refl=>exact λ_ h=>h
 | step _ ih =>
  rw[lq]
  split
  ·intro v hv;rw[pT,ih v hv];rfl
  ·exact ih
theorem D1 {s:Nat}(h:S.aW p s p.length=s):Cl p s:=by
 intro v hv hb u hu;have h1:(S.aW p s v).testBit v=true:=nX s v v hb;have h2:(S.aW p s (v+1)).testBit u=true:=by rw[lq,rV,h1,if_pos rfl,pT];have:(p[v]?.getD 0).testBit u=true:=hu;rw[this];simp
 have:=Cg (p:=p) (s:=s) (show v+1<=p.length by omega) u h2;rwa [h] at this
theorem Hw {s n v:Nat}(h:s<2 ^ n)(hv:s.testBit v=true):v<n:=by
 rcases Nat.lt_or_ge v n with h1 | h1
 ·exact h1
 ·rw[Nat.testBit_lt_two_pow (Nat.lt_of_lt_of_le h (Nat.pow_le_pow_right (by decide) h1))] at hv;cases hv
theorem KM {f:Nat->Nat}{n:Nat}(hm:∀j,Sub (f j) (f (j+1)))(hb:∀j,f j<2 ^ n)(hs:∀j,f (j+1)=f j->f (j+2)=f (j+1)):f (n+1)=f n:=by
 have key:∀j,j<=bct (f j) n\/f (j+1)=f j:=by
  intro j
  induction j with
  | zero=>exact .inl (Nat.zero_le _)
  | succ j ih =>
   rcases ih with ih | ih
   ·by_cases e:f (j+1)=f j
    ·exact .inr (hs j e)
    ·left;have:∃v,(f (j+1)).testBit v=true/\(f j).testBit v=false:=by
      apply Classical.byContradiction;intro hno;apply e;refine sB (λv hv=>?_) (hm j);cases hc:(f j).testBit v
      ·exact absurd ⟨v,hv,hc⟩ hno
      ·rfl
     obtain ⟨v,h1,h2⟩:=this;have:=Fg (hm j) h1 h2 n (Hw (hb _) h1);omega
   ·exact .inr (hs j ih)
 rcases key n with h | h
 ·have hc:bct (f n) n=n:=by have:=Bd (f n) n;omega
  refine sB (λv hv=>?_) (hm n);exact zw n hc v (Hw (hb _) hv)
 ·exact h
theorem JZ {a b n:Nat}(h:a<2 ^ n)(h':b<2 ^ n):a ||| b<2 ^ n:=Nat.or_lt_two_pow h h'
theorem BV {v:Nat}(hp:∀x∈p,x<2 ^ p.length):Par p v<2 ^ p.length:=by
 unfold Par;cases h:p[v]? with
 | none=>exact Nat.pow_pos (by decide)
 | some x=>exact hp x (List.mem_of_getElem? h)
theorem yg (hp:∀x∈p,x<2 ^ p.length){s:Nat}(hs:s<2 ^ p.length):∀j,S.aW p s j<2 ^ p.length
 | 0=>hs
 | j+1=>by
  have ih:=yg hp hs j;rw[lq]
  split
  ·exact JZ ih (BV hp)
  ·exact ih
theorem Hz (hp:∀x∈p,x<2 ^ p.length){s:Nat}(hs:s<2 ^ p.length):∀j,S.up p s j<2 ^ p.length
 | 0=>hs
 | j+1=>by rw[nY];exact yg hp (Hz hp hs j) _
theorem E1 (hp:∀x∈p,x<2 ^ p.length){s:Nat}(hs:s<2 ^ p.length):Cl p (S.up p s p.length):=by
 apply D1;rw[<-nY];exact KM (f:=λj=>S.up p s j) (λj=>by rw[nY];exact nX _ _) (λj=>Hz hp hs j) (λj e=>by
  have e:S.up p s (j+1)=S.up p s j:=e;show S.up p s (j+1+1)=S.up p s (j+1);rw[nY,e,<-nY,e])
theorem uv {s:Nat}:∀j,Sub s (S.up p s j)
 | 0=>λ_ h=>h
 | j+1=>λv hv=>by rw[nY];exact nX _ _ v (uv j v hv)
end
end Hx
end
section
namespace Hx
open Go
noncomputable section
theorem kW {a b:List Nat}(h:∀i∈a,∀j∈b,i≠j):meets a b=false:=by simp only[meets,List.any_eq_false];intro i hi hc;exact h i hi i (List.contains_iff_mem.1 hc) rfl
theorem gP {x y:Foot}(hb:x.lk.big=false)(hb2:y.lk.big=false)(hs:x.lk.sr=[])(hs2:y.lk.sr=[])(h1:∀i∈x.wr,∀j∈y.wr,i≠j)(h2:∀i∈x.wr,∀j∈y.lk.rd,i≠j)(h3:∀i∈y.wr,∀j∈x.lk.rd,i≠j) :
  bW x y=true:=by
 have m1:=kW h1;have m2:=kW h2;have m3:=kW h3;have m4:meets y.wr x.wr=false:=kW λi hi j hj e=>h1 j hj i hi e.symm;have m5:∀l:List Nat,meets l []=false:=λl=>by simp[meets]
 simp only[bW,jp,gM,hb,hb2,hs,hs2,m1,m2,m3,m4,m5,fst1,List.map_nil,Bool.not_false,Bool.and_self,Bool.true_or]
 split<;>split<;>rfl
theorem kX {g:G}{b sz bytes:Nat}{zero:List AV}{k1 k2:IntKind}{n:Nat}{K:AV->G->Prop}{D:ADf->Prop}(hn:n<=aQ)(hb:n*bytes<=aQ)(hg:b<=g.nx)
  (k:∀v' g',Own g' b v' sz (List.replicate n zero)->g'.nx=g.nx+1->(∀i,i<g.nx->g'.h.get i=g.h.get i)->vid v'=some g.nx->g'.lg=g.nx::g.lg->K v' g') :
  (vK sz bytes zero (.int k1 (n:Int)) (.int k2 (n:Int)) g).sat K g D:=by
 show (match bJ aQ (.int k2 (.ofNat n)) with
  | some cn=>match bJ cn (.int k1 (.ofNat n)) with
   | some ln=>am (Nat.ble (cn*bytes) aQ) (OR.upd (.hsl g.nx 0 0 ln none) (g.new (.cells sz (eh cn zero) 0 false false))) .fail
   | none=>.fail
  | none=>.fail).sat K g D
 simp only[bJ,aa,Nat.ble_eq,if_pos hn,Nat.le_refl,if_pos hb,if_true];refine k _ _ (.inr ⟨g.nx,0,false,hg,by simp,by simp,by simp[aS,eh]⟩) (by simp) (λi hi=>?_) rfl (by simp);rw[G.new_h,aq _ _ _ (by omega)]
theorem Kt (n sz id ep i off:Nat)(k:IntKind){j:Nat}(h:j<n):JR n sz (.hptr id ep i off) (.int k (j:Int))=.val (.hptr id ep i (off+j*sz)):=by show am (Nat.blt j n) (OR.val (.hptr id ep i (off+j*sz))) .fail=_;rw[aa,if_pos (by simpa using h)]
def u8v (x:UInt8):AV:=.int .u8 (x.toNat:Int)
theorem Ho (l:List UInt8)(h:H)(d:Nat):snap h d aH (.agg (l.map u8v))=some (.agg (l.map u8v)):=by
 have:∀l:List UInt8,aE (Hx.snap h d 23) (l.map u8v)=some (l.map u8v):=λl=>by
  induction l with
  | nil=>rfl
  | cons x l ih =>
   simp only[List.map_cons,aE,ih,show Hx.snap h d 23 (u8v x)=some (u8v x) from rfl]
 show (match aE (Hx.snap h d 23) (l.map u8v) with | some ys=>some (AV.agg ys) | none=>none)=_;rw[this]
def Raw (w:AV):Prop:=w=.nils\/∃rows,w=.tsl 0 1 rows
abbrev A9:Type:=List UInt8×UInt16×List UInt8
def S.bk (us:List UInt8):List Int:=(us.take 5).map λu=>1+(u.toNat:Int) % 4
theorem Ha {P:Nat->Prop}{k:Nat}{h:H}{x:UInt16}{cs:List AV}:Rp.rp P k h x cs↔cs=[.int .u16 (x.toNat:Int)]:=by simp[Rp.rp]
theorem qm {P:Nat->Prop}{k:Nat}{h:H}{x:A9}{cs:List AV}:Rp.rp P k h x cs↔∃a b,cs=[a,.int .u16 (x.2.1.toNat:Int),b]/\SlR P k h x.1 a/\SlR P k h x.2.2 b:=by
 constructor
 ·rintro ⟨c1,c2,rfl,⟨a,rfl,h1⟩,c3,c4,rfl,h2,⟨b,rfl,h3⟩⟩;rw[Ha.1 h2];exact ⟨a,b,rfl,h1,h3⟩
 ·rintro ⟨a,b,rfl,h1,h2⟩;exact ⟨[a],[_,b],rfl,⟨a,rfl,h1⟩,[_],[b],rfl,Ha.2 rfl,⟨b,rfl,h2⟩⟩
theorem D9 {d k:Nat}{g:G}{P:Nat->Prop}{v:AV}{x:A9}(hd:0<d)(hm:Agg x P k g.h v) :
  ∃r,ax C0 d N.aW [v] g=.val r/\IT 0 (S.bk x.1) r:=by
 obtain ⟨v',e,cs,rfl,hc⟩:=oY (iF x) (by decide) d hm;obtain ⟨a,b,rfl,hA,hB⟩:=qm.1 hc;obtain ⟨rows,r1,r2,r3,r4⟩:=hA.all;have r1:∀h',ae h' 1 a=some rows:=r1;rw[nu];refine br pd (xs:=[.agg [a,.int .u16 (x.2.1.toNat:Int),b]]) (by simp only[aE,e]) (by simp[fF]) (be _) (by decide) hd ?_;have hL:(S.bk x.1).length=min x.1.length 5:=by simp[S.bk];omega
 simp only[sz,simprocAttr,fF,iM];refine fg (min x.1.length 5) (by omega) (λj t df g=>df=[]/\tat t 1=.hptr 0 0 0 0/\g.h.get 0=.cells 3 [[a,.int .u16 (x.2.1.toNat:Int),b]] 0 false false/\1<=g.nx/\∃u,tat t 3=u/\Own g 1 u 1 (((S.bk x.1).take j).map ci))
  ⟨rfl,by simp[sx],by simp[sx],by simp[sx],_,rfl,.inl ⟨by simp[sx],rfl⟩⟩ (by simp[sx]) (by decide)
  (by rintro j t df g v s (rfl | rfl | rfl)<;>simp[sx]) ?_ ?_ ?_
 ·rintro j t df g hj ⟨rfl,h1,hg,hnx,u,h3,hu⟩ h4
  by_cases hlt:(j:Int)<(x.1.length:Int)
  ·have:decide ((j:Int)<((min x.1.length 5:Nat):Int))=decide ((j:Int)<5):=by congr 1;apply propext;omega
   simp only[sz,simprocAttr,h1,h4,hg,hA.len,hlt,this];exact ⟨hnx,u,h3,hu⟩
  ·have:decide ((j:Int)<((min x.1.length 5:Nat):Int))=false:=decide_eq_false (by omega);simp only[sz,simprocAttr,h1,h4,hg,hA.len,hlt,this];exact ⟨hnx,u,h3,hu⟩
 ·rintro j t df g hj ⟨rfl,h1,hg,hnx,u,h3,hu⟩ h4;obtain ⟨y,hy,-,-⟩:=ac (l:=x.1) (j:=j) (by omega);obtain ⟨z,hz,htk,-⟩:=ac (l:=S.bk x.1) (j:=j) (by omega);have hzy:z=1+(y.toNat:Int) % 4:=by
   have:(S.bk x.1)[j]?=some (1+(y.toNat:Int) % 4):=by simp[S.bk,show j<5 by omega,hy]
   rw[this] at hz;injection hz with hz;exact hz.symm
  obtain ⟨row,z1,z2⟩:=r3 j y hy;rw[fC.1 z2] at z1;have hlt:j<rows.length:=by omega
  have hy8:y.toNat<256:=y.toNat_lt;have m1:0<=(y.toNat:Int) % 4:=by omega
  have m2:(y.toNat:Int) % 4<4:=by omega
  simp only[sz,simprocAttr,h1,h3,h4,hg,r1,hlt,z1,nm .u8 (show (0:Int)<=(y.toNat:Int) by omega) (show (0:Int)<4 by decide),aB (show -9223372036854775808<=(y.toNat:Int) % 4 by omega) (show (y.toNat:Int) % 4<9223372036854775808 by omega),aB (show -9223372036854775808<=1+(y.toNat:Int) % 4 by omega) (show 1+(y.toNat:Int) % 4<9223372036854775808 by omega)];refine cx (new:=[ci (1+(y.toNat:Int) % 4)]) (hu.step (Fr.new _ _)) (by simp[sx,sy,ci]) (by simp) (by simp[aQ];omega) λv2 g2 hv2 n2 f2 _ l2=>?_;simp only[sz,simprocAttr,h1,h4];refine ⟨?_,?_,_,rfl,?_⟩
  ·rw[f2 0 (by simp) (λe=>by have:=(hu.lt e).1;omega),G.new_h,aq _ _ _ (by omega),hg]
  ·simp at n2;omega
  ·rw[htk,hzy];simpa [ci] using hv2
 ·rintro t df g ⟨rfl,h1,hg,hnx,u,h3,hu⟩;rw[List.take_of_length_le (by omega)] at hu;simp only[sz,simprocAttr,iq,h3];exact ⟨_,hu.ints (by omega)⟩
theorem B9 {g:G}{b sz:Nat}{u:AV}{rows:List (List AV)}(hu:Own g b u sz rows){n:Nat}(hn:n<=rows.length) :
  ∃y,xk sz u none (some (.int .i64 (n:Int))) g=.val y/\ae g.h sz y=some (rows.take n):=by
 rcases hu with ⟨rfl,rfl⟩ | ⟨id,ep,lo,h1,h2,rfl,h3⟩
 ·have:n=0:=by simpa using hn
  subst this;exact ⟨.nils,rfl,rfl⟩
 ·simp only[xk,li,h3,Nat.beq_refl,Nat.beq_refl,Bool.true_and,ap,Nat.zero_add,aa,Nat.ble_eq,Nat.le_refl,if_true,ba,Option.getD_none,Nat.sub_zero];simp only[bJ];rw[show am (n.ble rows.length) (some n) none=some n from by rw[aa,if_pos (by simpa using hn)]];dsimp only
  by_cases h0:rows=[]
  ·subst h0;have:n=0:=by simpa using hn
   subst this;cases lo
   ·exact ⟨_,rfl,rfl⟩
   ·exact ⟨_,rfl,nR _ _ _ _⟩
  ·have hb:rows.length.beq 0=false:=by cases rows with | nil=>exact absurd rfl h0 | cons a l=>rfl
   rw[hb];refine ⟨_,rfl,?_⟩;rw[eR,h3,cT,if_pos (by omega),List.drop_zero]
theorem B_ {g:G}{b sz:Nat}{u:AV}{rows:List (List AV)}(hu:Own g b u sz rows){n:Nat}(hn:n<=rows.length) :
  ∃y,xk sz u (some (.int .i64 (n:Int))) none g=.val y/\ae g.h sz y=some (rows.drop n):=by
 rcases hu with ⟨rfl,rfl⟩ | ⟨id,ep,lo,h1,h2,rfl,h3⟩
 ·have:n=0:=by simpa using hn
  subst this;exact ⟨.nils,rfl,rfl⟩
 ·simp only[xk,li,h3,Nat.beq_refl,Nat.beq_refl,Bool.true_and,ap,Nat.zero_add,aa,Nat.ble_eq,Nat.le_refl,if_true,ba,Option.getD_none,Nat.sub_zero];simp only[bJ];rw[show am (n.ble rows.length) (some n) none=some n from by rw[aa,if_pos (by simpa using hn)]];dsimp only
  by_cases h0:rows.length=n
  ·subst h0;rw[if_pos (Nat.beq_refl _),List.drop_length];cases lo
   ·exact ⟨_,rfl,rfl⟩
   ·exact ⟨_,rfl,nR _ _ _ _⟩
  ·rw[if_neg (λe=>h0 (Nat.eq_of_beq_eq_true e))];refine ⟨_,rfl,?_⟩;rw[eR,h3,cT,if_pos (by omega),List.take_of_length_le (by simp)]
def S.bc (os:List UInt8)(k:Nat):Nat:=if k<os.length then ((os[k]?.map UInt8.toNat).getD 0) % (k+1) else 0
def S.aF (os:List UInt8):Nat->List Int
 | 0=>[]
 | k+1=>(S.aF os k).take (S.bc os k)++(k:Int)::(S.aF os k).drop (S.bc os k)
theorem nh (os:List UInt8):∀k,(S.aF os k).length=k
 | 0=>rfl
 | k+1=>by simp only[S.aF,List.length_append,List.length_cons,List.length_take,List.length_drop,nh os k];omega
theorem wg {d k:Nat}{g:G}{P:Nat->Prop}{v:AV}{x:A9}(hd:0<d)(hm:Agg x P k g.h v) :
  ∃r,ax C0 d N.an [v] g=.val r/\IT 0 (S.aF x.2.2 (min x.1.length 5)) r:=by
 obtain ⟨v',e,cs,rfl,hc⟩:=oY (iF x) (by decide) d hm;obtain ⟨a,b,rfl,hA,hB⟩:=qm.1 hc;have hms:∀g:G,Agg x NoP (max k d) g.h (.agg [a,.int .u16 (x.2.1.toNat:Int),b]):=λg=>⟨_,rfl,qm.2 ⟨a,b,rfl,hA.tree (Nat.le_refl _),hB.tree (Nat.le_refl _)⟩⟩;obtain ⟨rows,r1,r2,r3,r4⟩:=hB.all;have r1:∀h',ae h' 1 b=some rows:=r1;rw[jy];refine br j_ (xs:=[.agg [a,.int .u16 (x.2.1.toNat:Int),b]]) (by simp only[aE,e]) (by simp[cK]) (be _) (by decide) hd ?_;have hL:(S.bk x.1).length=min x.1.length 5:=by simp[S.bk];omega
 simp only[sz,simprocAttr,cK,d_];refine fg (min x.1.length 5) (by omega) (λj t df g=>df=[]/\tat t 1=.hptr 0 0 0 0/\g.h.get 0=.cells 3 [[a,.int .u16 (x.2.1.toNat:Int),b]] 0 false false/\1<=g.nx/\∃u,tat t 3=u/\Own g 1 u 1 ((S.aF x.2.2 j).map ci))
  ⟨rfl,by simp[sx],by simp[sx],by simp[sx],_,rfl,.inl ⟨by simp[sx],rfl⟩⟩ (by simp[sx]) (by decide)
  (by rintro j t df g v s (rfl | rfl | rfl)<;>simp[sx]) ?_ ?_ ?_
 ·rintro j t df g hj ⟨rfl,h1,hg,hnx,u,h3,hu⟩ h4;simp only[sz,simprocAttr,h1,h4,hg];refine gi (D9 (Nat.succ_pos d) (hms _)) λr hr=>?_;simp only[sz,simprocAttr,h1,h4,hg,(hr.sl .nil).len,hL];exact ⟨hnx,u,h3,hu⟩
 ·rintro j t df g hj ⟨rfl,h1,hg,hnx,u,h3,hu⟩ h4;have hpl:((S.aF x.2.2 j).map ci).length=j:=by rw[List.length_map,nh]
  have hle:S.bc x.2.2 j<=j:=by
   unfold S.bc;split
   ·have:=Nat.mod_lt (((x.2.2)[j]?.map UInt8.toNat).getD 0) (show 0<j+1 by omega);omega
   ·omega
  have key:∀(t:T) (Q:QT),tat t 1=.hptr 0 0 0 0->tat t 3=u->tat t 4=.int .i64 (j:Int)->tat t 5=.int .i64 (S.bc x.2.2 j:Int) ->
    (∀(t':T) (g':G),tat t' 1=.hptr 0 0 0 0->tat t' 4=.int .i64 (j:Int)->g'.h.get 0=.cells 3 [[a,.int .u16 (x.2.1.toNat:Int),b]] 0 false false->1<=g'.nx->(∃u,tat t' 3=u/\Own g' 1 u 1 ((S.aF x.2.2 (j+1)).map ci))->Q .norm t' [] g') ->
    wp C0 (d+1) none bV Q t [] g:=by
   intro t Q h1 h3 h4 h5 kk;obtain ⟨y1,s1,w1⟩:=B9 hu (n:=S.bc x.2.2 j) (by omega);simp only[sz,simprocAttr,bV,h3,h5,List.head?_nil,List.head?_cons,s1];refine cx (rows:=[]) (b:=1) (.inl ⟨rfl,rfl⟩) w1 hnx (by simp[aQ];omega) λv1 g1 hv1 n1 f1 vid1 _=>?_;simp only[sz,simprocAttr,h4];refine cx (new:=[ci (j:Int)]) (hv1.step (Fr.new _ _)) (by simp[sx,sy,ci]) (by simp) (by simp[aQ,nh];omega) λv2 g2 hv2 n2 f2 vid2 _=>?_;have hu1:Own g1 1 u 1 ((S.aF x.2.2 j).map ci):=hu.fr n1 λi hi=>f1 i (hu.lt hi).2 (by simp[vid]);have hnv:∀i,i<g.nx->vid v1≠some i:=λi hi e=>by
    rcases vid1 with h | ⟨i',h,hi'⟩
    ·rw[h] at e;cases e
    ·rw[h] at e;injection e with e;omega
   have hu2:Own g2 1 u 1 ((S.aF x.2.2 j).map ci):=hu1.fr (by simp at n2;omega) λi hi=>by have hlt:=(hu.lt hi).2;rw[f2 i (by simp;omega) (hnv i hlt),G.new_h,aq _ _ _ (by omega)]
   obtain ⟨y2,s2,w2⟩:=B_ hu2 (n:=S.bc x.2.2 j) (by omega);simp only[sz,simprocAttr,h3,h5,List.head?_nil,List.head?_cons,s2];refine cx hv2 w2 (by simp at n2;omega) (by simp[aQ,nh];omega) λv3 g3 hv3 n3 f3 _ _=>?_;simp only[sz,simprocAttr];refine kk _ _ (by simp[sx,h1]) (by simp[sx,h4]) ?_ (by simp at n2;omega) ⟨_,rfl,?_⟩
   ·rw[f3 0 (by simp at n2;omega) (λe=>by have:=(hv2.lt e).1;omega),f2 0 (by simp) (hnv 0 (by omega)),G.new_h,aq _ _ _ (by omega),f1 0 (by omega) (by simp[vid]),hg]
   ·simp only[sx,↓reduceIte];simpa [S.aF,List.map_take,List.map_drop] using hv3
  simp only[sz,simprocAttr,h1,h4,hg,hB.len];refine jd (λhb=>?_) (λhb=>?_)
  ·have hjo:j<x.2.2.length:=by simp at hb;omega
   obtain ⟨y,hy⟩:∃y,x.2.2[j]?=some y:=⟨_,List.getElem?_eq_getElem hjo⟩;obtain ⟨row,z1,z2⟩:=r3 j y hy;rw[fC.1 z2] at z1;have hy8:y.toNat<256:=y.toNat_lt;have hlt:j<rows.length:=by omega
   have hat:((S.bc x.2.2 j:Nat):Int)=(y.toNat:Int) % ((j:Int)+1):=by unfold S.bc;rw[if_pos hjo,hy];simp
   simp only[sz,simprocAttr,h1,h4,hg,r1,hlt,z1,aB (show -9223372036854775808<=(y.toNat:Int) by omega) (show (y.toNat:Int)<9223372036854775808 by omega),aB (show -9223372036854775808<=(j:Int)+1 by omega) (show (j:Int)+1<9223372036854775808 by omega),nm .i64 (show (0:Int)<=(y.toNat:Int) by omega) (show 0<(j:Int)+1 by omega)];refine key _ _ (by simp[sx,h1]) (by simp[sx,h3]) (by simp[sx,h4]) (by simp[sx,hat]) λt' g' e1 e4 e0 en eu=>?_;simp only[sy,e1,e4,e0];exact ⟨en,eu⟩
  ·have hat:S.bc x.2.2 j=0:=by unfold S.bc;rw[if_neg];simp at hb;omega
   simp only[sx];refine key _ _ (by simp[sx,h1]) (by simp[sx,h3]) (by simp[sx,h4]) (by simp[sx,hat]) λt' g' e1 e4 e0 en eu=>?_;simp only[sy,e1,e4,e0];exact ⟨en,eu⟩
 ·rintro t df g ⟨rfl,h1,hg,hnx,u,h3,hu⟩;simp only[sz,simprocAttr,dS,h3];exact ⟨_,hu.ints (by rw[nh];omega)⟩
def S.bB (cards:List Int):List Int->Nat->List Int×Bool
 | vals,0=>(vals,false)
 | vals,k+1=>if (vals[k]?.getD 0)+1<(cards[k]?.getD 0) then (vals.set k ((vals[k]?.getD 0)+1),true) else S.bB cards (vals.set k 0) k
def S.bH (cards vals:List Int):List Int×Bool:=S.bB cards vals vals.length
def S.bP (cards:List Int):Nat->List Int->List (List Int)
 | 0,_=>[]
 | f+1,v=>v::(if (S.bH cards v).2 then S.bP cards f (S.bH cards v).1 else [])
def S.bY (cards:List Int):List (List Int):=S.bP cards (S.ae cards).toNat (List.replicate cards.length 0)
def S.bK (l:List Int)(h:Int):Int:=l.foldr (λc q=>q / c) h
def S.bL (l:List Int)(h:Int)(i:Nat):Int:=S.bK (l.drop (i+1)) h % l[i]?.getD 1
def S.ak (l:List Int)(h:Int):List Int:=(List.range l.length).map (S.bL l h)
def S.af:List Int->List Int->Int
 | _::cs,v::vs=>v*S.ae cs+S.af cs vs
 | _,_=>0
def InC (cards vals:List Int):Prop:=All2 (λc v=>(0:Int)<=v/\v<c) cards vals
theorem bA:∀{cards vals:List Int},(∀c∈cards,1<=c/\c<=4)->InC cards vals->0<=S.af cards vals/\S.af cards vals<S.ae cards
 | [],[],_,_=>⟨Int.le_refl _,by decide⟩
 | c::cs,v::vs,hc,h=>by obtain ⟨a,b⟩:=bA (cards:=cs) (vals:=vs) (λx hx=>hc x (by simp[hx])) h.2;obtain ⟨p1,-⟩:=bz (l:=cs) λx hx=>hc x (by simp[hx]);have hv:=h.1;rw[cO];show 0<=v*S.ae cs+S.af cs vs/\v*S.ae cs+S.af cs vs<c*S.ae cs;have h1:0<=v*S.ae cs:=Int.mul_nonneg hv.1 (by omega);have h2:(v+1)*S.ae cs<=c*S.ae cs:=Int.mul_le_mul_of_nonneg_right (by omega) (by omega);rw[Int.add_mul,Int.one_mul] at h2;omega
 | [],_::_,_,h=>h.elim
 | _::_,[],_,h=>h.elim
theorem InC.drop:∀{cards vals:List Int} (j:Nat),InC cards vals->InC (cards.drop j) (vals.drop j)
 | _,_,0,h=>h
 | [],[],j+1,_=>trivial
 | _::_,_::_,j+1,h=>InC.drop j h.2
 | [],_::_,_,h=>h.elim
 | _::_,[],_,h=>h.elim
theorem InC.len {cards vals:List Int}(h:InC cards vals):vals.length=cards.length:=(All2.len h).symm
theorem s8 {l:List Int}(hc:∀c∈l,1<=c/\c<=4)(hl:l.length<=13):S.aV l=S.ae l:=by
 have pw:∀n,n<=13->(4:Int) ^ n<=67108864:=λn hn=>by
  have:=fe hn;have e:(4:Int) ^ 13=67108864:=by decide
  omega
 have key:∀j,j<=l.length->S.aV (l.take j)=S.ae (l.take j):=by
  intro j
  induction j with
  | zero=>intro _;rfl
  | succ j ih =>
   intro hj;obtain ⟨x,hx,htk,hm⟩:=ac (l:=l) (j:=j) (by omega);have ih:=ih (by omega);have hb:=bz (l:=l.take (j+1)) λy hy=>hc y (List.mem_of_mem_take hy);have:=pw (l.take (j+1)).length (by simp;omega);rw[htk] at hb this ⊢;rw[s5] at hb ⊢;show S.aV (l.take j++[x])=_;unfold S.aV at ih ⊢;rw[List.foldl_append,ih];show IntKind.wrap .i64 (S.ae (l.take j)*x)=_;rw[aB (by omega) (by omega)]
 have:=key l.length (Nat.le_refl _);rwa [List.take_length] at this
end
end Hx
end
section
namespace Hx
open Go
def S.bU (x:Mech)(roots:List Int)(V:Nat->Int):List Int:=(x.frm.map λq=>V q.toNat)++(x.noise.map λr=>roots[r.toNat]?.getD 0)
def S.bS (m:Causal)(roots act:List Int)(V:Nat->Int)(i:Nat)(x:Mech):Int:=if 0<=act[i]?.getD 0 then act[i]?.getD 0 else x.out[(S.af (S.bX m x) (S.bU x roots V)).toNat]?.getD 0
def Sol (m:Causal)(roots act:List Int)(V:Nat->Int):Prop:=∀(i:Nat) (x:Mech),m.nodes[i]?=some x->V i=S.bS m roots act V i x
noncomputable def S.V (m:Causal)(roots act:List Int):Nat->Int:=Classical.epsilon (Sol m roots act)
noncomputable def S.bZ (m:Causal)(roots act:List Int):List Int:=(List.range m.nodes.length).map (S.V m roots act)
theorem yO {cards vals:List Int}(hl:cards.length=vals.length)(h:∀(i:Nat) c v,cards[i]?=some c->vals[i]?=some v->0<=v/\v<c):InC cards vals:=by
 induction cards generalizing vals with
 | nil=>cases vals with
  | nil=>trivial
  | cons v vals=>simp at hl
 | cons c cards ih=>cases vals with
  | nil=>simp at hl
  | cons v vals=>exact ⟨h 0 c v rfl rfl,ih (by simpa using hl) λi c' v' h1 h2=>h (i+1) c' v' (by simpa using h1) (by simpa using h2)⟩
theorem InC.get {cards vals:List Int}(h:InC cards vals){i:Nat}{c:Int}(hc:cards[i]?=some c):∃v,vals[i]?=some v/\0<=v/\v<c:=All2.get h hc
def S.bF (cs vs:List Int)(a:Int):Int:=(cs.zip vs).foldl (λa p=>a*p.1+p.2) a
theorem q8:∀(cs vs:List Int) (a:Int),cs.length=vs.length->S.bF cs vs a=a*S.ae cs+S.af cs vs
 | [],[],a,_=>by simp[S.bF,S.ae,S.af]
 | c::cs,v::vs,a,h=>by show S.bF cs vs (a*c+v)=_;rw[q8 cs vs _ (by simpa using h),cO];show _=_+(v*S.ae cs+S.af cs vs);rw[Int.add_mul,Int.mul_assoc,Int.add_assoc]
 | [],_::_,_,h=>by simp at h
 | _::_,[],_,h=>by simp at h
end Hx
end
section
namespace Hx
open Go
noncomputable section
def hz (cs vs:List Int)(j:Nat):Int:=((cs.zip vs).take j).foldl (λa p=>a*p.1+p.2) 0
theorem InC.take {cards vals:List Int}(h:InC cards vals)(j:Nat):InC (cards.take j) (vals.take j):=All2.take h j
section
variable {d k:Nat}{m:Causal}{roots act:List Int}{V:Nat->Int}{a b w u:AV}{p1 p2 p3 p4 iu:Nat}{hid:Int}{r:Nat->Nat}
end
end
end Hx
end
section
namespace Hx
open Go
noncomputable section
theorem aX (ag:Bool)(n l sz off:Nat)(row:List AV)(g:G):oG ag n (.tptr l sz [row] 0 off) g=orV (bH ag n row off):=rfl
section
variable {d:Nat}{m:Causal}{a b:AV}
end
end
end Hx
end
section
namespace Hx
open Go
noncomputable section
theorem gq {C:Cfg}{d:Nat}{r:List SR}{t:T}{g:G}{K:AV->G->Prop}{id:Nat}(hg:g.h.get id=.dfr true)(h:s6 r t (g.put id (.dfr false)) λvs=>K (iC vs) (g.put id (.dfr false))):uV C d r t [.mark id] g K:=by
 unfold uV;have:fD (I C) d [.mark id] g=some (g.put id (.dfr false)):=by simp only[fD,G.get_eq,hg]
 rw[this];exact h
def Fam (g:G)(b K:Nat)(V:Nat->AV)(W:Nat->List (List AV)):Prop :=
 (∀k,k<K->Own g b (V k) 1 (W k))/\∀k l,k<K->l<K->k≠l->∀id,vid (V k)=some id->vid (V l)≠some id
def KY (c:Nat->Int)(V:Nat->AV)(i:Nat):List AV:=[.int .i64 (c i),V (3*i+1),V (3*i+2),V (3*i+3)]
def G7 (n:Nat)(c:Nat->Int)(V:Nat->AV):List (List AV):=(List.range n).map (KY c V)
structure ME where
 (n p4 q i5 p7 i9 b:Nat)
 (nv w5 w9 e7:AV)
 (gr:Int)
 (row0:List AV)
 (prow:List (List AV))
 (us:List UInt8)
structure ME.Ok (e:ME):Prop where
 ord:1<e.q/\e.q<e.p4/\e.p4<e.i5/\e.i5<e.p7/\e.p7<e.i9/\e.i9<e.b
 n1:1<=e.n/\e.n<=4
 g1:2<=e.gr/\e.gr<=12
 vn:vid e.nv=some e.q
 v5:vid e.w5=some e.i5
 v9:vid e.w9=some e.i9
 l7:SlR NoP 0 .nil e.us e.e7
structure MI (e:ME) (g:G) (V:Nat->AV) (W:Nat->List (List AV)) (c:Nat->Int) (ow:List Bool) (cap:Nat):Prop where
 h0:g.h.get 0=.cells 5 [e.row0] 0 false false
 h1:g.h.get 1=.cells 3 [[.int .i64 0,.nils,.nils]] 0 false false
 hN:Own g 0 e.nv 4 (G7 e.n c V)
 h4:g.h.get e.p4=.cells 3 [[.int .i64 e.gr,V 0,e.nv]] 0 false false
 h5:Own g 0 e.w5 4 e.prow
 h7:∃cc:Int,0<=cc/\cc<=(cap:Int)/\g.h.get e.p7=.cells 2 [[e.e7,.int .i64 cc]] 0 false false
 h9:Own g 0 e.w9 1 (ow.map λx=>[.bool x])
 fam:Fam g e.b (3*e.n+1) V W
 nx:e.b<=g.nx
section
variable {e:ME}{g g':G}{V:Nat->AV}{W:Nat->List (List AV)}{c:Nat->Int}{ow:List Bool}{cap:Nat}
theorem ff {v:AV}{i j:Nat}(h:vid v=some i)(h':vid v=some j):i=j:=by rw[h] at h';injection h'
structure MP (e:ME) (g:G) (V V':Nat->AV) (W:Nat->List (List AV)) (c:Nat->Int) (ow:List Bool) (cap:Nat):Prop where
 h0:g.h.get 0=.cells 5 [e.row0] 0 false false
 h1:g.h.get 1=.cells 3 [[.int .i64 0,.nils,.nils]] 0 false false
 hN:Own g 0 e.nv 4 (G7 e.n c V)
 h4:g.h.get e.p4=.cells 3 [[.int .i64 e.gr,V 0,e.nv]] 0 false false
 h5:Own g 0 e.w5 4 e.prow
 h7:∃cc:Int,0<=cc/\cc<=(cap:Int)/\g.h.get e.p7=.cells 2 [[e.e7,.int .i64 cc]] 0 false false
 h9:Own g 0 e.w9 1 (ow.map λx=>[.bool x])
 fam:Fam g e.b (3*e.n+1) V' W
 nx:e.b<=g.nx
end
end
end Hx
end
section
namespace Hx
open Go
noncomputable section
structure MD (e:ME) (W:Nat->List (List AV)) (R:List (List Int)) (F N O:Nat->List Int):Prop where
 r:All2 (Rp.rp NoP 0 .nil) R (W 0)
 f:∀i,i<e.n->W (3*i+1)=(F i).map ci
 n:∀i,i<e.n->W (3*i+2)=(N i).map ci
 o:∀i,i<e.n->W (3*i+3)=(O i).map ci
theorem sG {α β γ:Type}{R:β->γ->Prop}{f:α->β}{h:α->γ}:∀{l:List α},(∀x∈l,R (f x) (h x))->All2 R (l.map f) (l.map h)
 | [],_=>trivial
 | a::l,hl=>⟨hl a (by simp),sG λx hx=>hl x (by simp[hx])⟩
theorem SlR.wide {α:Type} [Rp α]{P:Nat->Prop}{k k':Nat}{h h':H}{l:List α}{v:AV}(r:SlR NoP k h l v)(hk:k<=k'):SlR P k' h' l v:=by obtain ⟨w,hw,q⟩:=Rp.tree (P:=P) (k':=k') (h':=h') (show Rp.rp NoP k h l [v] from ⟨v,rfl,r⟩) hk;injection hw with hw;subst hw;exact q
structure M0 (n p4 q i5 p7:Nat) (nv w5 cl:AV) (row0:List AV) (prow:List (List AV)) (gr:Int) (g:G) (cf:Nat->Int):Prop where
 h0:g.h.get 0=.cells 5 [row0] 0 false false
 h1:g.h.get 1=.cells 3 [[.int .i64 0,.nils,.nils]] 0 false false
 hN:Own g 2 nv 4 (G7 n cf λ_=>.nils)
 h4:g.h.get p4=.cells 3 [[.int .i64 gr,.nils,nv]] 0 false false
 h5:Own g 2 w5 4 prow
 h7:g.h.get p7=.cells 2 [[cl,.int .i64 0]] 0 false false
 nx:p7<g.nx
section
variable {n p4 q i5 p7:Nat}{nv w5 cl:AV}{row0:List AV}{prow:List (List AV)}{gr:Int}{g g':G}{cf cf':Nat->Int}
end
end
end Hx
end
section
namespace Hx
open Go
noncomputable section
def eid:AV->Option Nat
 | .hsl id _ _ _ _=>some id
 | .hptr id _ _ _=>some id
 | _=>none
def Bx (g:G)(b:Nat)(v:AV)(row:List AV):Prop:=∃id,b<=id/\id<g.nx/\v=.hptr id 0 0 0/\g.h.get id=.cells row.length [row] 0 false false
inductive En where
 | sl (sz:Nat) (rows:List (List AV))
 | bx (row:List AV)
def En.ok (g:G)(b:Nat)(v:AV):En->Prop
 | .sl sz rows=>Own g b v sz rows
 | .bx row=>Bx g b v row
theorem hZ {g:G}{b:Nat}{v:AV}{sz:Nat}{rows:List (List AV)}(h:Own g b v sz rows):eid v=vid v:=by rcases h with ⟨rfl,-⟩ | ⟨id,ep,lo,h1,h2,rfl,h3⟩<;>rfl
theorem En.lt {g:G}{b:Nat}{v:AV}{e:En}(h:e.ok g b v){i:Nat}(hi:eid v=some i):b<=i/\i<g.nx:=by
 cases e with
 | sl sz rows =>
  have h:Own g b v sz rows:=h;rw[hZ h] at hi;exact h.lt hi
 | bx row =>
  obtain ⟨id,h1,h2,rfl,h3⟩:=h;injection hi with hi;subst hi;exact ⟨h1,h2⟩
theorem En.fr {g g':G}{b:Nat}{v:AV}{e:En}(h:e.ok g b v)(hn:g.nx<=g'.nx)(hf:∀i,eid v=some i->g'.h.get i=g.h.get i):e.ok g' b v:=by
 cases e with
 | sl sz rows =>
  have h:Own g b v sz rows:=h;exact h.fr hn λi hi=>hf i (by rw[hZ h];exact hi)
 | bx row =>
  obtain ⟨id,h1,h2,rfl,h3⟩:=h;exact ⟨id,h1,by omega,rfl,by rw[hf id rfl,h3]⟩
section
variable {κ:Type}
structure Hp (g:G) (b:Nat) (L:κ->Prop) (V:κ->AV) (E:κ->En):Prop where
 ok:∀k,L k->(E k).ok g b (V k)
 sep:∀k l,L k->L l->k≠l->∀id,eid (V k)=some id->eid (V l)≠some id
 nx:b<=g.nx
variable {g g':G}{b:Nat}{L L':κ->Prop}{V:κ->AV}{E:κ->En}{k:κ}
theorem Hp.sub (h:Hp g b L V E)(hl:∀k,L' k->L k):Hp g b L' V E:=⟨λk hk=>h.ok k (hl k hk),λk l hk hl2=>h.sep k l (hl k hk) (hl l hl2),h.nx⟩
theorem Hp.step (h:Hp g b L V E)(hn:g.nx<=g'.nx)(hf:∀i,b<=i->i<g.nx->g'.h.get i=g.h.get i):Hp g' b L V E :=
 ⟨λk hk=>En.fr (h.ok k hk) hn λi hi=>hf i (En.lt (h.ok k hk) hi).1 (En.lt (h.ok k hk) hi).2,h.sep,Nat.le_trans h.nx hn⟩
theorem Hp.same (h:Hp g b L V E)(hf:g'.h=g.h)(hn:g.nx<=g'.nx):Hp g' b L V E:=h.step hn λi _ _=>by rw[hf]
theorem Hp.own (h:Hp g b L V E)(hk:L k){sz:Nat}{rows:List (List AV)}(he:E k=.sl sz rows):Own g b (V k) sz rows:=by have:=h.ok k hk;rw[he] at this;exact this
theorem Hp.box (h:Hp g b L V E)(hk:L k){row:List AV}(he:E k=.bx row):Bx g b (V k) row:=by have:=h.ok k hk;rw[he] at this;exact this
end
section
variable {κ:Type} [DecidableEq κ]
def ups {α:Type}(f:κ->α)(k:κ)(x:α):κ->α:=λj=>if j=k then x else f j
theorem aG {α:Type}(f:κ->α)(k:κ)(x:α):ups f k x k=x:=if_pos rfl
theorem ah {α:Type}(f:κ->α){k j:κ}(x:α)(h:j≠k):ups f k x j=f j:=if_neg h
theorem Ki {α:Type}{f:κ->α}{k:κ}{x:α}(h:f k=x):ups f k x=f:=by
 funext j;by_cases e:j=k
 ·subst e;rw[aG,h]
 ·exact ah _ _ e
variable {g g':G}{b:Nat}{L L':κ->Prop}{V:κ->AV}{E:κ->En}{k:κ}
theorem Hp.set (h:Hp g b L V E){v':AV}{e':En}(hk:L k)(ho:e'.ok g' b v')(hn:g.nx<=g'.nx)(hf:∀i,b<=i->i<g.nx->eid (V k)≠some i->g'.h.get i=g.h.get i)
  (hv:eid v'=eid (V k)\/∃i,eid v'=some i/\g.nx<=i):Hp g' b L (ups V k v') (ups E k e'):=by
 refine ⟨λj hj=>?_,λj l hj hl hne id e1 e2=>?_,Nat.le_trans h.nx hn⟩
 ·by_cases e:j=k
  ·subst e;rw[aG,aG];exact ho
  ·rw[ah _ _ e,ah _ _ e];exact En.fr (h.ok j hj) hn λi hi=>hf i (En.lt (h.ok j hj) hi).1 (En.lt (h.ok j hj) hi).2 λe2=>h.sep j k hj hk e i hi e2
 ·have key:∀j,L j->j≠k->∀id,eid (V j)=some id->eid v'≠some id:=λj hj hne id e1 e2=>by
   rcases hv with hv | ⟨i,hv,hi⟩
   ·exact h.sep j k hj hk hne id e1 (hv ▸ e2)
   ·rw[hv] at e2;injection e2 with e2;have:=(En.lt (h.ok j hj) e1).2;omega
  by_cases a:j=k
  ·subst a;rw[aG] at e1;rw[ah _ _ (Ne.symm hne)] at e2;exact key l hl (Ne.symm hne) id e2 e1
  ·rw[ah _ _ a] at e1
   by_cases c:l=k
   ·subst c;rw[aG] at e2;exact key j hj a id e1 e2
   ·rw[ah _ _ c] at e2;exact h.sep j l hj hl hne id e1 e2
theorem Hp.add (h:Hp g b L V E){v':AV}{e':En}(hk:¬L k)(ho:e'.ok g' b v')(hn:g.nx<=g'.nx)(hf:∀i,b<=i->i<g.nx->g'.h.get i=g.h.get i)
  (hv:∀i,eid v'=some i->g.nx<=i) (hl:∀j,L' j->L j\/j=k):Hp g' b L' (ups V k v') (ups E k e'):=by
 refine ⟨λj hj=>?_,λj l hj hl2 hne id e1 e2=>?_,Nat.le_trans h.nx hn⟩
 ·rcases hl j hj with hj | rfl
  ·have e:j≠k:=λe=>hk (e ▸ hj);rw[ah _ _ e,ah _ _ e];exact En.fr (h.ok j hj) hn λi hi=>hf i (En.lt (h.ok j hj) hi).1 (En.lt (h.ok j hj) hi).2
  ·rw[aG,aG];exact ho
 ·have key:∀j,L j->∀id,eid (V j)=some id->eid v'≠some id:=λj hj id e1 e2=>by have:=hv id e2;have:=(En.lt (h.ok j hj) e1).2;omega
  rcases hl j hj with hj | rfl
  ·have e:j≠k:=λe=>hk (e ▸ hj);rw[ah _ _ e] at e1;rcases hl l hl2 with hl2 | rfl
   ·have e':l≠k:=λe=>hk (e ▸ hl2);rw[ah _ _ e'] at e2;exact h.sep j l hj hl2 hne id e1 e2
   ·rw[aG] at e2;exact key j hj id e1 e2
  ·rw[aG] at e1;rcases hl l hl2 with hl2 | rfl
   ·have e':l≠j:=λe=>hne e.symm;rw[ah _ _ e'] at e2;exact key l hl2 id e2 e1
   ·exact hne rfl
theorem Hp.put (h:Hp g b L V E)(hk:L k){sz n i off:Nat}{rows:List (List AV)}{row row':List AV}(he:E k=.sl sz rows){x:AV}{K:AV->G->Prop}{D:ADf->Prop}(hr:rows[i]?=some row)
  (hl:x.cells.length=n) (ht:x.isTup=false) (hp:bM row off x.cells=some row')
  (kk:∀g',Hp g' b L V (ups E k (.sl sz (rows.set i row')))->g'.nx=g.nx->(∀i,i<b->g'.h.get i=g.h.get i)->(∀i,eid (V k)≠some i->g'.h.get i=g.h.get i)->K .undef g'):(lj n (mi sz (V k) i off) x g).sat K g D:=by
 have ho:=h.own hk he;refine bB ho hr hl ht hp λg' hv' hn hf=>?_;have:=h.set hk (e':=.sl sz (rows.set i row')) hv' (by omega) (λi _ hi hne=>hf i (by rw[<-hZ ho];exact hne)) (.inl rfl);rw[Ki (f:=V) rfl] at this;exact kk g' this hn (λi hi=>hf i λe=>by have:=(ho.lt e).1;omega) λi hne=>hf i (by rw[<-hZ ho];exact hne)
end
end
end Hx
end
section
namespace Hx
open Go
noncomputable section
theorem dM {C:Cfg}{d:Nat}{rd:Option Nat}{l:List SI}{b:SC}{Q:QT}{t:T}{df:List ADf}{g:G}{P:PT}(h1:wpO C d rd l P t df g)(h2:∀t df g,P t df g->wp C d rd b Q t df g):wp C d rd (.seq (.ops l) b) Q t df g:=by
 rw[co];have:wp C d rd (.ops l) (λe t df g=>e=.norm/\P t df g) t df g:=by rw[zm];simpa using h1
 refine bL _ this ?_;rintro e t df g ⟨rfl,h⟩;exact h2 t df g h
structure Bnd (K:Nat) (m:Causal):Prop where
 r:m.roots.length<=K
 rr:∀x∈m.roots,x.length<=K
 n:m.nodes.length<=K
 f:∀x∈m.nodes,x.frm.length<=K/\x.noise.length<=K/\x.out.length<=K
abbrev Ky:Type:=Nat×Nat
structure BD (K R n:Nat) (V:Ky->AV) (E:Ky->En) (Rt:Nat->List Int) (c:Nat->Int) (F:Nat->Nat->List Int):Prop where
 r:∀i,i<R->E (0,i)=.sl 1 ((Rt i).map ci)/\(Rt i).length<=K
 f:∀q i,1<=q->q<=3->i<n->E (q,i)=.sl 1 ((F q i).map ci)/\(F q i).length<=K
 rs:E (4,0)=.sl 1 ((List.range R).map λi=>[V (0,i)])
 ns:E (4,1)=.sl 4 ((List.range n).map λi=>[.int .i64 (c i),V (1,i),V (2,i),V (3,i)])
structure TI (g:G) (q:Nat) (m:Causal) (k1 k2 act u1 u2 u3:AV) (A B W:List Int):Prop where
 a1:g.h.get 1=.cells 1 [[act]] 0 false false
 a2:g.h.get 2=.cells 3 [[.nils,.nils,.nils]] 0 false false
 a4:g.h.get 4=.cells 4 [[.int .i64 m.grain,k1,k2,.int .i64 (S.bT m)]] 0 false false
 bq:g.h.get q=.cells 3 [[u1,u2,u3]] 0 false false
 o1:Own g 5 u1 1 (A.map ci)
 o2:Own g 5 u2 1 (B.map ci)
 o3:Own g 5 u3 1 (W.map ci)
 q5:5<=q/\q<g.nx
 n1:∀i,vid u1=some i->i≠q/\vid u2≠some i/\vid u3≠some i
 n2:∀i,vid u2=some i->i≠q/\vid u3≠some i
 n3:∀i,vid u3=some i->i≠q
section
variable {g g':G}{q:Nat}{m:Causal}{k1 k2 act u1 u2 u3:AV}{A B W:List Int}
end
end
end Hx
end
section
namespace Hx
open Go
noncomputable section
theorem gY {C:Cfg}{d:Nat}{rd:Option Nat}{a b:SC}{Q:QT}{t:T}{df:List ADf}{g:G}{P:PT}(h1:wp C d rd a (λe t df g=>e=.norm/\P t df g) t df g)(h2:∀t df g,P t df g->wp C d rd b Q t df g):wp C d rd (.seq a b) Q t df g:=by rw[co];refine bL _ h1 ?_;rintro e t df g ⟨rfl,h⟩;exact h2 t df g h
def S.bA (vals e:List Int)(i:Nat):Bool:=decide (e[i]?.getD 0<0) || decide (e[i]?.getD 0=vals[i]?.getD 0)
def S.bo (vals e:List Int):Bool:=(List.range e.length).all (S.bA vals e)
theorem SlR.far8 {α:Type} [Rp α]{P:Nat->Prop}{k:Nat}{h h':H}{l:List α}{v:AV}(r:SlR P k h l v)(hf:∀i,P i->h'.get i=h.get i):SlR P k h' l v:=by obtain ⟨w,e,q⟩:=Rp.mono (P':=P) (k':=k) (h':=h') (show Rp.rp P k h l [v] from ⟨v,rfl,r⟩) (λi hi=>⟨hi,hf i hi⟩) (Nat.le_refl _);injection e with e;subst e;exact q
def S.b_ (s a:List Int):List Int:=(List.range s.length).map λi=>if a[i]?.getD 0<0 then -1 else s[i]?.getD 0
theorem jR {α:Type}{C:α->Prop}{S:α->VS}{j:Nat}(h:∀a,Snb (S a) j):Snb (λP k h v=>∃a,C a/\S a P k h v) j :=
 ⟨λ{P k hh v n} d r hn=>by
  obtain ⟨a,c,r⟩:=r;obtain ⟨v',e,r'⟩:=(h a).snap d r hn;exact ⟨v',e,a,c,r'⟩,λ{k hh v n} r hn=>by
  obtain ⟨a,c,r⟩:=r;exact (h a).tag r hn⟩
theorem qi:∀{A L:List Nat},A.Nodup->(∀v∈A,v∈L)->A.length<=L.length
 | [],_,_,_=>Nat.zero_le _
 | a::A,L,hA,h=>by rw[List.nodup_cons] at hA;have ha:=h a (by simp);have:=qi (A:=A) (L:=L.erase a) hA.2 λv hv=>(List.mem_erase_of_ne (λe=>hA.1 (by rw[<-e];exact hv))).2 (h v (by simp[hv]));rw[List.length_erase_of_mem ha] at this;have:=List.length_pos_of_mem ha;simp only[List.length_cons];omega
def Ord (p:List Nat)(L:List Nat):Prop:=(∀v,v<p.length->v∈L)/\∀(i v:Nat),L[i]?=some v->v<p.length/\∀q,(Par p v).testBit q=true->q∈L.take i
def DI (p:List Nat)(L:List Nat):Prop:=L.Nodup/\∀(i v:Nat),L[i]?=some v->v<p.length/\∀q,(Par p v).testBit q=true->q∈L.take i
theorem GO {p L:List Nat}(h:DI p L):L.length<=p.length:=by
 have:=qi (L:=List.range p.length) h.1 λv hv=>by obtain ⟨i,hi,rfl⟩:=List.mem_iff_getElem.1 hv;exact List.mem_range.2 (h.2 i _ (List.getElem?_eq_getElem hi)).1
 simpa using this
theorem EB {p L:List Nat}(h:DI p L){v:Nat}(hv:v ∉ L)(hl:v<p.length)(hp:∀q,(Par p v).testBit q=true->q∈L):DI p (L++[v]):=by
 refine ⟨?_,λi u hu=>?_⟩
 ·rw[List.nodup_append];exact ⟨h.1,by simp,λa ha b hb=>by simp at hb;subst hb;exact λe=>hv (e ▸ ha)⟩
 ·rcases Nat.lt_or_ge i L.length with hi | hi
  ·rw[List.getElem?_append_left hi] at hu;obtain ⟨h1,h2⟩:=h.2 i u hu;exact ⟨h1,λq hq=>by rw[List.take_append_of_le_length (by omega)];exact h2 q hq⟩
  ·rw[List.getElem?_append_right hi] at hu;have:i=L.length:=by have:=(List.getElem?_eq_some_iff.1 hu).1;simp at this;omega
   subst this;simp at hu;subst hu;exact ⟨hl,λq hq=>by rw[List.take_left];exact hp q hq⟩
theorem EA {p L:List Nat}(h:DI p L)(hl:p.length<=L.length):Ord p L:=by
 refine ⟨λv hv=>?_,h.2⟩
 by_cases hm:v∈L
 ·exact hm
 ·have:=qi (A:=v::L) (L:=List.range p.length) (List.nodup_cons.2 ⟨hm,h.1⟩) λu hu=>by
   rcases List.mem_cons.1 hu with rfl | hu
   ·exact List.mem_range.2 hv
   ·obtain ⟨i,hi,rfl⟩:=List.mem_iff_getElem.1 hu;exact List.mem_range.2 (h.2 i _ (List.getElem?_eq_getElem hi)).1
  simp at this;omega
theorem Ip {p L:List Nat}(h:DI p L)(hl:L.length<p.length):∃v,v<p.length/\v ∉ L:=by
 by_cases hh:∃v,v<p.length/\v ∉ L
 ·exact hh
 ·exfalso;have:=qi (A:=List.range p.length) (L:=L) List.nodup_range λv hv=>by
   by_cases h':v∈L
   ·exact h'
   ·exact absurd ⟨v,List.mem_range.1 hv,h'⟩ hh
  simp at this;omega
def JD (D:Nat)(L:List Nat):Prop:=D<18446744073709551616/\∀v,D.testBit v=true↔v∈L
theorem ET {D:Nat}{L:List Nat}(h:JD D L){v:Nat}(hv:v<64):JD (D ||| S.aP v) (L++[v]):=by
 refine ⟨GN h.1 (uB v),λu=>?_⟩;rw[pT,uC hv,Bool.or_eq_true,h.2,decide_eq_true_eq,List.mem_append,List.mem_singleton];constructor
 ·rintro (h | h)
  ·exact .inl h
  ·exact .inr h.symm
 ·rintro (h | h)
  ·exact .inl h
  ·exact .inr h.symm
theorem Jb {g g':G}(hn:g.nx<=g'.nx)(h:∀i,i<g.nx->g'.h.get i=g.h.get i):Fr g g':=⟨hn,h⟩
section
variable {m:Causal}{c1 c2 l w c9 v35 ls v48:AV}{al:List Int}{hid kk:Int}{p:Nat}
end
end
end Hx
end
section
namespace Hx
open Go
noncomputable section
theorem BJ (l:List Int)(j:Nat)(x:Int):(l.map ci).set j (ci x)=(l.set j x).map ci:=by rw[List.map_set]
theorem ul {x y:Nat}(hy:0<y):cy .rem (.int .i64 (x:Int)) (.int .i64 (y:Int))=.val (.int .i64 ((x % y:Nat):Int)):=by rw[nm .i64 (Int.natCast_nonneg x) (by omega),<-Int.natCast_emod]
theorem Df {x y:Nat}(hx:x<9223372036854775808)(hy:0<y):cy .quo (.int .i64 (x:Int)) (.int .i64 (y:Int))=.val (.int .i64 ((x / y:Nat):Int)):=by have hle:x / y<=x:=Nat.div_le_self _ _;rw[HP .i64 (Int.natCast_nonneg x) (by omega),<-Int.natCast_ediv];generalize x / y=z at hle;rw[aB (by omega) (by omega)]
def S.bh:List Int->Int
 | []=>0
 | x::l=>x+10000*S.bh l
structure S.tI (bl:List Int) (n i:Nat) (V ai:Int) (k:Nat) (c:Int) (L:List Int):Prop where
 len:L.length=n
 rng:∀x∈L,0<=x/\x<10000
 zer:∀j,i+bl.length<=j->i+k<=j->L[j]?.getD 0=0
 kle:k<=bl.length+1
 c0:0<=c
 c1:c<10000
 ce:k=bl.length+1->c=0
 cs:k=0->c=0
 eq:S.bh L+c*10000 ^ (i+k)=V+ai*10000 ^ i*S.bh (bl.take k)
structure S.tO (al bl:List Int) (i:Nat) (L:List Int):Prop where
 len:L.length=al.length+bl.length
 rng:∀x∈L,0<=x/\x<10000
 zer:∀j,i+bl.length<=j->L[j]?.getD 0=0
 eq:S.bh L=S.bh (al.take i)*S.bh bl
structure S.mI (al bl:List Int) (i:Nat) (r:Int) (L:List Int):Prop where
 len:L.length=i
 rng:∀x∈L,0<=x/\x<10000
 r01:r=0\/r=1
 eq:S.bh L=S.bh (al.take i) - S.bh (bl.take i)+r*10000 ^ i
theorem Fl {x y:Int}(h0:0<=x)(h1:x<9223372036854775808)(hy:0<y):cy .rem (.int .i64 x) (.int .i64 y)=.val (.int .i64 (x % y)):=by obtain ⟨n,rfl⟩:=Int.eq_ofNat_of_zero_le h0;obtain ⟨m,rfl⟩:=Int.eq_ofNat_of_zero_le (by omega:0<=y);have:=ul (x:=n) (y:=m) (by omega);rw[this,Int.natCast_emod]
theorem Fk {x y:Int}(h0:0<=x)(h1:x<9223372036854775808)(hy:0<y):cy .quo (.int .i64 x) (.int .i64 y)=.val (.int .i64 (x / y)):=by obtain ⟨n,rfl⟩:=Int.eq_ofNat_of_zero_le h0;obtain ⟨m,rfl⟩:=Int.eq_ofNat_of_zero_le (by omega:0<=y);have:=Df (x:=n) (y:=m) (by omega) (by omega);rw[this,Int.natCast_ediv]
structure S.qI (x b n:Nat) (i:Nat) (L:List Int):Prop where
 len:L.length=n
 rng:∀z∈L,0<=z/\z<10000
 eq:S.bh (L.drop i)=((x / 10000 ^ i / b:Nat):Int)
theorem SlR.wd {α:Type} [Rp α]{P P':Nat->Prop}{k:Nat}{h h':H}{l:List α}{v:AV}(r:SlR P k h l v)(hf:∀i,P i->P' i/\h'.get i=h.get i):SlR P' k h' l v:=by obtain ⟨w,hw,q⟩:=Rp.mono (k':=k) (P':=P') (h':=h') (show Rp.rp P k h l [v] from ⟨v,rfl,r⟩) hf (Nat.le_refl _);injection hw with hw;subst hw;exact q
abbrev P3:Nat->Prop:=λi=>3<=i
structure HS (m:Causal) (c1 c2 la lb lc:AV) (p q:Nat) (gb g:G):Prop where
 fr:Fr gb g
 mp:g.h.get p=.cells 3 [[.int .i64 m.grain,c1,c2]] 0 false false
 ml:g.h.get q=.cells 3 [[la,lb,lc]] 0 false false
 pn:p<gb.nx
 q0:gb.nx<=q
 qn:q<g.nx
section
variable {m:Causal}{c1 c2 la lb lc w c28 vi c90 vj:AV}{A B Z:List Int}{p q:Nat}
end
end
end Hx
end
end
section
namespace Hx
open Go
section
variable {p:List Nat}
theorem xO:DH p 0:=⟨λv _ hb=>by simp at hb,λv _ hb=>by simp at hb⟩
theorem Aa {q:Nat}(ih:DH p q){j:Nat}(hj:j<64)(hd:Sub (Par p j) q):DH p (q ||| S.aP j):=by
 refine ⟨λv hv hb=>?_,λv hv hb=>?_⟩
 ·intro u hu;rw[pT,uC hj,Bool.or_eq_true,decide_eq_true_eq] at hb;rw[pT,Bool.or_eq_true];rcases hb with hb | hb
  ·exact .inl (ih.1 v hv hb u hu)
  ·subst hb;exact .inl (hd u hu)
 ·rw[pT,uC hj,Bool.or_eq_true,decide_eq_true_eq] at hb;cases hq:q.testBit v
  ·rw[hq] at hb;simp at hb;subst hb;rw[<-Bool.not_eq_true];intro hu;have:=Ch ih.1 hd p.length j hu;rw[hq] at this;cases this
  ·exact ih.2 v hv hq
theorem rG {q:Nat}(h:DH p q)(hf:∀v,v<p.length->q.testBit v=true):S.bg p=true :=
 rF.2 λv hv=>h.2 v hv (hf v hv)
theorem yv (hp:∀x∈p,x<2 ^ p.length)(h:S.bg p=true){T:Nat}(hst:∀v,v<p.length->T.testBit v=false->¬Sub (Par p v) T):∀v,v<p.length->T.testBit v=true:=by
 rw[rF] at h;have none:∀r v,v<p.length->T.testBit v=false->S.up p (Par p v) p.length=r->False:=by
  intro r
  induction r using Nat.strongRecOn with
  | _ r ih =>
   intro v hv hb hr;have hns:=hst v hv hb;have:∃u,(Par p v).testBit u=true/\T.testBit u=false:=by
    apply Classical.byContradiction;intro hno;apply hns;intro u hu;cases hc:T.testBit u
    ·exact absurd ⟨u,hu,hc⟩ hno
    ·rfl
   obtain ⟨u,hu,hub⟩:=this;have hul:u<p.length:=Hw (BV hp) hu;have hcl:=E1 hp (s:=Par p v) (BV hp);have hin:(S.up p (Par p v) p.length).testBit u=true:=uv _ u hu;have hsub:Sub (S.up p (Par p u) p.length) (S.up p (Par p v) p.length):=Ch hcl (hcl u hul hin) _;have hlt:S.up p (Par p u) p.length<S.up p (Par p v) p.length:=by refine Nat.lt_of_le_of_ne (Kg hsub) λe=>?_;have:=h u hul;rw[e,hin] at this;cases this
   exact ih _ (by omega) u hul hub rfl
 intro v hv;cases hc:T.testBit v
 ·exact (none _ v hv hc rfl).elim
 ·rfl
end
end Hx
end
section
namespace Hx
open Go
theorem ni:∀a b:List Int,S.ae (a++b)=S.ae a*S.ae b
 | [],b=>by simp[S.ae]
 | x::a,b=>by rw[List.cons_append,cO,cO,ni a b,Int.mul_assoc]
theorem rT:∀{a va:List Int} (b vb:List Int),a.length=va.length->S.af (a++b) (va++vb)=S.af a va*S.ae b+S.af b vb
 | [],[],b,vb,_=>by simp[S.af]
 | [],_::_,_,_,h=>by simp at h
 | _::_,[],_,_,h=>by simp at h
 | c::a,v::va,b,vb,h=>by rw[List.cons_append,List.cons_append,S.af,S.af,rT b vb (by simpa using h),ni,Int.add_mul,Int.mul_assoc];omega
theorem AJ:∀{cs vs:List Int} (a:Int),(∀c∈cs,1<=c)->InC cs vs->S.bK cs (a*S.ae cs+S.af cs vs)=a
 | [],[],a,_,_=>by simp[S.bK,S.ae,S.af]
 | [],_::_,_,_,h=>by cases h
 | _::_,[],_,_,h=>by cases h
 | c::cs,v::vs,a,hc,h=>by
  obtain ⟨⟨h1,h2⟩,h3⟩:=h;have ih:=AJ (cs:=cs) (vs:=vs) (a*c+v) (λx hx=>hc x (by simp[hx])) h3;have e:a*S.ae (c::cs)+S.af (c::cs) (v::vs)=(a*c+v)*S.ae cs+S.af cs vs:=by rw[cO,S.af,Int.add_mul,Int.mul_assoc];omega
  rw[e];show S.bK cs _ / c=a;rw[ih,Int.add_comm,Int.add_mul_ediv_right _ _ (by omega),Int.ediv_eq_zero_of_lt h1 h2];omega
theorem xI:∀{cs vs:List Int} (a:Int) (i:Nat),(∀c∈cs,1<=c)->InC cs vs->i<cs.length->S.bL cs (a*S.ae cs+S.af cs vs) i=vs[i]?.getD 0
 | [],_,_,_,_,_,hi=>by simp at hi
 | _::_,[],_,_,_,h,_=>by cases h
 | c::cs,v::vs,a,i,hc,h,hi=>by
  obtain ⟨⟨h1,h2⟩,h3⟩:=h;have hc':∀x∈cs,1<=x:=λx hx=>hc x (by simp[hx]);have e:a*S.ae (c::cs)+S.af (c::cs) (v::vs)=(a*c+v)*S.ae cs+S.af cs vs:=by rw[cO,S.af,Int.add_mul,Int.mul_assoc];omega
  rw[e];cases i with
  | zero =>
   show S.bK cs _ % c=v;rw[AJ _ hc' h3,Int.add_comm,Int.add_mul_emod_self_right,Int.emod_eq_of_lt h1 h2]
  | succ i =>
   have:=xI (a*c+v) i hc' h3 (by simpa using hi);simpa [S.bL] using this
theorem jb {cs vs:List Int}(hc:∀c∈cs,1<=c)(h:InC cs vs):S.ak cs (S.af cs vs)=vs:=by
 have hl:=h.len;refine List.ext_getElem (by simp[S.ak,hl]) λi h1 h2=>?_;have hi:i<cs.length:=by simpa [S.ak] using h1
 have:=xI 0 i hc h hi;rw[Int.zero_mul,Int.zero_add,List.getElem?_eq_getElem h2,Option.getD_some] at this;simp[S.ak,this]
theorem bZ {cs:List Int}(hc:∀c∈cs,1<=c)(h:Int):InC cs (S.ak cs h):=by refine yO (by simp[S.ak]) λi c v h1 h2=>?_;have hi:=(List.getElem?_eq_some_iff.1 h1).1;rw[S.ak,List.getElem?_map,List.getElem?_range hi,Option.map_some,Option.some.injEq] at h2;have hcc:=hc c (List.mem_of_getElem? h1);rw[<-h2,S.bL,h1,Option.getD_some];exact ⟨Int.emod_nonneg _ (by omega),Int.emod_lt_of_pos _ (by omega)⟩
theorem nZ (cs:List Int)(h:Int):(S.ak cs h).length=cs.length:=by simp[S.ak]
theorem jU:∀{cs:List Int},(∀c∈cs,1<=c)->1<=S.ae cs
 | [],_=>by decide
 | c::cs,h=>by rw[cO];have h1:=h c (by simp);have h2:=jU (cs:=cs) λx hx=>h x (by simp[hx]);exact Int.le_trans h1 (by have:=Int.mul_le_mul_of_nonneg_left h2 (show 0<=c by omega);omega)
theorem m6:∀(cs:List Int) (n:Nat),S.af cs (List.replicate n 0)=0
 | [],n=>by cases n<;>rfl
 | _::_,0=>rfl
 | c::cs,n+1=>by rw[List.replicate_succ,S.af,m6 cs n];simp
theorem rU:∀{cs vs:List Int},cs.length=vs.length->(∀(i:Nat) (c:Int),cs[i]?=some c->vs[i]?.getD 0=c - 1)->S.af cs vs=S.ae cs - 1
 | [],[],_,_=>by decide
 | [],_::_,h,_=>by simp at h
 | _::_,[],h,_=>by simp at h
 | c::cs,v::vs,hl,h=>by
  have h0:=h 0 c rfl;have ih:=rU (cs:=cs) (vs:=vs) (by simpa using hl) λi x hx=>by have:=h (i+1) x (by simpa using hx);simpa using this
  simp at h0;rw[S.af,ih,cO,h0,Int.sub_mul];omega
theorem vq {cs vs:List Int}(hl:cs.length=vs.length){i:Nat}{x:Int}(hi:vs[i]?=some x)(hm:∀(j:Nat) (c:Int),i<j->cs[j]?=some c->vs[j]?.getD 0=c - 1) :
  S.af cs (vs.take i++(x+1)::List.replicate (vs.length - (i+1)) 0)=S.af cs vs+1:=by
 have hil:=(List.getElem?_eq_some_iff.1 hi).1;obtain ⟨c,hc⟩:∃c,cs[i]?=some c:=⟨_,List.getElem?_eq_getElem (by omega)⟩;have e1:cs=cs.take i++c::cs.drop (i+1):=by have:=List.drop_eq_getElem_cons (l:=cs) (i:=i) (by omega);rw[List.getElem?_eq_getElem (by omega),Option.some.injEq] at hc;rw[<-hc,<-this,List.take_append_drop]
 have e2:vs=vs.take i++x::vs.drop (i+1):=by have:=List.drop_eq_getElem_cons (l:=vs) (i:=i) hil;rw[List.getElem?_eq_getElem hil,Option.some.injEq] at hi;rw[<-hi,<-this,List.take_append_drop]
 have hlt:(cs.take i).length=(vs.take i).length:=by simp[hl]
 have hmx:S.af (cs.drop (i+1)) (vs.drop (i+1))=S.ae (cs.drop (i+1)) - 1:=by refine rU (by simp[hl]) λj d hj=>?_;rw[List.getElem?_drop] at hj ⊢;exact hm _ d (by omega) hj
 have h1:S.af cs vs=S.af (cs.take i) (vs.take i)*S.ae (c::cs.drop (i+1))+(x*S.ae (cs.drop (i+1))+S.af (cs.drop (i+1)) (vs.drop (i+1))):=by
  conv=>lhs;rw[e1,e2,rT _ _ hlt,S.af]
 have h2:S.af cs (vs.take i++(x+1)::List.replicate (vs.length - (i+1)) 0)=S.af (cs.take i) (vs.take i)*S.ae (c::cs.drop (i+1))+((x+1)*S.ae (cs.drop (i+1))+0):=by
  conv=>lhs;rw[e1,rT _ _ hlt,S.af,m6]
 rw[h2,h1,hmx,Int.add_mul];omega
end Hx
end
section
namespace Hx
open Go
def S.ac (n:Net):List Int:=n.nodes.map (·.card)
def S.aa (cs ps:List Int):List Int:=ps.map λp=>cs[p.toNat]?.getD 0
def S.am (n:Net):List Nat:=n.nodes.map λx=>S.aq x.parents
def S.aQ (gr card:Int)(r:List Int):Bool:=decide ((r.length:Int)=card)&&r.all (λx=>decide (0<=x)&&decide (x<=gr))&&decide (r.sum=gr)
def S.bN (k:Int)(x:Node):Bool:=decide (1<=x.card)&&decide (x.card<=4)&&S.au x.parents k
def S.bO (n:Net)(x:Node):Bool:=decide ((x.rows.length:Int)=S.ae (S.aa (S.ac n) x.parents))&&x.rows.all (S.aQ n.grain x.card)
def S.aN (n:Net):Bool:=decide (1<=n.grain)&&decide (n.grain<=60)&&decide (1<=n.nodes.length)&&decide (n.nodes.length<=8)&&n.nodes.all (S.bN n.nodes.length)&&decide (S.ae (S.ac n)<=1024)&&S.bg (S.am n)&&n.nodes.all (S.bO n)
structure NR (n:Net):Prop where
 g1:1<=n.grain
 g2:n.grain<=60
 l1:1<=n.nodes.length
 l2:n.nodes.length<=8
 card:∀x∈n.nodes,1<=x.card/\x.card<=4
 places:∀x∈n.nodes,S.au x.parents n.nodes.length=true
 worlds:S.ae (S.ac n)<=1024
 acyc:S.bg (S.am n)=true
 rows:∀x∈n.nodes,(x.rows.length:Int)=S.ae (S.aa (S.ac n) x.parents)
 row:∀x∈n.nodes,∀r∈x.rows,(r.length:Int)=x.card/\(∀y∈r,0<=y/\y<=n.grain)/\r.sum=n.grain
theorem dI {n:Net}:S.aN n=true↔NR n:=by
 simp only[S.aN,S.bN,S.bO,S.aQ,Bool.and_eq_true,decide_eq_true_eq,List.all_eq_true];constructor
 ·rintro ⟨⟨⟨⟨⟨⟨⟨a,b⟩,c⟩,d⟩,e⟩,f⟩,g⟩,h⟩;exact ⟨a,b,c,d,λx hx=>(e x hx).1,λx hx=>(e x hx).2,f,g,λx hx=>(h x hx).1,λx hx r hr=>⟨((h x hx).2 r hr).1.1,((h x hx).2 r hr).1.2,((h x hx).2 r hr).2⟩⟩
 ·rintro ⟨a,b,c,d,e1,e2,f,g,h1,h2⟩;exact ⟨⟨⟨⟨⟨⟨⟨a,b⟩,c⟩,d⟩,λx hx=>⟨e1 x hx,e2 x hx⟩⟩,f⟩,g⟩,λx hx=>⟨h1 x hx,λr hr=>⟨⟨(h2 x hx r hr).1,(h2 x hx r hr).2.1⟩,(h2 x hx r hr).2.2⟩⟩⟩
theorem bp {l:List Int}{k:Int}(h:S.au l k=true):∀x∈l,0<=x/\x<k:=by
 intro x hx;obtain ⟨i,hi,he⟩:=List.mem_iff_getElem.1 hx;have:=List.all_eq_true.1 h i (List.mem_range.2 hi);have e:l[i]?.getD 0=x:=by rw[List.getElem?_eq_getElem hi,he];rfl
 simp only[S.aZ,Bool.and_eq_true,decide_eq_true_eq,e] at this;omega
theorem rx {l:List Int}{k:Int}(h:S.au l k=true){i:Nat}{x y:Int}(hx:l[i]?=some x)(hy:l[i+1]?=some y):x<y:=by have hi:=(List.getElem?_eq_some_iff.1 hy).1;have:=List.all_eq_true.1 h (i+1) (List.mem_range.2 hi);simp only[S.aZ,Bool.and_eq_true,decide_eq_true_eq,hy,Option.getD_some,Nat.add_sub_cancel,hx] at this;simp at this;omega
theorem sZ {l:List Int}{k:Int}(h:S.au l k=true):∀{i j:Nat} {x y:Int},l[i]?=some x->l[j]?=some y->i<j->x<y:=by
 intro i j
 induction j with
 | zero=>intro x y _ _ h;omega
 | succ j ih =>
  intro x y hx hy hij;have hj:=(List.getElem?_eq_some_iff.1 hy).1;have hz:l[j]?=some l[j]:=List.getElem?_eq_getElem (by omega);have h1:=rx h hz hy
  by_cases e:i=j
  ·subst e;rw[hx] at hz;injection hz with hz;omega
  ·have:=ih hx hz (by omega);omega
theorem dK {l:List Int}{k:Int}(h:S.au l k=true)(hk:0<=k):(l.length:Int)<=k:=by
 have key:∀(i:Nat) (x:Int),l[i]?=some x->(i:Int)<=x:=by
  intro i
  induction i with
  | zero=>intro x hx;have:=bp h x (List.mem_of_getElem? hx);omega
  | succ i ih =>
   intro x hx;have hi:=(List.getElem?_eq_some_iff.1 hx).1;have h1:=ih l[i] (List.getElem?_eq_getElem (by omega));have:=rx h (List.getElem?_eq_getElem (show i<l.length by omega)) hx;omega
 by_cases hl:l.length=0
 ·omega
 ·have h1:=key (l.length - 1) l[l.length - 1] (List.getElem?_eq_getElem (by omega));have h2:=bp h _ (List.getElem_mem (show l.length - 1<l.length by omega));omega
theorem NR.cs {n:Net}(h:NR n):∀c∈S.ac n,1<=c/\c<=4:=λc hc=>by obtain ⟨x,hx,rfl⟩:=List.mem_map.1 hc;exact h.card x hx
theorem aw (n:Net):(S.ac n).length=n.nodes.length:=by simp[S.ac]
theorem a8 {cs ps:List Int}(hc:∀c∈cs,1<=c/\c<=4)(hp:∀p∈ps,0<=p/\p<cs.length):∀c∈S.aa cs ps,1<=c/\c<=4:=λc h=>by obtain ⟨p,h1,rfl⟩:=List.mem_map.1 h;have h2:=hp p h1;rw[List.getElem?_eq_getElem (by omega),Option.getD_some];exact hc _ (List.getElem_mem _)
theorem cC {cs ps vals:List Int}(h:InC cs vals)(hp:∀p∈ps,0<=p/\p<cs.length):InC (S.aa cs ps) (S.aa vals ps):=by refine yO (by simp[S.aa]) λi c v h1 h2=>?_;simp only[S.aa,List.getElem?_map,Option.map_eq_some_iff] at h1 h2;obtain ⟨p,h3,rfl⟩:=h1;obtain ⟨p',h4,rfl⟩:=h2;rw[h3] at h4;injection h4 with h4;subst h4;have h5:=hp p (List.mem_of_getElem? h3);have h6:cs[p.toNat]?=some cs[p.toNat]:=List.getElem?_eq_getElem (by omega);obtain ⟨v,h7,h8⟩:=h.get h6;rw[h6,h7,Option.getD_some,Option.getD_some];exact h8
theorem dJ (cs a b:List Int):S.aa cs (a++b)=S.aa cs a++S.aa cs b:=by simp[S.aa]
def S.aE (n:Net)(vals:List Int)(v:Nat):Int:=match n.nodes[v]? with
 | none=>1
 | some x=>(x.rows[(S.af (S.aa (S.ac n) x.parents) (S.aa vals x.parents)).toNat]?.getD [])[(vals[v]?.getD 0).toNat]?.getD 0
def S.aX (n:Net)(vals:List Int):Int:=S.ae ((List.range n.nodes.length).map (S.aE n vals))
theorem NR.pin {n:Net}(h:NR n){x:Node}(hx:x∈n.nodes):∀p∈x.parents,0<=p/\p<(S.ac n).length:=λp hp=>by rw[aw];exact bp (h.places x hx) p hp
theorem u_ {n:Net}(h:NR n){vals:List Int}(hv:InC (S.ac n) vals){v:Nat}{x:Node}(hx:n.nodes[v]?=some x) :
  ∃(i:Nat) (r:List Int) (c y:Int),S.af (S.aa (S.ac n) x.parents) (S.aa vals x.parents)=(i:Int)/\i<x.rows.length/\x.rows[i]?=some r/\vals[v]?=some c/\0<=c/\c<x.card/\r[c.toNat]?=some y/\S.aE n vals v=y/\0<=y/\y<=n.grain:=by
 have hm:=List.mem_of_getElem? hx;have hi:=bA (a8 h.cs (h.pin hm)) (cC hv (h.pin hm));rw[<-h.rows x hm] at hi;obtain ⟨i,he⟩:=Int.eq_ofNat_of_zero_le hi.1;have hil:i<x.rows.length:=by omega
 have hc:(S.ac n)[v]?=some x.card:=by simp[S.ac,hx]
 obtain ⟨c,h1,h2,h3⟩:=hv.get hc;obtain ⟨r1,r2,-⟩:=h.row x hm x.rows[i] (List.getElem_mem hil);have hcl:c.toNat<(x.rows[i]).length:=by omega
 refine ⟨i,x.rows[i],c,(x.rows[i])[c.toNat],he,hil,List.getElem?_eq_getElem hil,h1,h2,h3,List.getElem?_eq_getElem hcl,?_,r2 _ (List.getElem_mem hcl)⟩;simp only[S.aE,hx,he,h1,Int.toNat_natCast,List.getElem?_eq_getElem hil,Option.getD_some,List.getElem?_eq_getElem hcl]
theorem sj:∀{l:List Int},(∀x∈l,0<=x/\x<=60)->0<=S.ae l/\S.ae l<=60 ^ l.length
 | [],_=>by decide
 | x::l,h=>by have h1:=sj (l:=l) λy hy=>h y (by simp[hy]);have h2:=h x (by simp);rw[cO,List.length_cons,Int.pow_succ,Int.mul_comm x];refine ⟨Int.mul_nonneg h1.1 h2.1,Int.le_trans (Int.mul_le_mul_of_nonneg_left h2.2 h1.1) (Int.mul_le_mul_of_nonneg_right h1.2 (by decide))⟩
theorem KI {k:Nat}(h:k<=8):(60:Int) ^ k<=167961600000000:=by
 have hk:k=0\/k=1\/k=2\/k=3\/k=4\/k=5\/k=6\/k=7\/k=8:=by omega
 rcases hk with rfl | rfl | rfl | rfl | rfl | rfl | rfl | rfl | rfl<;>decide
theorem Ed {n:Net}(h:NR n){vals:List Int}(hv:InC (S.ac n) vals){v:Nat}(hi:v<n.nodes.length):0<=S.aE n vals v/\S.aE n vals v<=60:=by obtain ⟨i,r,c,y,-,-,-,-,-,-,-,e,a,b⟩:=u_ h hv (List.getElem?_eq_getElem hi);have:=h.g2;omega
theorem mu {n:Net}(h:NR n){vals:List Int}(hv:InC (S.ac n) vals){j:Nat}(hj:j<=n.nodes.length):0<=S.ae ((List.range j).map (S.aE n vals))/\S.ae ((List.range j).map (S.aE n vals))<=167961600000000:=by
 have h1:=sj (l:=(List.range j).map (S.aE n vals)) λx hx=>by obtain ⟨i,hi,rfl⟩:=List.mem_map.1 hx;exact Ed h hv (by have:=List.mem_range.1 hi;omega)
 have h2:=KI (k:=((List.range j).map (S.aE n vals)).length) (by have:=h.l2;simp;omega);omega
theorem wI (n:Net)(vals:List Int)(j:Nat):S.ae ((List.range (j+1)).map (S.aE n vals))=S.ae ((List.range j).map (S.aE n vals))*S.aE n vals j:=by rw[List.range_succ,List.map_append,List.map_singleton,s5]
def S.an (n:Net)(p:Nat->Bool):Nat->Int
 | 0=>0
 | j+1=>S.an n p j+if p j then S.aX n (S.ak (S.ac n) (j:Int)) else 0
theorem mg {n:Net}(h:NR n){vals:List Int}(hv:InC (S.ac n) vals):0<=S.aX n vals/\S.aX n vals<=167961600000000:=mu h hv (Nat.le_refl _)
theorem wC {n:Net}(h:NR n)(p:Nat->Bool):∀j:Nat,0<=S.an n p j/\S.an n p j<=167961600000000*j
 | 0=>by simp[S.an]
 | j+1=>by
  have ih:=wC h p j;have hw:=mg h (bZ (λc hc=>(h.cs c hc).1) (j:Int));rw[S.an]
  split<;>omega
theorem wD {n:Net}{p q:Nat->Bool}:∀{j:Nat},(∀i,i<j->p i=q i)->S.an n p j=S.an n q j
 | 0,_=>rfl
 | j+1,h=>by rw[S.an,S.an,wD λi hi=>h i (by omega),h j (by omega)]
def S.ah (n:Net):Nat:=(S.ae (S.ac n)).toNat
def S.bC (n:Net)(e:List Int):Int:=S.an n (λw=>S.bo (S.ak (S.ac n) (w:Int)) e) (S.ah n)
theorem NR.wl {n:Net}(h:NR n):1<=S.ah n/\S.ah n<=1024/\((S.ah n:Nat):Int)=S.ae (S.ac n):=by have h1:=jU λc hc=>(h.cs c hc).1;have h2:=h.worlds;unfold S.ah;omega
def S.aD (n:Net)(e:List Int):Bool:=decide (e.length=n.nodes.length)&&(List.range e.length).all λv=>decide (-1<=e[v]?.getD 0)&&decide (e[v]?.getD 0<(S.ac n)[v]?.getD 0)
def S.aB (n:Net)(e:List Int):Int:=if S.aN n then (if S.aD n e then 0 else 2) else 50
end Hx
end
section
namespace Hx
open Go
section
variable {b card:Nat}
def S.ay (b card i x:Nat):Nat:=(i / b*card+x)*b+i % b
def S.aM (b card p:Nat):Nat:=p / (b*card)*b+p % b
def S.a7 (b card p:Nat):Nat:=p / b % card
theorem De (hb:0<b){i x:Nat}(hx:x<card):S.aM b card (S.ay b card i x)=i/\S.a7 b card (S.ay b card i x)=x:=by
 have hm:=Nat.mod_lt i hb;have h1:S.ay b card i x / b=i / b*card+x:=by unfold S.ay;rw[Nat.add_comm,Nat.add_mul_div_right _ _ hb,Nat.div_eq_of_lt hm,Nat.zero_add]
 have h2:S.ay b card i x % b=i % b:=by unfold S.ay;rw[Nat.add_comm,Nat.add_mul_mod_self_right,Nat.mod_mod]
 have h3:(i / b*card+x) / card=i / b:=by rw[Nat.add_comm,Nat.add_mul_div_right _ _ (by omega),Nat.div_eq_of_lt hx,Nat.zero_add]
 have h4:(i / b*card+x) % card=x:=by rw[Nat.add_comm,Nat.add_mul_mod_self_right,Nat.mod_eq_of_lt hx]
 refine ⟨?_,?_⟩
 ·unfold S.aM;rw[<-Nat.div_div_eq_div_mul,h1,h2,h3,Nat.mul_comm];exact Nat.div_add_mod i b
 ·unfold S.a7;rw[h1,h4]
theorem J1 (hb:0<b)(p:Nat):S.ay b card (S.aM b card p) (S.a7 b card p)=p:=by
 have hm:=Nat.mod_lt p hb;have h1:S.aM b card p / b=p / (b*card):=by unfold S.aM;rw[Nat.add_comm,Nat.add_mul_div_right _ _ hb,Nat.div_eq_of_lt hm,Nat.zero_add]
 have h2:S.aM b card p % b=p % b:=by unfold S.aM;rw[Nat.add_comm,Nat.add_mul_mod_self_right,Nat.mod_mod]
 unfold S.ay S.a7;rw[h1,h2,<-Nat.div_div_eq_div_mul,Nat.mul_comm (p / b / card) card,Nat.div_add_mod,Nat.mul_comm];exact Nat.div_add_mod p b
theorem CS (hc:0<card)(p:Nat):S.a7 b card p<card:=Nat.mod_lt _ hc
theorem Id {A p:Nat}(hb:0<b)(hp:p<A*b*card):S.aM b card p<A*b:=by have h1:p / (b*card)<A:=Nat.div_lt_of_lt_mul (by rw[Nat.mul_comm (b*card),<-Nat.mul_assoc];exact hp);have hm:=Nat.mod_lt p hb;unfold S.aM;have:(p / (b*card)+1)*b<=A*b:=Nat.mul_le_mul_right _ h1;rw[Nat.add_mul,Nat.one_mul] at this;omega
theorem yM {A i x:Nat}(hb:0<b)(hi:i<A*b)(hx:x<card):S.ay b card i x<A*b*card:=by have h1:i / b<A:=Nat.div_lt_of_lt_mul (by rw[Nat.mul_comm];exact hi);have hm:=Nat.mod_lt i hb;unfold S.ay;have h2:(i / b+1)*card<=A*card:=Nat.mul_le_mul_right _ h1;rw[Nat.add_mul,Nat.one_mul] at h2;have h3:(i / b*card+x+1)*b<=A*card*b:=Nat.mul_le_mul_right _ (by omega);rw[Nat.add_mul (i / b*card+x),Nat.one_mul,Nat.mul_assoc A,Nat.mul_comm card b,<-Nat.mul_assoc] at h3;omega
def S.aJ (rows:List (List Int))(b card t:Nat):List Int:=(List.range (rows.length*card)).map λp=>if S.aM b card p*card+S.a7 b card p<t then (rows[S.aM b card p]?.getD [])[S.a7 b card p]?.getD 0 else 0
def S.bu (rows:List (List Int))(b card:Nat):List Int:=(List.range (rows.length*card)).map λp=>(rows[S.aM b card p]?.getD [])[S.a7 b card p]?.getD 0
theorem zT (rows:List (List Int))(b card t:Nat):(S.aJ rows b card t).length=rows.length*card:=by simp[S.aJ]
theorem Ef (rows:List (List Int))(b card:Nat):S.aJ rows b card 0=List.replicate (rows.length*card) 0:=by refine List.ext_getElem (by simp[S.aJ]) λi h1 h2=>?_;simp[S.aJ]
theorem Ee {rows:List (List Int)}{A i x:Nat}{r:List Int}{w:Int}(hb:0<b)(hA:rows.length=A*b)(hr:rows[i]?=some r)(hx:x<card)(hw:r[x]?=some w) :
  (S.aJ rows b card (i*card+x)).set (S.ay b card i x) w=S.aJ rows b card (i*card+x+1):=by
 have hi:=(List.getElem?_eq_some_iff.1 hr).1;refine List.ext_getElem (by simp[S.aJ]) λp h1 h2=>?_;have hp:p<rows.length*card:=by simpa [S.aJ] using h2
 obtain ⟨q1,q2⟩:=De hb (i:=i) hx;rw[List.getElem_set]
 by_cases e:S.ay b card i x=p
 ·subst e;rw[if_pos rfl];simp only[S.aJ,List.getElem_map,List.getElem_range,q1,q2];rw[if_pos (by omega),hr,Option.getD_some,hw,Option.getD_some]
 ·rw[if_neg e];simp only[S.aJ,List.getElem_map,List.getElem_range];have hf:=CS (b:=b) (card:=card) (by omega) p;have hne:S.aM b card p*card+S.a7 b card p≠i*card+x:=λh=>e (by
   have e1:S.aM b card p=i:=by
    have h1:(S.aM b card p*card+S.a7 b card p) / card=S.aM b card p:=by rw[Nat.add_comm,Nat.add_mul_div_right _ _ (by omega),Nat.div_eq_of_lt hf,Nat.zero_add]
    have h2:(i*card+x) / card=i:=by rw[Nat.add_comm,Nat.add_mul_div_right _ _ (by omega),Nat.div_eq_of_lt hx,Nat.zero_add]
    rw[<-h1,h,h2]
   have e2:S.a7 b card p=x:=by rw[e1] at h;omega
   rw[<-J1 hb p (card:=card),e1,e2])
  by_cases h:S.aM b card p*card+S.a7 b card p<i*card+x
  ·rw[if_pos h,if_pos (by omega)]
  ·rw[if_neg h,if_neg (by omega)]
theorem FH {rows:List (List Int)}{A:Nat}(hb:0<b)(hA:rows.length=A*b):S.aJ rows b card (rows.length*card)=S.bu rows b card:=by
 unfold S.aJ S.bu;refine List.map_congr_left λp hp=>?_;have hp:=List.mem_range.1 hp;have hc:0<card:=Nat.pos_of_ne_zero λe=>by subst e;simp at hp
 have h1:=Id (A:=A) hb (by rw[<-hA];exact hp);have h2:=CS (b:=b) hc p;rw[if_pos];rw[<-hA] at h1;have:(S.aM b card p+1)*card<=rows.length*card:=Nat.mul_le_mul_right _ h1;rw[Nat.add_mul,Nat.one_mul] at this;omega
theorem H7 {rows:List (List Int)}{A i x:Nat}(hb:0<b)(hA:rows.length=A*b)(hi:i<rows.length)(hx:x<card):(S.bu rows b card)[S.ay b card i x]?=some ((rows[i]?.getD [])[x]?.getD 0):=by obtain ⟨q1,q2⟩:=De hb (i:=i) hx;have hp:=yM (A:=A) (i:=i) hb (by rw[<-hA];exact hi) hx;simp only[S.bu,List.getElem?_map];rw[List.getElem?_range (by rw[hA];exact hp)];simp only[Option.map_some,q1,q2]
end
def S.aw (ps:List Int)(k:Nat)(v:Int):List Int:=ps.take k++v::ps.drop k
theorem JM {n:Net}(h:NR n){vals:List Int}(hv:InC (S.ac n) vals){v:Nat}{x:Node}(hx:n.nodes[v]?=some x)(k:Nat) :
  ∃p:Nat,S.af (S.aa (S.ac n) (S.aw x.parents k (v:Int))) (S.aa vals (S.aw x.parents k (v:Int)))=(p:Int)/\p<x.rows.length*x.card.toNat /\
   (S.bu x.rows (S.ae (S.aa (S.ac n) (x.parents.drop k))).toNat x.card.toNat)[p]?=some (S.aE n vals v):=by
 have hm:=List.mem_of_getElem? hx;obtain ⟨i,r,c,y,e1,e2,e3,e4,e5,e6,e7,e8,-,-⟩:=u_ h hv hx;have hpin:=h.pin hm;have hcb:=a8 h.cs hpin;have hin:=cC hv hpin;have hcx:(S.ac n)[v]?=some x.card:=by simp[S.ac,hx]
 have ps:x.parents=x.parents.take k++x.parents.drop k:=(List.take_append_drop k _).symm;have hd1:∀c∈S.aa (S.ac n) (x.parents.drop k),1<=c/\c<=4:=a8 h.cs λp hp=>hpin p (List.mem_of_mem_drop hp);have hd2:InC (S.aa (S.ac n) (x.parents.drop k)) (S.aa vals (x.parents.drop k)):=cC hv λp hp=>hpin p (List.mem_of_mem_drop hp);have ht1:∀c∈S.aa (S.ac n) (x.parents.take k),1<=c/\c<=4:=a8 h.cs λp hp=>hpin p (List.mem_of_mem_take hp);have ht2:InC (S.aa (S.ac n) (x.parents.take k)) (S.aa vals (x.parents.take k)):=cC hv λp hp=>hpin p (List.mem_of_mem_take hp);obtain ⟨b1,b2⟩:=bA hd1 hd2;obtain ⟨a1,a2⟩:=bA ht1 ht2;have hlt:(S.aa (S.ac n) (x.parents.take k)).length=(S.aa vals (x.parents.take k)).length:=by simp[S.aa]
 have ei:S.af (S.aa (S.ac n) x.parents) (S.aa vals x.parents)=S.af (S.aa (S.ac n) (x.parents.take k)) (S.aa vals (x.parents.take k))*S.ae (S.aa (S.ac n) (x.parents.drop k))+S.af (S.aa (S.ac n) (x.parents.drop k)) (S.aa vals (x.parents.drop k)):=by
  conv=>lhs;rw[ps,dJ,dJ,rT _ _ hlt]
 have er:(x.rows.length:Int)=S.ae (S.aa (S.ac n) (x.parents.take k))*S.ae (S.aa (S.ac n) (x.parents.drop k)):=by
  rw[h.rows x hm]
  conv=>lhs;rw[ps,dJ,ni]
 have ef:S.af (S.aa (S.ac n) (S.aw x.parents k (v:Int))) (S.aa vals (S.aw x.parents k (v:Int))) =
   S.af (S.aa (S.ac n) (x.parents.take k)) (S.aa vals (x.parents.take k))*(x.card*S.ae (S.aa (S.ac n) (x.parents.drop k)))+(c*S.ae (S.aa (S.ac n) (x.parents.drop k))+S.af (S.aa (S.ac n) (x.parents.drop k)) (S.aa vals (x.parents.drop k))):=by
  rw[S.aw,dJ,dJ,rT _ _ hlt];have:S.aa (S.ac n) ((v:Int)::x.parents.drop k)=x.card::S.aa (S.ac n) (x.parents.drop k):=by simp[S.aa,hcx]
  have h2:S.aa vals ((v:Int)::x.parents.drop k)=c::S.aa vals (x.parents.drop k):=by simp[S.aa,e4]
  rw[this,h2,cO,S.af]
 have hpp:=jU λc hc=>(hd1 c hc).1;generalize S.ae (S.aa (S.ac n) (x.parents.drop k))=B at *;generalize S.ae (S.aa (S.ac n) (x.parents.take k))=A at *;generalize S.af (S.aa (S.ac n) (x.parents.drop k)) (S.aa vals (x.parents.drop k))=q at *;generalize S.af (S.aa (S.ac n) (x.parents.take k)) (S.aa vals (x.parents.take k))=a at *;obtain ⟨B,rfl⟩:=Int.eq_ofNat_of_zero_le (show 0<=B by omega);obtain ⟨A,rfl⟩:=Int.eq_ofNat_of_zero_le (show 0<=A by omega);obtain ⟨q,rfl⟩:=Int.eq_ofNat_of_zero_le b1;obtain ⟨a,rfl⟩:=Int.eq_ofNat_of_zero_le a1;obtain ⟨c,rfl⟩:=Int.eq_ofNat_of_zero_le e5;obtain ⟨C,hC⟩:=Int.eq_ofNat_of_zero_le (show 0<=x.card by omega);rw[hC] at ef e6 ⊢;have hB:0<B:=by omega
 have hq:q<B:=by omega
 have hc:c<C:=by omega
 rw[e1] at ei;have hi:i=a*B+q:=by
  have:(i:Int)=((a*B+q:Nat):Int):=by rw[ei,Int.natCast_add,Int.natCast_mul]
  omega
 have hiB:i / B=a:=by rw[hi,Nat.add_comm,Nat.add_mul_div_right _ _ hB,Nat.div_eq_of_lt hq,Nat.zero_add]
 have hiM:i % B=q:=by rw[hi,Nat.add_comm,Nat.add_mul_mod_self_right,Nat.mod_eq_of_lt hq]
 have hrl:x.rows.length=A*B:=by
  have:((x.rows.length:Nat):Int)=((A*B:Nat):Int):=by rw[er,Int.natCast_mul]
  omega
 refine ⟨S.ay B C i c,?_,?_,?_⟩
 ·rw[ef,S.ay,hiB,hiM,Nat.add_mul,Int.natCast_add,Int.natCast_add,Int.natCast_mul,Int.natCast_mul,Int.natCast_mul,Int.mul_assoc];omega
 ·rw[Int.toNat_natCast,hrl];exact yM hB (by rw[<-hrl];exact e2) hc
 ·rw[Int.toNat_natCast,Int.toNat_natCast,H7 hB hrl e2 hc,e3,Option.getD_some];rw[Int.toNat_natCast] at e7;rw[e7,e8];rfl
end Hx
end
section
namespace Hx
open Go
theorem C5 {vals e:List Int}:S.bo vals e=true↔∀i,i<e.length->e[i]?.getD 0<0\/e[i]?.getD 0=vals[i]?.getD 0:=by simp only[S.bo,List.all_eq_true,List.mem_range,S.bA,Bool.or_eq_true,decide_eq_true_eq]
end Hx
end
section
namespace Hx
open Go
noncomputable section
abbrev yk:Type:=UInt8×UInt8×List UInt8
abbrev sF:Type:=UInt8×List yk×List UInt8
abbrev Cn:Type:=UInt8×UInt8×UInt8×Int
theorem ya {P:Nat->Prop}{k:Nat}{h:H}{x:yk}{cs:List AV}:Rp.rp P k h x cs↔∃a,cs=[u8v x.1,u8v x.2.1,a]/\SlR P k h x.2.2 a:=by
 constructor
 ·rintro ⟨c1,c2,rfl,h1,c3,c4,rfl,h2,⟨a,rfl,h4⟩⟩;rw[fC.1 h1,fC.1 h2];exact ⟨a,rfl,h4⟩
 ·rintro ⟨a,rfl,h4⟩;exact ⟨[_],[_,a],rfl,fC.2 rfl,[_],[a],rfl,fC.2 rfl,⟨a,rfl,h4⟩⟩
theorem x_ {P:Nat->Prop}{k:Nat}{h:H}{x:sF}{cs:List AV}:Rp.rp P k h x cs↔∃a b,cs=[u8v x.1,a,b]/\SlR P k h x.2.1 a/\SlR P k h x.2.2 b:=by
 constructor
 ·rintro ⟨c1,c2,rfl,h1,c3,c4,rfl,⟨a,rfl,ha⟩,⟨b,rfl,hb⟩⟩;rw[fC.1 h1];exact ⟨a,b,rfl,ha,hb⟩
 ·rintro ⟨a,b,rfl,ha,hb⟩;exact ⟨[_],[a,b],rfl,fC.2 rfl,[a],[b],rfl,⟨a,rfl,ha⟩,⟨b,rfl,hb⟩⟩
theorem J2 {d k k2:Nat}{g:G}{P P2:Nat->Prop}{v w:AV}{l p:List Int}(hd:0<d)(hv:SlR P k g.h l v)(hw:SlR P2 k2 g.h p w)(hp:p.length<1073741824)(hin:∀x∈p,0<=x/\x<l.length) :
  ∃r,ax C0 d N.aV [v,w] g=.val r/\IT 0 (S.aa l p) r:=by
 obtain ⟨v',e1,r1⟩:=ch hv d;obtain ⟨w',e2,r2⟩:=ch hw d;rw[wQ];refine br zR (xs:=[v',w']) (by simp only[aE,e1,e2]) (by simp[qY]) (be _) (by decide) hd ?_;simp only[sz,simprocAttr,qY];have n2:=λg=>(r2 .nil).len g;have ra:∀h',ae h' 1 v'=some (l.map ci):=λh'=>(r1 h').ints;have rb:∀h',ae h' 1 w'=some (p.map ci):=λh'=>(r2 h').ints;refine Dw (v:=w') (m:=p.length) (by omega) n2 (λj t df g=>df=[]/\St t [(0,v')]/\∃u,tat t 5=u/\Own g 0 u 1 ((S.aa l (p.take j)).map ci)) ⟨rfl,by simp[St,sx],_,rfl,.inl ⟨by simp[sx],by simp[S.aa]⟩⟩ (by simp[sx]) (by simp[sx]) (by decide)
  (by rintro j t df g v s (rfl | rfl | rfl | rfl | rfl | rfl | rfl)<;>simp[sx,St]) ?_ ?_
 ·rintro j t df g1 hj ⟨rfl,⟨h0,-⟩,u,h5,hu⟩ h6 h1;obtain ⟨x,hx,htk,hm⟩:=ac hj;obtain ⟨hx0,hxl⟩:=hin x hm;obtain ⟨n,rfl⟩:=Int.eq_ofNat_of_zero_le hx0;have hn:n<l.length:=by omega
  simp only[sz,simprocAttr,ra,rb,h0,h1,h5,h6,hx,hj,hn,List.length_map,List.getElem?_map,Option.map_some,ci,List.getElem?_eq_getElem hn];refine cx (new:=[ci l[n]]) (hu.step (Fr.new _ _)) (by simp[sx,sy,ci]) (by simp) (by simp[aQ,S.aa];omega) λv2 g2 hv2 n2 f2 _ l2=>?_;simp only[sz,simprocAttr,h0,h1,h6,St];refine ⟨_,rfl,?_⟩;rw[htk];simpa [hn,ci,S.aa] using hv2
 ·rintro t df g1 ⟨rfl,⟨h0,-⟩,u,h5,hu⟩ -;rw[List.take_length] at hu;simp only[sz,simprocAttr,qG,h5];exact ⟨_,hu.ints (by simp[S.aa];omega)⟩
theorem EJ {d k:Nat}{g:G}{P:Nat->Prop}{v:AV}{n:Net}(hd:0<d)(hm:Agg n P k g.h v)(hn:n.nodes.length<1073741824) :
  ∃r,ax C0 d N.aX [v] g=.val r/\IT 0 (S.ac n) r:=by
 obtain ⟨v',e,cs,rfl,hc⟩:=oY (iF n) (by decide) d hm;obtain ⟨b,rfl,hN⟩:=gf.1 hc;obtain ⟨rows,r1,r2,r3,r4⟩:=hN.all;have r1:∀h',ae h' 3 b=some rows:=r1;rw[sR];refine br u0 (xs:=[.agg [.int .i64 n.grain,b]]) (by simp only[aE,e]) (by simp[l_]) (be _) (by decide) hd ?_;simp only[sz,simprocAttr,l_,oy,mQ];refine fg n.nodes.length (by omega) (λj t df g=>df=[]/\tat t 1=.hptr 0 0 0 0/\g.h.get 0=.cells 2 [[.int .i64 n.grain,b]] 0 false false/\1<=g.nx/\∃u,tat t 3=u/\Own g 1 u 1 (((n.nodes.take j).map (·.card)).map ci))
  ⟨rfl,by simp[sx],by simp[sx],by simp[sx],_,rfl,.inl ⟨by simp[sx],rfl⟩⟩ (by simp[sx]) (by decide)
  (by rintro j t df g v s (rfl | rfl | rfl)<;>simp[sx]) ?_ ?_ ?_
 ·rintro j t df g hj ⟨rfl,h1,hg,hnx,u,h3,hu⟩ h4;simp only[sz,simprocAttr,h1,h4,hg,hN.len];exact ⟨hnx,u,h3,hu⟩
 ·rintro j t df g hj ⟨rfl,h1,hg,hnx,u,h3,hu⟩ h4;obtain ⟨x,hx,htk,hm⟩:=ac hj;obtain ⟨row,q1,q2⟩:=r3 j x hx;obtain ⟨a',b',rfl,ha',-⟩:=cH.1 q2;have hlt:j<rows.length:=by omega
  have hry:=r4 (by omega);simp only[sz,simprocAttr,h1,h3,h4,hg,r1,hlt,q1,hry];refine cx (new:=[ci x.card]) (hu.step (Fr.new _ _)) (by simp[sx,sy,ci]) (by simp) (by simp[aQ];omega) λv2 g2 hv2 n2 f2 _ l2=>?_;simp only[sz,simprocAttr,h1,h4];refine ⟨?_,?_,_,rfl,?_⟩
  ·rw[f2 0 (by simp) (λe=>by have:=(hu.lt e).1;omega),G.new_h,aq _ _ _ (by omega),hg]
  ·simp at n2;omega
  ·rw[htk];simpa [ci] using hv2
 ·rintro t df g ⟨rfl,h1,hg,hnx,u,h3,hu⟩;rw[List.take_length] at hu;simp only[sz,simprocAttr,mS,h3];exact ⟨_,hu.ints (by simp;omega)⟩
theorem EC {d k:Nat}{g:G}{P:Nat->Prop}{v:AV}{n:Net}{i:Nat}{x:Node}(hd:0<d)(hm:Agg n P k g.h v)(hn:n.nodes.length<1073741824)(hx:n.nodes[i]?=some x)(hl:x.parents.length<1073741824)(hin:∀p∈x.parents,0<=p/\p<n.nodes.length) :
  ∃r,ax C0 d N.a7 [v,.int .i64 (i:Int)] g=.val r/\IT 0 (S.aa (S.ac n) x.parents) r:=by
 obtain ⟨v',e,cs,rfl,hc⟩:=oY (iF n) (by decide) d hm;have hc':=hc;obtain ⟨b,rfl,hN⟩:=gf.1 hc;have hm':∀h,Agg n NoP (max k d) h (.agg [.int .i64 n.grain,b]):=λh=>⟨_,rfl,Rp.tree hc' (Nat.le_refl _)⟩;obtain ⟨rows,r1,r2,r3,r4⟩:=hN.all;have r1:∀h',ae h' 3 b=some rows:=r1;obtain ⟨row,q1,q2⟩:=r3 i x hx;obtain ⟨a',b',rfl,ha',-⟩:=cH.1 q2;have hil:=(List.getElem?_eq_some_iff.1 hx).1;have hlt:i<rows.length:=by omega
 have hry:=r4 (by omega);rw[ny];refine br pf (xs:=[.agg [.int .i64 n.grain,b],.int .i64 (i:Int)]) (by simp only[aE,e,gR 0]) (by simp[fH]) (be _) (by decide) hd ?_;simp only[sz,simprocAttr,fH,iS];refine gi (EJ (Nat.succ_pos d) (hm' _) hn) λrc hrc=>?_;have hat:=λg=>J2 (d:=d+1) (g:=g) (P:=NoP) (P2:=NoP) (k:=0) (k2:=max k d) (l:=S.ac n) (p:=x.parents) (Nat.succ_pos d) (hrc.sl g.h) (ha'.tree (h':=g.h) (Nat.le_refl _)) hl (λp hp=>by rw[aw];exact hin p hp);simp only[sz,simprocAttr,r1,hlt,q1,hry];refine gi (hat _) λr hr=>?_;simp only[sz,simprocAttr];obtain ⟨w,hw,hs⟩:=hr;exact ⟨_,w,hw,hs.tree (Nat.le_refl _)⟩
theorem Hb {d k:Nat}{g:G}{P:Nat->Prop}{v:AV}{l:List Int}(hd:0<d)(hv:SlR P k g.h l v):ax C0 d N.aE [v] g=.val (.int .i64 (S.aV l)):=by have b:=CT hv.ints;have:=IP hd (Ep hv.ints) (by rw[b];exact hv.1);rwa [b] at this
theorem kY {g:G}{v:AV}{n:Net}(d:Nat)(hm:Agg n NoP 0 g.h v):∃b rows,v=.agg [.int .i64 n.grain,b]/\Hx.snap g.h d aH v=some v/\(∀h,Agg n NoP 0 h v)/\SlR NoP 0 .nil n.nodes b/\(∀h,ae h 3 b=some rows)/\rows.length=n.nodes.length /\
  (∀(i:Nat) (x:Node),n.nodes[i]?=some x->∃pa ra,rows[i]?=some [.int .i64 x.card,pa,ra]/\i<rows.length/\SlR NoP 0 .nil x.parents pa/\SlR NoP 0 .nil x.rows ra)/\(0<n.nodes.length->t8 b=true):=by
 have e:=jZ d hm;obtain ⟨cs,rfl,hc⟩:=hm;have hc':=hc;obtain ⟨b,rfl,hN⟩:=gf.1 hc;have hN:=hN.tree (h':=.nil) (Nat.le_refl _);obtain ⟨rows,r1,r2,r3,r4⟩:=hN.all;refine ⟨b,rows,rfl,e,λh=>⟨_,rfl,Rp.tree hc' (Nat.le_refl _)⟩,hN,r1,r2,λi x hx=>?_,r4⟩;obtain ⟨row,q1,q2⟩:=r3 i x hx;obtain ⟨a',b',rfl,ha',hb'⟩:=cH.1 q2;exact ⟨a',b',q1,by rw[r2];exact (List.getElem?_eq_some_iff.1 hx).1,ha',hb'⟩
theorem za {k:Nat}{l:List (List Int)}{b:AV}(hb:SlR NoP k .nil l b):∃rows:List (List AV),(∀h,ae h 1 b=some rows)/\rows.length=l.length/\(∀(i:Nat) (r:List Int),l[i]?=some r->∃z,rows[i]?=some [z]/\i<rows.length/\SlR NoP k .nil r z)/\(0<l.length->t8 b=true):=by obtain ⟨rows,r1,r2,r3,r4⟩:=hb.all;refine ⟨rows,r1,r2,λi r hr=>?_,r4⟩;obtain ⟨row,q1,q2⟩:=r3 i r hr;obtain ⟨z,rfl,hz⟩:=dL.1 q2;exact ⟨z,q1,by rw[r2];exact (List.getElem?_eq_some_iff.1 hr).1,hz⟩
section
variable {d:Nat}{b pa ra z:AV}{gr card:Int}{r:List Int}
def LR5 (v:Nat)(q:Nat):List (Nat×AV):=[(1,.hptr 0 0 0 0),(6,.int .i64 (v:Int)),(7,.hptr q 0 0 0)]
structure RJ1 (gr:Int) (r:List Int) (v q i j:Nat) (t:T):Prop where
 st:St t ((8,.int .i64 (i:Int))::LR5 v q)
 s9:tat t 9=.int .i64 (r.take j).sum
 all:∀y∈r.take j,0<=y/\y<=gr
structure RJ4 (gr card:Int) (rws:List (List Int)) (v q j:Nat) (t:T):Prop where
 st:St t (LR5 v q)
 all:∀r∈rws.take j,S.aQ gr card r=true
structure RJ0 (n:Net) (b:AV) (j:Nat) (t:T) (g:G):Prop where
 st:St t [(1,.hptr 0 0 0 0),(3,.int .i64 (S.ae ((S.ac n).take j)))]
 hg:g.h.get 0=.cells 2 [[.int .i64 n.grain,b]] 0 false false
 nx:1<=g.nx
 all:∀x∈n.nodes.take j,S.bN n.nodes.length x=true
structure RJ6 (n:Net) (b:AV) (j:Nat) (t:T) (g:G):Prop where
 st:St t [(1,.hptr 0 0 0 0)]
 hg:g.h.get 0=.cells 2 [[.int .i64 n.grain,b]] 0 false false
 nx:1<=g.nx
 all:∀x∈n.nodes.take j,S.bO n x=true
end
end
end Hx
end
section
namespace Hx
open Go
noncomputable section
def OwnC (g:G)(b id:Nat)(l tl:List Int):Prop:=b<=id/\id<g.nx/\g.h.get id=.cells 1 (l.map ci++tl.map ci) 0 false false
theorem OwnC.rows {g:G}{b id:Nat}{l tl:List Int}(h:OwnC g b id l tl):ae g.h 1 (.hsl id 0 0 l.length none)=some (l.map ci):=by rw[eR,h.2.2,cT,if_pos (by simp),List.drop_zero,List.take_left' (by simp)]
theorem OwnC.fr {g g':G}{b id:Nat}{l tl:List Int}(h:OwnC g b id l tl)(hn:g.nx<=g'.nx)(hf:g'.h.get id=g.h.get id):OwnC g' b id l tl:=⟨h.1,Nat.lt_of_lt_of_le h.2.1 hn,by rw[hf,h.2.2]⟩
theorem Kz {g:G}{b n:Nat}{K:AV->G->Prop}{D:ADf->Prop}(hn:n<=1000)(hb:b<=g.nx)(k:∀g',OwnC g' b g.nx [] (List.replicate n 0)->g'.nx=g.nx+1->(∀i,i<g.nx->g'.h.get i=g.h.get i)->K (.hsl g.nx 0 0 0 none) g') :
  (vK 1 8 [.int .i64 0] (.int .i64 0) (.int .i64 (n:Int)) g).sat K g D:=by
 have h1:n<=aQ:=by unfold aQ;omega
 have h2:n*8<=aQ:=by unfold aQ;omega
 have key:vK 1 8 [.int .i64 0] (.int .i64 0) (.int .i64 (n:Int)) g=.upd (.hsl g.nx 0 0 0 none) (g.new (.cells 1 (eh n [.int .i64 0]) 0 false false)):=by
  show (match bJ aQ (.int .i64 (.ofNat n)) with
   | some cn=>match bJ cn (.int .i64 0) with
    | some ln=>am (Nat.ble (cn*8) aQ) (OR.upd (.hsl g.nx 0 0 ln none) (g.new (.cells 1 (eh cn [.int .i64 0]) 0 false false))) .fail
    | none=>.fail
   | none=>.fail)=_
  have a1:bJ aQ (.int .i64 (.ofNat n))=some n:=by show am (Nat.ble n aQ) (some n) none=_;rw[aa,if_pos (by simpa using h1)]
  have a2:bJ n (.int .i64 0)=some 0:=by show am (Nat.ble 0 n) (some 0) none=_;rw[aa,if_pos (by simp)]
  rw[a1];dsimp only;rw[a2];dsimp only;rw[aa,if_pos (by simpa using h2)]
 rw[key];refine k _ ⟨hb,by simp,?_⟩ (by simp) (λi hi=>?_)
 ·simp[aS,eh,ci]
 ·rw[G.new_h,aq _ _ _ (by omega)]
theorem Fe {g:G}{b id:Nat}{l tl:List Int}{x y:Int}{w:AV}{K:AV->G->Prop}{D:ADf->Prop}(hv:OwnC g b id l (y::tl))(hx:ae g.h 1 w=some [ci x])(hr:l.length<=1000)
  (k:∀g',OwnC g' b id (l++[x]) tl->g'.nx=g.nx->(∀i,i≠id->g'.h.get i=g.h.get i)->K (.hsl id 0 0 (l++[x]).length none) g'):(cP 1 8 (.hsl id 0 0 l.length none) w g).sat K g D:=by
 unfold cP;rw[hx];obtain ⟨h1,h2,h3⟩:=hv;simp only[aY,G.get_eq,h3,ap,aa,Nat.beq_refl,Bool.true_and,Nat.ble_eq,Bool.and_eq_true,Nat.zero_add,Option.getD_none,Nat.sub_zero,List.length_append,List.length_map,List.length_cons,List.length_nil];rw[if_pos ⟨by omega,by unfold aQ;omega⟩,if_pos (by omega)];have hnb:iB false=true:=rfl;rw[if_pos ⟨by omega,hnb⟩];have e:iD (l.map ci++(y::tl).map ci) l.length [ci x]=(l++[x]).map ci++tl.map ci:=by simp only[iD,fY];rw[List.map_append,List.append_assoc,List.map_cons,List.set_append_right _ _ (by simp)];simp
 rw[e];have k:=k (g.put id (.cells 1 ((l++[x]).map ci++tl.map ci) 0 false false)) ⟨h1,by simpa using h2,by simp[aS]⟩ (by simp) (λi hi=>by rw[G.put_h,aq _ _ _ hi]);have e3:l.length+1=(l++[x]).length:=by simp
 rw[e3];exact k
def Kq (p:List Nat):VS:=λP k h v=>∃o:List Int,True/\wL (One o) (One (S.bg p)) P k h v
theorem EV {d k:Nat}{g:G}{P:Nat->Prop}{v:AV}{p:List Nat}(hd:0<d)(hv:SlR P k g.h p v)(hn:p.length<=8)(hp:∀x∈p,x<2 ^ p.length) :
  ∃z,ax C0 d N.aU [v] g=.val z/\Kq p NoP 0 .nil z:=by
 obtain ⟨v',e,r1⟩:=ch hv d;have hlt:=yu hv;rw[tQ];refine br wV (xs:=[v']) (by simp only[aE,e]) (by simp[nF]) (jR λo=>iG (m:=1) (be _) (be _) (by decide) (by decide)) (by decide) hd ?_;have vl:∀g,dz .slice v' g=.val (.int .i64 (p.length:Int)):=λg=>(r1 .nil).len g;simp only[sz,simprocAttr,nF,vl];refine Kz (b:=0) (n:=p.length) (by omega) (Nat.zero_le _) λg1 hu hn1 hf1=>?_;obtain ⟨id,hid⟩:∃id,id=G.empty.nx:=⟨_,rfl⟩;rw[<-hid] at hu ⊢;clear hid hn1 hf1;simp only[sz,simprocAttr];refine n0 (λn t df g=>df=[]/\∃(L:List Nat) (D:Nat) (tl:List Int),n=p.length - L.length/\L.length+tl.length=p.length/\DI p L/\JD D L/\DH p D/\St t [(0,v'),(4,.hsl id 0 0 (L.map λi:Nat=>(i:Int)).length none),(5,.int .u64 (D:Int))]/\OwnC g 0 id (L.map λi:Nat=>(i:Int)) tl) p.length
  ⟨rfl,[],0,List.replicate p.length 0,by simp,by simp,⟨by simp,by simp⟩,⟨by decide,by simp⟩,xO,by simp[sx,St],hu⟩ ?_
 rintro n t df g ⟨rfl,L,D,tl,rfl,hLt,hO,hD,hG,⟨h0,h4,h5,-⟩,hu⟩;have hLl:=GO hO;have hul:∀g',dz .slice (.hsl id 0 0 (L.map λi:Nat=>(i:Int)).length none) g'=.val (.int .i64 (L.length:Int)):=λg'=>by rw[na hu.rows];simp
 simp only[sz,simprocAttr,om,h0,h4,vl,hul];refine jd (λhb=>?_) (λhb=>?_)
 ·have hlt2:L.length<p.length:=by simpa using hb
  obtain ⟨y,tl,rfl⟩:∃y tl',tl=y::tl':=by
   cases tl with
   | nil=>simp at hLt;omega
   | cons y tl=>exact ⟨y,tl,rfl⟩
  simp only[sz,simprocAttr,h0,vl,ol];refine aI (m:=p.length) (by omega) (λj t df g'=>df=[]/\g'=g/\St t [(0,v'),(16,v'),(4,.hsl id 0 0 (L.map λi:Nat=>(i:Int)).length none),(5,.int .u64 (D:Int))]/\∀v,v<j->D.testBit v=true\/¬Sub (Par p v) D)
   ⟨rfl,rfl,by simp[sx,St,h0,h4,h5],λv hv=>by omega⟩ (by simp[sx]) (by simp[sx]) (by decide) (by rintro j t df g v s (rfl | rfl | rfl)<;>simp[sx,St]) ?_ ?_
  ·rintro j t df g' hj ⟨rfl,rfl,⟨h0,h16,h4,h5,-⟩,hall⟩ h18 h17;obtain ⟨x,hx,-,hxm⟩:=ac hj;have hpj:Par p j=x:=by simp[Par,hx]
   have hxl:=hlt x hxm;have hjl:j<(p.map cu).length:=by simpa using hj
   have hjr:(p.map cu)[j]?=some (cu x):=by rw[List.getElem?_map,hx];rfl
   have b1:=CC .i64 D j hD.1;have hdv:D / 2 ^ j<18446744073709551616:=Nat.lt_of_le_of_lt (Nat.div_le_self _ _) hD.1;have b2:cy .and (.int .u64 ((D / 2 ^ j:Nat):Int)) (.int .u64 1)=.val (.int .u64 ((D / 2 ^ j &&& 1:Nat):Int)):=HO _ 1 hdv (by decide);have b3:=Be x D hxl hD.1;have ra:=λh=>(r1 h).nats;have hbit:D.testBit j = !decide (((D / 2 ^ j &&& 1:Nat):Int)=0):=by
    rw[<-rV,S.bG];have h2:D / 2 ^ j &&& 1=(D / 2 ^ j) % 2:=Nat.and_one_is_mod _;rw[h2];have:=Nat.mod_lt (D / 2 ^ j) (show 0<2 by decide)
    by_cases h3:D / 2 ^ j % 2=0
    ·rw[h3];simp
    ·have h4:D / 2 ^ j % 2=1:=by omega
     rw[h4];simp
   have next:(D.testBit j=true\/¬Sub (Par p j) D)->∀v,v<j+1->D.testBit v=true\/¬Sub (Par p v) D:=λh v hv=>by
    by_cases e:v=j
    ·subst e;exact h
    ·exact hall v (by omega)
   by_cases c1:((D / 2 ^ j &&& 1:Nat):Int)=0
   ·by_cases c2:((x ^^^ (x &&& D):Nat):Int)=0
    ·have hd0:S.bE x D=0:=by simpa [S.bE] using c2
     have hsub:=xH.1 hd0;have hjL:j ∉ L:=λh=>by have:=(hD.2 j).2 h;rw[hbit,c1] at this;simp at this
     have hb2:D ||| S.aP j<18446744073709551616:=GN hD.1 (uB j);simp only[sz,simprocAttr,h16,h4,h5,h18,b1,b2,b3,ra,hjl,hjr,cu,c1,c2];refine Fe (x:=(j:Int)) (hu.fr (by simp) (by rw[G.new_h,aq _ _ _ (by have:=hu.2.1;omega)])) (by simp[sx,sy,ci]) (by simp;omega) λg2 hu2 n2 f2=>?_;have hone:cy .shl (.int .u64 1) (.int .i64 (j:Int))=.val (.int .u64 (S.aP j:Int)):=tk .i64 j;have e1:(L.map λi:Nat=>(i:Int))++[(j:Int)]=(L++[j]).map λi:Nat=>(i:Int):=by simp
     rw[e1] at hu2 ⊢;simp only[sz,simprocAttr,h5,hone,Fj _ _ hD.1 (uB j)];refine ⟨p.length - (L++[j]).length,by simp;omega,L++[j],D ||| S.aP j,tl,rfl,by simp at hLt ⊢;omega,EB hO hjL hj λq hq=>?_,ET hD (by omega),Aa hG (by omega) (by rw[hpj];exact hsub),by simp[sx,St,h0],hu2⟩;rw[hpj] at hq;exact (hD.2 q).1 (hsub q hq)
    ·have hns:¬Sub (Par p j) D:=λh=>c2 (by
      have:=xH.2 h;rw[hpj] at this;simp[S.bE] at this;simp[this])
     simp only[sz,simprocAttr,h0,h16,h4,h5,h18,h17,b1,b2,b3,ra,hjl,hjr,cu,c1,c2,St];exact next (.inr hns)
   ·simp only[sz,simprocAttr,h0,h16,h4,h5,h18,h17,b1,b2,ra,hjl,hjr,cu,c1,St];exact next (.inl (by rw[hbit,decide_eq_false c1];rfl))
  ·rintro t df g' ⟨rfl,rfl,-,hall⟩;obtain ⟨v0,hv0,hv0'⟩:=Ip hO hlt2;have hac:S.bg p=false:=by
    cases hc:S.bg p with
    | false=>rfl
    | true =>
     have:=yv hp hc (T:=D) (λv hv hb=>by
      rcases hall v hv with h | h
      ·rw[h] at hb;cases hb
      ·exact h) v0 hv0
     exact absurd ((hD.2 v0).1 this) hv0'
   simp only[sz,simprocAttr,oo];exact ⟨λ_=>True,[],.nils,.bool false,rfl,⟨.nils,rfl,by show 0<9223372036854775808;decide,rfl⟩,nS.2 (by rw[hac])⟩
 ·have hge:p.length<=L.length:=by simp at hb;omega
  have htl:tl=[]:=List.eq_nil_of_length_eq_zero (by omega);subst htl;have hfull:=EA hO hge;have hac:=rG hG λv hv=>(hD.2 v).2 (hfull.1 v hv);simp only[sz,simprocAttr,oq,h4];refine ⟨λ_=>True,L.map (λi:Nat=>(i:Int)),_,_,rfl,⟨_,rfl,by simp;omega,trivial,_,hu.rows,All2.of_map (λa=>aF.2 rfl) _⟩,nS.2 (by rw[hac])⟩
theorem EM {C:Cfg}{d id nt:Nat}{t:T}{ps:List Nat}{assign body:Code}{a b:SC}{dfr:Nat}{args:List AV}{g:G}{K:AV->G->Prop}{D:ADf->Prop}{t':T}
  (hg:g.h.get id=.loop nt t ps assign body dfr .ready none) (ha:dT C nt assign=a) (hb:dT C nt body=b) (hp:ct t nt ps args=some t')
  (h:wp C d (some id) a (λe t1 df g1=>e=.norm/\df=[]/\g1=g /\
   wp C d (some id) b (λe _ df g2=>df=[]/\g2.h.get id=.loop nt t ps assign body dfr .busy none/\((e=.norm/\K (.bool true) (g2.put id (.loop nt t ps assign body dfr .ready none)))\/(e=.ret/\K (.bool false) (g2.put id (.loop nt t ps assign body dfr .done (some .ret))))))
    t1 [] (g.put id (.loop nt t ps assign body dfr .busy none))) t' [] g) :
  (bN (I C) d id args g).sat K g D:=by
 subst ha;subst hb;unfold bN;rw[show g.get id=_ from hg];dsimp only;rw[hp];dsimp only;have h1:=qb h;cases hc:(I C).code nt d (some id) assign t' [] g with
 | fail=>rw[hc] at h1;exact h1.elim
 | ok e t1 df g1 =>
  rw[hc] at h1;obtain ⟨rfl,rfl,rfl,h2⟩:=h1;dsimp only;rw[show g1.get id=_ from hg];dsimp only;have h3:=qb h2;cases hc2:(I C).code nt d (some id) body t1 [] (g1.put id (.loop nt t ps assign body dfr .busy none)) with
  | fail=>rw[hc2] at h3;exact h3.elim
  | ok e t2 df2 g2 =>
   rw[hc2] at h3;obtain ⟨rfl,h4,h5⟩:=h3;dsimp only;rw[show g2.get id=_ from h4];rcases h5 with ⟨rfl,h5⟩ | ⟨rfl,h5⟩<;>exact h5
theorem n_ {C:Cfg}{d nt:Nat}{f:Od}{ps:List Nat}{a b:SC}{Q:QT}{t:T}{df:List ADf}{g:G}{fn:Nat}{first cap:List AV}{s:SF}(hv:f.get t=.clo fn first cap)(he:C.ext fn=none)(hs:nFn C fn=some s)
  (hl:(first++(.yld (g.nx+1)::cap)).length<=s.nt)
  (h:∀assign body,dT C nt assign=a->dT C nt body=b ->
   wp C d none s.code (fnQ C d s.res λ_ g2=>∃nt' t' ps' as' bd' dfr',(g2.h.get (g.nx+1)=.loop nt' t' ps' as' bd' dfr' .ready none/\Q .norm t (.mark g.nx::df) (g2.put (g.nx+1) (.loop nt' t' ps' as' bd' dfr' .exhausted none))) \/
     (g2.h.get (g.nx+1)=.loop nt' t' ps' as' bd' dfr' .done (some .ret)/\Q .ret t (.mark g.nx::df) (g2.put (g.nx+1) (.loop nt' t' ps' as' bd' dfr' .exhausted (some .ret)))))
    (bD 0 (first++(.yld (g.nx+1)::cap)) .nil) [] ((g.new (.dfr true)).new (.loop nt t ps assign body g.nx .ready none))) :
  wp C d none (.rng nt f ps a b) Q t df g:=by
 intro assign body ha hb;have h:=qc hs hl (h assign body ha hb);show (cq C (I C) nt d none (f.get t) ps assign body t (.mark g.nx::df) g.nx (g.new (.dfr true))).sat Q;rw[hv];unfold cq;dsimp only;rw[he];show (match (I C).call d fn (first++(AV.yld (g.nx+1)::cap)) ((g.new (.dfr true)).new (.loop nt t ps assign body g.nx .ready none)) with
  | .ok _ g2=>dy (I C) nt d none (g.nx+1) t (.mark g.nx::df) g2
  | .fail=>.fail).sat Q
 cases hc:(I C).call d fn (first++(AV.yld (g.nx+1)::cap)) ((g.new (.dfr true)).new (.loop nt t ps assign body g.nx .ready none)) with
 | fail=>rw[hc] at h;exact h.elim
 | ok v g2 =>
  rw[hc] at h;obtain ⟨nt',t',ps',as',bd',dfr',h⟩:=h;show (dy (I C) nt d none (g.nx+1) t (.mark g.nx::df) g2).sat Q;unfold dy;rcases h with ⟨h1,h2⟩ | ⟨h1,h2⟩
  ·rw[show g2.get (g.nx+1)=_ from h1];exact h2
  ·rw[show g2.get (g.nx+1)=_ from h1];dsimp only;rw[A_];exact h2
def RwV (x:Node):VS:=λP k h v=>∃p,v=.clo N.ac [] [p] /\
 ((∃id cs,p=.hptr id 0 0 0/\P id/\h.get id=.cells 3 [cs] 0 false false/\Rp.rp P k h x cs)\/∃t cs,p=.tptr t 3 [cs] 0 0/\t<=k/\Rp.rp NoP k .nil x cs)
theorem Kd (x:Node):Snb (RwV x) 2:=by
 refine ⟨λ{P k h v n} d r hn=>?_,λ{k h v n} r hn=>?_⟩
 ·obtain ⟨p,rfl,r⟩:=r;obtain ⟨n,rfl⟩:∃q,n=q+2:=⟨n - 2,by omega⟩;rcases r with ⟨id,cs,rfl,-,hg,r⟩ | ⟨t,cs,rfl,ht,r⟩
  ·obtain ⟨cs',e,r'⟩:=Rp.snap (n:=n) d r (by show (_:Nat)<=n;exact Nat.le_trans (show Rp.dp Node<=20 by decide) (by omega)) (by decide);obtain ⟨m,e2,l2⟩:=Rp.tag (n:=aH) r' (by decide);refine ⟨.clo N.ac [] [.tptr (Nat.max d (Nat.max m 0)) 3 [cs'] 0 0],?_,_,rfl,.inr ⟨_,cs',rfl,?_,r'⟩⟩
   ·have:Hx.snap h d (n+1) (.hptr id 0 0 0)=some (.tptr (Nat.max d (Nat.max m 0)) 3 [cs'] 0 0):=by simp only[Hx.snap,hg,show Nat.beq 0 0=true from rfl,aE,e,eg,fc,e2]
    simp only[Hx.snap,aE] at this ⊢;rw[this]
   ·show max d (max m 0)<=max k d;omega
  ·refine ⟨.clo N.ac [] [.tptr t 3 [cs] 0 0],rfl,_,rfl,.inr ⟨t,cs,rfl,by omega,Rp.mono r (λi hi=>hi.elim) (by omega)⟩⟩
 ·obtain ⟨p,rfl,r⟩:=r;obtain ⟨n,rfl⟩:∃q,n=q+2:=⟨n - 2,by omega⟩;rcases r with ⟨id,cs,rfl,hP,-⟩ | ⟨t,cs,rfl,ht,r⟩
  ·exact hP.elim
  ·exact ⟨Nat.max t 0,rfl,by show max t 0<=k;omega⟩
theorem vQ {d:Nat}{g:G}{v:AV}{x:Node}(hd:0<d)(hm:Agg x NoP 0 g.h v) :
  ∃pa ra,ax C0 d N.am [v] g=.val (.clo N.ac [] [.tptr 0 3 [[.int .i64 x.card,pa,ra]] 0 0])/\SlR NoP 0 .nil x.parents pa/\SlR NoP 0 .nil x.rows ra:=by
 have e0:=jZ d hm;obtain ⟨cs,rfl,hc⟩:=hm;obtain ⟨a,b,rfl,hR,hN⟩:=cH.1 hc;have key:∃r,ax C0 d N.am [.agg [.int .i64 x.card,a,b]] g=.val r/\RwV x NoP 0 .nil r:=by rw[wP];refine br zQ (xs:=[.agg [.int .i64 x.card,a,b]]) (by simp only[aE,e0]) (by simp[qX]) (Kd x) (by decide) hd ?_;simp only[sz,simprocAttr,qX,rQ];exact ⟨λ_=>True,_,rfl,.inl ⟨0,_,rfl,trivial,by simp[sx],Rp.tree hc (Nat.le_refl _)⟩⟩
 obtain ⟨r,h1,p,rfl,h2⟩:=key;rcases h2 with ⟨id,cs,rfl,hP,-⟩ | ⟨t,cs,rfl,ht,hr⟩
 ·exact hP.elim
 ·have:t=0:=by omega
  subst this;obtain ⟨a',b',rfl,hR',hN'⟩:=cH.1 hr;exact ⟨a',b',h1,hR',hN'⟩
theorem cd (fo l sz i off:Nat)(rows:List (List AV)):FK fo (.tptr l sz rows i off)=.val (.tptr l sz rows i (off+fo)):=rfl
theorem G6 {d id:Nat}{c:Int}{pa ra:AV}{rws:List (List Int)}{g0:G}{K:AV->G->Prop}(hra:SlR NoP 0 .nil rws ra)(J:Nat->H->Prop)(E:G->Prop)
  (step:∀(j:Nat) (r:List Int) (z:AV) (g:G) (K':AV->G->Prop) (D:ADf->Prop),rws[j]?=some r->SlR NoP 0 .nil r z->g0.nx<=g.nx->J j g.h ->
   (∀g',J (j+1) g'.h->g.nx<=g'.nx->K' (.bool true) g')->(∀g',E g'->K' (.bool false) g')->(bN (I C0) d id [.int .i64 (j:Int),z] g).sat K' g D)
  (h0:J 0 g0.h) (fin:∀g',J rws.length g'.h->g0.nx<=g'.nx->K (.tup []) g') (finE:∀g',E g'->K (.tup []) g') :
  wp C0 d none eX.code (fnQ C0 d eX.res K) (bD 0 [.yld id,.tptr 0 3 [[.int .i64 c,pa,ra]] 0 0] .nil) [] g0:=by
 obtain ⟨rr,s1,s2,s3,s4⟩:=za hra;simp only[sz,simprocAttr,eX,oh,cd,aX,hra.len];refine aI (m:=rws.length) hra.1 (λj t df g=>df=[]/\St t [(0,.yld id),(6,ra)]/\J j g.h/\g0.nx<=g.nx) ⟨rfl,by simp[St,sx],h0,Nat.le_refl _⟩ (by simp[sx]) (by simp[sx]) (by decide) (by rintro j t df g v s (rfl | rfl | rfl)<;>simp[St,sx]) ?_ ?_
 ·rintro j t df g hj ⟨rfl,⟨h0,h6,-⟩,hJ,hn⟩ h8 h7;obtain ⟨r,hr,-,-⟩:=ac hj;obtain ⟨z,q2,q3,hz⟩:=s3 j r hr;have hry:=s4 (by omega);simp only[sz,simprocAttr,h0,h6,h8,s1,q2,q3];show (bN (I C0) d id [.int .i64 (j:Int),z] g).sat _ _ _;refine step j r z g _ _ hr hz hn hJ (λg' hJ' hn'=>?_) λg' hE=>?_
  ·simp only[sz,simprocAttr,h7,h8];simp[St,sx,h0,h6,hJ',Nat.le_trans hn hn']
  ·simp only[sz,simprocAttr];exact finE g' hE
 ·rintro t df g ⟨rfl,-,hJ,hn⟩;simp only[sx,↓reduceIte];exact fin g hJ hn
theorem Br:C0.ext N.ac=none:=by kernel_rfl
structure RowQ (b:Nat) (g2 g3:G) (e:Ex) (A B:Prop):Prop where
 nx:g2.nx<=g3.nx
 fr:∀i,b<=i->i<g2.nx->g3.h.get i=g2.h.get i
 st:(e=.norm/\A)\/(e=.ret/\B)
theorem AP {d nt y p q:Nat}{c:Int}{pa ra:AV}{rws:List (List Int)}{ca cb:SC}{Q:QT}{t:T}{g:G}(hra:SlR NoP 0 .nil rws ra)(hv:tat t y=.clo N.ac [] [.tptr 0 3 [[.int .i64 c,pa,ra]] 0 0])(hp:p<nt)(hq:q<nt)
  (J:Nat->H->Prop) (E:H->Prop) (hJ:∀j h h',(∀i,i<g.nx->h'.get i=h.get i)->J j h->J j h') (hE:∀h h',(∀i,i<g.nx->h'.get i=h.get i)->E h->E h') (h0:J 0 g.h)
  (step:∀(j:Nat) (r:List Int) (z:AV) (g1:G),rws[j]?=some r->SlR NoP 0 .nil r z->J j g1.h->g.nx+2<=g1.nx ->
   wp C0 d (some (g.nx+1)) ca (λe t1 df g1'=>e=.norm/\df=[]/\g1'=g1/\∀g2:G,g2.nx=g1.nx->(∀i,i≠g.nx+1->g2.h.get i=g1.h.get i) ->
    wp C0 d (some (g.nx+1)) cb (λe _ df g3=>df=[]/\RowQ g.nx g2 g3 e (J (j+1) g3.h) (E g3.h)) t1 [] g2)
    (ej (ej t p (.int .i64 (j:Int))) q z) [] g1)
  (fin:∀g',J rws.length g'.h->g.nx+2<=g'.nx->g'.h.get g.nx=.dfr true->Q .norm t [.mark g.nx] g')
  (finE:∀g',E g'.h->g.nx+2<=g'.nx->g'.h.get g.nx=.dfr true->Q .ret t [.mark g.nx] g') :
  wp C0 d none (.rng nt (.t y) [p,q] ca cb) Q t [] g:=by
 refine n_ (fn:=N.ac) (first:=[]) (cap:=[.tptr 0 3 [[.int .i64 c,pa,ra]] 0 0]) (s:=eX) hv Br wU (by simp[eX]) ?_;intro assign body ha hb;have e1:((g.new (.dfr true)).new (.loop nt t [p,q] assign body g.nx .ready none)).nx=g.nx+2:=by simp
 refine G6 (g0:=(g.new (.dfr true)).new (.loop nt t [p,q] assign body g.nx .ready none)) (id:=g.nx+1) hra
  (λj h=>J j h/\h.get g.nx=.dfr true/\h.get (g.nx+1)=.loop nt t [p,q] assign body g.nx .ready none)
  (λg'=>E g'.h/\g'.h.get g.nx=.dfr true/\g'.h.get (g.nx+1)=.loop nt t [p,q] assign body g.nx .done (some .ret)/\g.nx+2<=g'.nx) ?_ ?_ ?_ ?_
 ·rintro j r z g1 K' D hr hz hn ⟨a1,a2,a3⟩ kk kE;rw[e1] at hn;refine EM a3 ha hb (t':=ej (ej t p (.int .i64 (j:Int))) q z) ?_ ?_
  ·simp only[ct,aa,Nat.blt_eq,if_pos hp,if_pos hq];rfl
  ·refine bL _ (step j r z g1 hr hz a1 (by omega)) ?_;rintro e t1 df g1' ⟨rfl,rfl,rfl,h⟩;refine ⟨rfl,rfl,rfl,?_⟩;have hl:g.nx+1<g1'.nx:=by omega
   refine bL _ (h (g1'.put (g.nx+1) (.loop nt t [p,q] assign body g.nx .busy none)) (by simp) (λi hi=>by simp[H.get_put,hi])) ?_;rintro e t2 df g3 ⟨rfl,⟨b2,b3,b1⟩⟩;have b4:g3.h.get (g.nx+1)=.loop nt t [p,q] assign body g.nx .busy none:=by rw[b3 _ (by omega) (by simpa using hl)];simp[H.get_put]
   have b5:g3.h.get g.nx=.dfr true:=by rw[b3 _ (by omega) (by simp;omega)];simp[H.get_put,a2]
   refine ⟨rfl,b4,?_⟩;rcases b1 with ⟨rfl,b1⟩ | ⟨rfl,b1⟩
   ·refine .inl ⟨rfl,kk _ ⟨hJ _ g3.h _ (λi hi=>by simp[H.get_put,show ¬i=g.nx+1 by omega]) b1,?_,?_⟩ (by simpa using b2)⟩
    ·simp[H.get_put,b5]
    ·simp[H.get_put]
   ·refine .inr ⟨rfl,kE _ ⟨hE g3.h _ (λi hi=>by simp[H.get_put,show ¬i=g.nx+1 by omega]) b1,?_,?_,?_⟩⟩
    ·simp[H.get_put,b5]
    ·simp[H.get_put]
    ·simp at b2 ⊢;omega
 ·refine ⟨hJ 0 g.h _ (λi hi=>?_) h0,?_,?_⟩
  ·simp[H.get_put,show ¬i=g.nx+1 by omega,show ¬i=g.nx by omega]
  ·simp[H.get_put]
  ·simp[H.get_put]
 ·rintro g' ⟨a1,a2,a3⟩ hn;rw[e1] at hn;refine ⟨_,_,_,_,_,_,.inl ⟨a3,fin _ (hJ _ g'.h _ (λi hi=>by simp[H.get_put,show ¬i=g.nx+1 by omega]) a1) (by simpa using hn) ?_⟩⟩;simp[H.get_put,a2]
 ·rintro g' ⟨a1,a2,a3,hn⟩;refine ⟨_,_,_,_,_,_,.inr ⟨a3,finE _ (hE g'.h _ (λi hi=>by simp[H.get_put,show ¬i=g.nx+1 by omega]) a1) (by simpa using hn) ?_⟩⟩;simp[H.get_put,a2]
end
end Hx
end
