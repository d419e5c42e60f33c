/- A part of the proof: what the functions of the chapter compute. -/
import Derived.Test.YteaikmdilmfbeaaGreatHx11
set_option linter.all false
set_option maxRecDepth 20000
set_option maxHeartbeats 8000000
namespace Hx
open Go
noncomputable section
end
end Hx
section
section
namespace Hx
open Go
noncomputable section
theorem ae{α:Type}{l:List α}{j:Nat}(h:j<l.length):∃x,l[j]?=some x/\l.take (j+1)=l.take j++[x]/\x∈l :=
 ⟨l[j],TH h,by rw[We,TH h];rfl,Vr h⟩
def S.Sr(l:List Int):Int:=l.foldl (λs x=>IntKind.wrap .i64 (s*x)) 1
theorem O_{d:Nat}{g:G}{v:AV}(hd:0<d)(hv:AO g.h v)(hl:(oT g.h v).length<9223372036854775808) :
  ah C0 d 48 [v] g=.val (XL (S.Sr (oT g.h v))):=by
 obtain⟨v',e,hr,k⟩:=KU hv hl d;generalize oT g.h v=l at hr k hl ⊢;rw[yV];refine ff B4 (xs:=[v']) (by simp only[aF,e]) (by simp[qF]) hd ?_;simp only[sz,simprocAttr,qF];refine zC hl k (λj t df g=>df=[]/\tat t 3=XL (S.Sr (l.take j))) ⟨rfl,by simp[sx,S.Sr]⟩ (by simp[sx]) (by simp[sx]) (by decide)
  (by rintro j t df g v s (rfl|rfl|rfl|rfl|rfl|rfl|rfl)<;>simp[sx]) ?_ ?_
 ·rintro j t df g b ⟨rfl,h3⟩ h4 h0;obtain⟨x,hx,a,hm⟩:=ae b;simp only[sz,simprocAttr,hr,h0,h3,h4,hx,b,TT,TK,U0,ci,a,S.Sr,Wr,Wp,List.foldl_nil]
 ·rintro t df g ⟨rfl,h3⟩ -;rw[Ur]at h3;simp only[sz,simprocAttr,rK,h3]
end
end Hx
end
section
namespace Hx
open Go
noncomputable section
def S.SG(l:List Int)(n:Int)(i:Nat):Bool:=decide (0<=l[i]?.getD 0)&&decide (l[i]?.getD 0<n)&&(i == 0 || decide (l[i - 1]?.getD 0<l[i]?.getD 0))
def S.Sa(l:List Int)(n:Int):Bool:=(List.range l.length).all (S.SG l n)
end
end Hx
end
section
namespace Hx
open Go
noncomputable section
def S.Sn(n:Nat):Nat:=1*2 ^ n % 18446744073709551616
def S.R0(l:List Int):Nat:=l.foldl (λs x=>s ||| S.Sn x.toNat) 0
theorem zM(n:Nat):S.Sn n<18446744073709551616:=US _ (by decide)
theorem yw{α:Type}(f:α->Nat)(hf:∀a,f a<18446744073709551616):∀(l:List α) (s:Nat),s<18446744073709551616->l.foldl (λs x=>s ||| f x) s<18446744073709551616
 |[],_,h=>h
 |a::l,s,h=>yw f hf l _ (MJ h (hf a))
theorem zi(l:List Int):S.R0 l<18446744073709551616:=yw _ (λa=>zM _) l 0 (by decide)
theorem J1(l:List Int)(x:Int):S.R0 (l++[x])=S.R0 l ||| S.Sn x.toNat:=by simp[S.R0]
theorem yp(k':IntKind)(n:Nat):ct .shl (XN 1) (.int k' (n:Int))=.val (XN (S.Sn n:Int)):=NZ k' 1 n
end
end Hx
end
section
namespace Hx
open Go
noncomputable section
def S.Th(s v:Nat):Bool:=s / 2 ^ v &&& 1 == 1
def S.Ss(p:List Nat)(s:Nat)(j:Nat):Nat:=(List.range j).foldl (λs v=>if S.Th s v then s ||| p[v]?.getD 0 else s) s
def S.up(p:List Nat)(s:Nat)(j:Nat):Nat:=(List.range j).foldl (λs _=>S.Ss p s p.length) s
theorem nB(p:List Nat)(s j:Nat):S.Ss p s (j+1)=if S.Th (S.Ss p s j) j then S.Ss p s j ||| p[j]?.getD 0 else S.Ss p s j:=by unfold S.Ss;rw[VL,Wr];rfl
theorem qZ(p:List Nat)(s j:Nat):S.up p s (j+1)=S.Ss p (S.up p s j) p.length:=by unfold S.up;rw[VL,Wr];rfl
def S.SP(p:List Nat):Bool:=(List.range p.length).all λv=>!S.Th (S.up p (p[v]?.getD 0) p.length) v
end
end Hx
end
section
namespace Hx
open Go
noncomputable section
def S.RP(l:List Int):Int:=l.foldl (·*·) 1
theorem uf(l:List Int)(x:Int):S.RP (l++[x])=S.RP l*x:=by simp[S.RP]
theorem eP{a b:Nat}(h:a<=b):(4:Int) ^ a<=4 ^ b:=by
 obtain⟨c,rfl⟩:∃c,b=a+c:=⟨b - a,by omega⟩
 induction c with
 |zero=>exact WJ _
 | succ c ih =>
  have:=ih (by omega);rw[show a+(c+1)=(a+c)+1 from rfl,Wq];have h0:(0:Int)<=4 ^ (a+c):=Int.le_of_lt (Int.pow_pos (by decide));omega
theorem cm(a:Int)(l:List Int):S.RP (a::l)=a*S.RP l:=by
 have:∀(l:List Int) (s:Int),l.foldl (·*·) s=s*l.foldl (·*·) 1:=by
  intro l
  induction l with
  |nil=>intro s;simp
  |cons x l ih=>intro s;rw[Wp,ih,Wp,ih (1*x),Int.one_mul,Vz]
 unfold S.RP;rw[Wp,this,Int.one_mul]
theorem bG:∀{l:List Int},(∀x∈l,1<=x/\x<=4)->1<=S.RP l/\S.RP l<=4 ^ l.length
 |[],_=>⟨by decide,by decide⟩
 | a::l,h=>by
  obtain⟨h1,h2⟩:=bG (l:=l) λx hx=>h x (by simp[hx]);obtain⟨h3,h4⟩:=h a (by simp);rw[cm,Uq,Wq,Wa (4 ^ l.length)];constructor
  ·have:=Wy h3 h1 (by decide) (by omega);simpa using this
  ·exact Wy h4 h2 (by omega) (by decide)
theorem Bz(l:List Int)(x:Int):(l++[x]).sum=l.sum+x:=by simp
end
end Hx
end
section
namespace Hx
open Go
noncomputable section
def S.Tu(m:Causal)(p:Int):Int:=(m.nodes[p.toNat]?.map (·.card)).getD 0
def S.Ty(m:Causal)(r:Int):Int:=(m.roots[r.toNat]?.map λr=>(r.length:Int)).getD 0
end
end Hx
end
section
namespace Hx
open Go
noncomputable section
def S.Tf(a b:Nat):Nat:=a ^^^ (a &&& b)
theorem Qi{n:Nat}(h:n<64):S.Sn n=2 ^ n:=by unfold S.Sn;rw[UN,VR];exact Nat.pow_lt_pow_right (a:=2) (by decide) h
end
end Hx
end
section
namespace Hx
open Go
noncomputable section
def S.TA(m:Causal)(x:Mech):List Int:=x.frm.map (S.Tu m)++x.noise.map (S.Ty m)
end
end Hx
end
section
namespace Hx
open Go
noncomputable section
def S.Tw(m:Causal):Int:=S.RP (m.roots.map λr=>(r.length:Int))
end
end Hx
end
section
namespace Hx
open Go
def Sub(a s:Nat):Prop:=∀v,a.testBit v=true->s.testBit v=true
theorem wN(s v:Nat):S.Th s v=s.testBit v:=by rw[Nat.testBit_eq_decide_div_mod_eq,S.Th,Nat.and_one_is_mod];rw[Wo,beq_iff_eq,decide_eq_true_iff]
theorem CD{a s:Nat}:S.Tf a s=0↔Sub a s:=by
 constructor
 ·intro h v k;have:=congrArg (·.testBit v) h;simp[S.Tf,k]at this;exact this
 ·intro h;refine Nat.eq_of_testBit_eq λv=>?_;have:=h v;simp only[S.Tf,Nat.testBit_xor,Nat.testBit_and,Nat.zero_testBit];cases ha:a.testBit v
  ·rfl
  ·rw[this ha];rfl
theorem tQ(a b v:Nat):(a ||| b).testBit v=(a.testBit v || b.testBit v):=Nat.testBit_or a b v
theorem zN{n:Nat}(h:n<64)(v:Nat):(S.Sn n).testBit v=decide (n=v):=by rw[Qi h,Nat.testBit_two_pow]
section
variable {p:List Nat}
def Par(p:List Nat)(v:Nat):Nat:=p[v]?.getD 0
def Cl(p:List Nat)(s:Nat):Prop:=∀v,v<p.length->s.testBit v=true->Sub (Par p v) s
theorem Di{s t:Nat}(hc:Cl p t)(h:Sub s t):∀j,j<=p.length->Sub (S.Ss p s j) t
 |0,_=>h
 | j+1,hj=>by
  have ih:=Di hc h j (by omega);rw[nB]
  split
  ·rename_i hb;rw[wN]at hb;intro v hv;rw[tQ,UB]at hv;rcases hv with hv|hv
   ·exact ih v hv
   ·exact hc j (by omega) (ih j hb) v hv
  ·exact ih
theorem HH{s t:Nat}(hc:Cl p t)(h:Sub s t):∀j,Sub (S.up p s j) t
 |0=>h
 |j+1=>by rw[qZ];exact Di hc (HH hc h j) _ (TG _)
def Jj(p:List Nat)(s:Nat):Prop:=Cl p s/\∀v,v<p.length->s.testBit v=true->(S.up p (Par p v) p.length).testBit v=false
theorem vY:S.SP p=true↔∀v,v<p.length->(S.up p (Par p v) p.length).testBit v=false:=by
 unfold S.SP;rw[Ue];constructor
 ·intro h v k;have:=h v (T8.2 k);rw[wN]at this;simpa [Par] using this
 ·intro h v k;have:=h v (T8.1 k);rw[wN];simpa [Par] using this
def bct(s:Nat):Nat->Nat
 |0=>0
 |n+1=>bct s n+(if s.testBit n then 1 else 0)
theorem Gv(s:Nat):∀n,bct s n<=n
 |0=>TG _
 |n+1=>by have:=Gv s n;unfold bct;split<;>omega
theorem EF{a s:Nat}(h:Sub a s):∀n,bct a n<=bct s n
 |0=>TG _
 | n+1=>by
  have:=EF h n;unfold bct
  split
  ·rename_i hb;rw[TO (h n hb)];omega
  ·split<;>omega
theorem KX{a s:Nat}(h:Sub a s){v:Nat}(hv:s.testBit v=true)(ha:a.testBit v=false):∀n,v<n->bct a n<bct s n
 |0,h0=>by omega
 | n+1,hn=>by
  unfold bct
  by_cases hvn:v=n
  ·subst hvn;have:=EF h v;rw[TO hv,ha];simp;omega
  ·have:=KX h hv ha n (by omega)
   split
   ·rename_i hb;rw[TO (h n hb)];omega
   ·split<;>omega
theorem EE{s:Nat}:∀n,bct s n=n->∀v,v<n->s.testBit v=true
 |0,_,v,h=>by omega
 | n+1,h,v,hv=>by
  unfold bct at h;have:=Gv s n
  split at h
  ·rename_i hb
   by_cases e:v=n
   ·subst e;exact hb
   ·exact EE n (by omega) v (by omega)
  ·omega
theorem xf{a s:Nat}(h:Sub a s)(h':Sub s a):a=s:=Nat.eq_of_testBit_eq λv=>by
 cases ha:a.testBit v
 ·cases hs:s.testBit v
  ·rfl
  ·rw[h' v hs]at ha;cases ha
 ·rw[h v ha]
theorem Q6{a s:Nat}(h:Sub a s):a<=s:=by
 have:a ||| s=s:=Nat.eq_of_testBit_eq λv=>by
  rw[tQ];cases ha:a.testBit v
  ·simp
  ·rw[h v ha];rfl
 rw[<-this];exact Nat.left_le_or
theorem qY(s:Nat):∀j,Sub s (S.Ss p s j)
 |0=>λ_ h=>h
 | j+1=>by
  have ih:=qY s j;rw[nB]
  split
  ·intro v k;rw[tQ,ih v k];rfl
  ·exact ih
theorem HG{s:Nat}{j k:Nat}(h:j<=k):Sub (S.Ss p s j) (S.Ss p s k):=by
 induction h with
 |refl=>exact λ_ h=>h
 | step _ ih =>
  rw[nB]
  split
  ·intro v a;rw[tQ,ih v a];rfl
  ·exact ih
theorem Jx{s:Nat}(h:S.Ss p s p.length=s):Cl p s:=by
 intro v k hb u hu;have h1:(S.Ss p s v).testBit v=true:=qY s v v hb;have h2:(S.Ss p s (v+1)).testBit u=true:=by rw[nB,wN,h1,TO rfl,tQ];have:(p[v]?.getD 0).testBit u=true:=hu;rw[this];simp
 have:=HG (p:=p) (s:=s) (show v+1<=p.length by omega) u h2;rwa [h]at this
theorem NC{s n v:Nat}(h:s<2 ^ n)(hv:s.testBit v=true):v<n:=by
 rcases Vn v n with h1|h1
 ·exact h1
 ·rw[Nat.testBit_lt_two_pow (TU h (UG (by decide) h1))]at hv;cases hv
theorem RB{f:Nat->Nat}{n:Nat}(hm:∀j,Sub (f j) (f (j+1)))(hb:∀j,f j<2 ^ n)(hs:∀j,f (j+1)=f j->f (j+2)=f (j+1)):f (n+1)=f n:=by
 have key:∀j,j<=bct (f j) n\/f (j+1)=f j:=by
  intro j
  induction j with
  |zero=>exact .inl (Uj _)
  | succ j ih =>
   rcases ih with ih|ih
   ·by_cases e:f (j+1)=f j
    ·exact .inr (hs j e)
    ·left;have:∃v,(f (j+1)).testBit v=true/\(f j).testBit v=false:=by
      apply U9;intro k;apply e;refine xf (λv hv=>?_) (hm j);cases hc:(f j).testBit v
      ·exact absurd ⟨v,hv,hc⟩ k
      ·rfl
     obtain⟨v,h1,h2⟩:=this;have:=KX (hm j) h1 h2 n (NC (hb _) h1);omega
   ·exact .inr (hs j ih)
 rcases key n with h|h
 ·have hc:bct (f n) n=n:=by have:=Gv (f n) n;omega
  refine xf (λv hv=>?_) (hm n);exact EE n hc v (NC (hb _) hv)
 ·exact h
theorem QH{a b n:Nat}(h:a<2 ^ n)(h':b<2 ^ n):a ||| b<2 ^ n:=Nat.or_lt_two_pow h h'
theorem Hf{v:Nat}(hp:∀x∈p,x<2 ^ p.length):Par p v<2 ^ p.length:=by
 unfold Par;cases h:p[v]? with
 |none=>exact Nat.pow_pos (by decide)
 |some x=>exact hp x (TL h)
theorem Dh(hp:∀x∈p,x<2 ^ p.length){s:Nat}(hs:s<2 ^ p.length):∀j,S.Ss p s j<2 ^ p.length
 |0=>hs
 | j+1=>by
  have ih:=Dh hp hs j;rw[nB]
  split
  ·exact QH ih (Hf hp)
  ·exact ih
theorem NG(hp:∀x∈p,x<2 ^ p.length){s:Nat}(hs:s<2 ^ p.length):∀j,S.up p s j<2 ^ p.length
 |0=>hs
 |j+1=>by rw[qZ];exact Dh hp (NG hp hs j) _
theorem KF(hp:∀x∈p,x<2 ^ p.length){s:Nat}(hs:s<2 ^ p.length):Cl p (S.up p s p.length):=by
 apply Jx;rw[<-qZ];exact RB (f:=λj=>S.up p s j) (λj=>by rw[qZ];exact qY _ _) (λj=>NG hp hs j) (λj e=>by
  have e:S.up p s (j+1)=S.up p s j:=e;show S.up p s (j+1+1)=S.up p s (j+1);rw[qZ,e,<-qZ,e])
theorem zA{s:Nat}:∀j,Sub s (S.up p s j)
 |0=>λ_ h=>h
 |j+1=>λv hv=>by rw[qZ];exact qY _ _ v (zA j v hv)
end
end Hx
end
section
namespace Hx
open Go
noncomputable section
theorem ni{a b:List Nat}(h:∀i∈a,∀j∈b,i≠j):meets a b=false:=by simp only[meets,List.any_eq_false];intro i hi hc;exact h i hi i (Wm.1 hc) rfl
theorem dh{x y:Foot}(hb:x.lk.big=false)(hb2:y.lk.big=false)(hs:x.lk.sr=[])(hs2:y.lk.sr=[])(h1:∀i∈x.wr,∀j∈y.wr,i≠j)(h2:∀i∈x.wr,∀j∈y.lk.rd,i≠j)(h3:∀i∈y.wr,∀j∈x.lk.rd,i≠j) :
  bF x y=true:=by
 have h:=ni h1;have k:=ni h2;have a:=ni h3;have b:meets y.wr x.wr=false:=ni λi hi j hj e=>h1 j hj i hi e.symm;have c:∀l:List Nat,meets l []=false:=λl=>by simp[meets]
 simp only[bF,jx,fY,hb,hb2,hs,hs2,h,k,a,b,c,fst1,Vg,Wk,Wu,Bool.true_or]
 split<;>split<;>rfl
end
end Hx
end
section
namespace Hx
open Go
noncomputable section
theorem nj{g:G}{b sz bytes:Nat}{zero:List AV}{k1 k2:IntKind}{n:Nat}{K:AV->G->Prop}{D:ADf->Prop}(hn:n<=aQ)(hb:n*bytes<=aQ)(hg:b<=g.nx)
  (k:∀v' g',Own g' b v' sz (List.replicate n zero)->g'.nx=g.nx+1->(∀i,i<g.nx->g'.h.get i=g.h.get i)->vid v'=some g.nx->g'.lg=g.nx::g.lg->K v' g') :
  (A0 sz bytes zero (.int k1 (n:Int)) (.int k2 (n:Int)) g).sat K g D:=by
 show (match bU aQ (.int k2 (.ofNat n)) with
  | some cn=>match bU cn (.int k1 (.ofNat n)) with
   |some ln=>ay (Nat.ble (cn*bytes) aQ) (OR.upd (.hsl g.nx 0 0 ln none) (g.new (W8 sz (fj cn zero)))) .fail
   |none=>.fail
  |none=>.fail).sat K g D
 simp only[bU,aa,Uw,TO hn,TG,TO hb,if_true];refine k _ _ (.inr ⟨g.nx,0,false,hg,by simp,by simp,by simp[aP,fj]⟩) (by simp) (λi hi=>?_) rfl (by simp);rw[G.new_h,au _ _ _ (by omega)]
end
end Hx
end
section
namespace Hx
open Go
noncomputable section
theorem Mf(n sz id ep i off:Nat)(k:IntKind){j:Nat}(h:j<n):Me n sz (.hptr id ep i off) (.int k (j:Int))=.val (.hptr id ep i (off+j*sz)):=by show ay (Nat.blt j n) (OR.val (.hptr id ep i (off+j*sz))) .fail=_;rw[aa,TO (by simpa using h)]
def u8v(x:UInt8):AV:=.int .u8 (x.toNat:Int)
theorem Np(l:List UInt8)(h:H)(d:Nat):snap h d aC (.agg (l.map u8v))=some (.agg (l.map u8v)):=by
 have:∀l:List UInt8,aF (Hx.snap h d 23) (l.map u8v)=some (l.map u8v):=λl=>by
  induction l with
  |nil=>rfl
  | cons x l ih =>
   simp only[VT,aF,ih,show Hx.snap h d 23 (u8v x)=some (u8v x) from rfl]
 show (match aF (Hx.snap h d 23) (l.map u8v) with|some ys=>some (AV.agg ys)|none=>none)=_;rw[this]
end
end Hx
end
section
namespace Hx
open Go
noncomputable section
def Raw(w:AV):Prop:=w=.nils\/∃rows,w=.tsl 0 1 rows
end
end Hx
end
section
namespace Hx
open Go
noncomputable section
theorem N5(z:AV)(k k':IntKind)(x y:Int)(g:G):K1 1 2 [z] [0,1] [.int k x,.int k' y] g=.upd (.hsl g.nx 0 0 2 none) (g.new (W8 1 [[.int k x],[.int k' y]])):=rfl
end
end Hx
end
section
namespace Hx
open Go
noncomputable section
abbrev Gq:Type:=List UInt8×UInt16×List UInt8
def S.SV(us:List UInt8):List Int:=(us.take 5).map λu=>1+(u.toNat:Int) % 4
theorem Na{P:Nat->Prop}{k:Nat}{h:H}{x:UInt16}{cs:List AV}:Rp.rp P k h x cs↔cs=[.int .u16 (x.toNat:Int)]:=by simp[Rp.rp]
theorem ui{P:Nat->Prop}{k:Nat}{h:H}{x:Gq}{cs:List AV}:Rp.rp P k h x cs↔∃a b,cs=[a,.int .u16 (x.2.1.toNat:Int),b]/\SlR P k h x.1 a/\SlR P k h x.2.2 b:=by
 constructor
 ·rintro⟨c1,c,rfl,⟨a,rfl,h1⟩,d,e,rfl,h2,⟨b,rfl,h3⟩⟩;rw[Na.1 h2];exact⟨a,b,rfl,h1,h3⟩
 ·rintro⟨a,b,rfl,h1,h2⟩;exact⟨[a],[_,b],rfl,⟨a,rfl,h1⟩,[_],[b],rfl,Na.2 rfl,⟨b,rfl,h2⟩⟩
theorem JC{d k:Nat}{g:G}{P:Nat->Prop}{v:AV}{x:Gq}(hd:0<d)(hm:Agg x P k g.h v) :
  ∃r,ah C0 d 91 [v] g=.val r/\IT 0 (S.SV x.1) r:=by
 obtain⟨v',e,cs,rfl,hc⟩:=su (cq x) (by decide) d hm;obtain⟨a,b,rfl,f,C⟩:=ui.1 hc;obtain⟨rows,n,H,A,I⟩:=f.all;have n:∀h',ak h' 1 a=some rows:=n;rw[qk];refine aL sJ (xs:=[.agg [a,.int .u16 (x.2.1.toNat:Int),b]]) (by simp only[aF,e]) (by simp[gw]) (aJ _) (by decide) hd ?_;have D:(S.SV x.1).length=min x.1.length 5:=by simp[S.SV];omega
 simp only[sz,simprocAttr,gw,jM];refine jE (min x.1.length 5) (by omega) (λj t df g=>df=[]/\tat t 1=XM 0/\g.h.get 0=W8 3 [[a,.int .u16 (x.2.1.toNat:Int),b]]/\1<=g.nx/\∃u,tat t 3=u/\Own g 1 u 1 (((S.SV x.1).take j).map ci))
  ⟨rfl,by simp[sx],by simp[sx],by simp[sx],_,rfl,.inl ⟨by simp[sx],rfl⟩⟩ (by simp[sx]) (by decide)
  (by rintro j t df g v s (rfl|rfl|rfl)<;>simp[sx]) ?_ ?_ ?_
 ·rintro j t df g q ⟨rfl,h1,hg,c,u,h3,hu⟩ h4
  by_cases hlt:(j:Int)<(x.1.length:Int)
  ·have:decide ((j:Int)<((min x.1.length 5:Nat):Int))=decide ((j:Int)<5):=by congr 1;apply propext;omega
   simp only[sz,simprocAttr,h1,h4,hg,f.len,hlt,this];exact⟨c,u,h3,hu⟩
  ·have:decide ((j:Int)<((min x.1.length 5:Nat):Int))=false:=VN (by omega);simp only[sz,simprocAttr,h1,h4,hg,f.len,hlt,this];exact⟨c,u,h3,hu⟩
 ·rintro j t df g q ⟨rfl,h1,hg,c,u,h3,hu⟩ h4;obtain⟨y,o,-,-⟩:=ae (l:=x.1) (j:=j) (by omega);obtain⟨z,hz,i,-⟩:=ae (l:=S.SV x.1) (j:=j) (by omega);have m:z=1+(y.toNat:Int) % 4:=by
   have:(S.SV x.1)[j]?=some (1+(y.toNat:Int) % 4):=by simp[S.SV,show j<5 by omega,o]
   rw[this]at hz;injection hz with hz;exact hz.symm
  obtain⟨row,p,B⟩:=A j y o;rw[gT.1 B]at p;have hlt:j<rows.length:=by omega
  have w:y.toNat<256:=y.toNat_lt;have E:0<=(y.toNat:Int) % 4:=by omega
  have F:(y.toNat:Int) % 4<4:=by omega
  simp only[sz,simprocAttr,h1,h3,h4,hg,n,hlt,p,lZ .u8 (show (0:Int)<=(y.toNat:Int) by omega) (show (0:Int)<4 by decide),ap (show -9223372036854775808<=(y.toNat:Int) % 4 by omega) (show (y.toNat:Int) % 4<9223372036854775808 by omega),ap (show -9223372036854775808<=1+(y.toNat:Int) % 4 by omega) (show 1+(y.toNat:Int) % 4<9223372036854775808 by omega)];refine bk (new:=[ci (1+(y.toNat:Int) % 4)]) (hu.step (Fr.new _ _)) (by simp[sx,sy,ci]) (by simp) (by simp[aQ];omega) λv2 g2 hv2 n2 f2 _ l2=>?_;simp only[sz,simprocAttr,h1,h4];refine⟨?_,?_,_,rfl,?_⟩
  ·rw[f2 0 (by simp) (λe=>by have:=(hu.lt e).1;omega),G.new_h,au _ _ _ (by omega),hg]
  ·simp at n2;omega
  ·rw[i,m];simpa [ci] using hv2
 ·rintro t df g ⟨rfl,h1,hg,c,u,h3,hu⟩;rw[TX (by omega)]at hu;simp only[sz,simprocAttr,jr,h3];exact⟨_,hu.ints (by omega)⟩
end
end Hx
end
section
namespace Hx
open Go
noncomputable section
theorem Hv{g:G}{b sz:Nat}{u:AV}{rows:List (List AV)}(hu:Own g b u sz rows){n:Nat}(hn:n<=rows.length) :
  ∃y,x_ sz u none (some (XL (n:Int))) g=.val y/\ak g.h sz y=some (rows.take n):=by
 rcases hu with⟨rfl,rfl⟩|⟨id,ep,lo,h1,h2,rfl,h3⟩
 ·have:n=0:=by simpa using hn
  subst this;exact⟨.nils,rfl,rfl⟩
 ·simp only[x_,lK,h3,Uv,Uv,U7,aA,Uy,aa,Uw,TG,if_true,aY,Vc,VY];simp only[bU];rw[show ay (n.ble rows.length) (some n) none=some n from by rw[aa,TO (by simpa using hn)]];dsimp only
  by_cases h0:rows=[]
  ·subst h0;have:n=0:=by simpa using hn
   subst this;cases lo
   ·exact⟨_,rfl,rfl⟩
   ·exact⟨_,rfl,qS _ _ _ _⟩
  ·have hb:rows.length.beq 0=false:=by cases rows with|nil=>exact absurd rfl h0|cons a l=>rfl
   rw[hb];refine⟨_,rfl,?_⟩;rw[eA,h3,cK,TO (by omega),VI]
theorem Hw{g:G}{b sz:Nat}{u:AV}{rows:List (List AV)}(hu:Own g b u sz rows){n:Nat}(hn:n<=rows.length) :
  ∃y,x_ sz u (some (XL (n:Int))) none g=.val y/\ak g.h sz y=some (rows.drop n):=by
 rcases hu with⟨rfl,rfl⟩|⟨id,ep,lo,h1,h2,rfl,h3⟩
 ·have:n=0:=by simpa using hn
  subst this;exact⟨.nils,rfl,rfl⟩
 ·simp only[x_,lK,h3,Uv,Uv,U7,aA,Uy,aa,Uw,TG,if_true,aY,Vc,VY];simp only[bU];rw[show ay (n.ble rows.length) (some n) none=some n from by rw[aa,TO (by simpa using hn)]];dsimp only
  by_cases h0:rows.length=n
  ·subst h0;rw[TO (Uv _),List.drop_length];cases lo
   ·exact⟨_,rfl,rfl⟩
   ·exact⟨_,rfl,qS _ _ _ _⟩
  ·rw[TN (λe=>h0 (UV e))];refine⟨_,rfl,?_⟩;rw[eA,h3,cK,TO (by omega),TX (by simp)]
def S.SM(os:List UInt8)(k:Nat):Nat:=if k<os.length then ((os[k]?.map UInt8.toNat).getD 0) % (k+1) else 0
def S.R_(os:List UInt8):Nat->List Int
 |0=>[]
 |k+1=>(S.R_ os k).take (S.SM os k)++(k:Int)::(S.R_ os k).drop (S.SM os k)
theorem qc(os:List UInt8):∀k,(S.R_ os k).length=k
 |0=>rfl
 |k+1=>by simp only[S.R_,Vl,Uq,T_,V8,qc os k];omega
theorem Bf{d k:Nat}{g:G}{P:Nat->Prop}{v:AV}{x:Gq}(hd:0<d)(hm:Agg x P k g.h v) :
  ∃r,ah C0 d 47 [v] g=.val r/\IT 0 (S.R_ x.2.2 (min x.1.length 5)) r:=by
 obtain⟨v',e,cs,rfl,hc⟩:=su (cq x) (by decide) d hm;obtain⟨a,b,rfl,C,o⟩:=ui.1 hc;have p:∀g:G,Agg x NoP (max k d) g.h (.agg [a,.int .u16 (x.2.1.toNat:Int),b]):=λg=>⟨_,rfl,ui.2 ⟨a,b,rfl,C.tree (TG _),o.tree (TG _)⟩⟩;obtain⟨rows,z,R,K,U⟩:=o.all;have z:∀h',ak h' 1 b=some rows:=z;rw[lp];refine aL mH (xs:=[.agg [a,.int .u16 (x.2.1.toNat:Int),b]]) (by simp only[aF,e]) (by simp[cX]) (aJ _) (by decide) hd ?_;have D:(S.SV x.1).length=min x.1.length 5:=by simp[S.SV];omega
 simp only[sz,simprocAttr,cX,fe];refine jE (min x.1.length 5) (by omega) (λj t df g=>df=[]/\tat t 1=XM 0/\g.h.get 0=W8 3 [[a,.int .u16 (x.2.1.toNat:Int),b]]/\1<=g.nx/\∃u,tat t 3=u/\Own g 1 u 1 ((S.R_ x.2.2 j).map ci))
  ⟨rfl,by simp[sx],by simp[sx],by simp[sx],_,rfl,.inl ⟨by simp[sx],rfl⟩⟩ (by simp[sx]) (by decide)
  (by rintro j t df g v s (rfl|rfl|rfl)<;>simp[sx]) ?_ ?_ ?_
 ·rintro j t df g F ⟨rfl,h1,hg,c,u,h3,hu⟩ h4;simp only[sz,simprocAttr,h1,h4,hg];refine bi (JC (TW d) (p _)) λr hr=>?_;simp only[sz,simprocAttr,h1,h4,hg,(hr.sl .nil).len,D];exact⟨c,u,h3,hu⟩
 ·rintro j t df g F ⟨rfl,h1,hg,c,u,h3,hu⟩ h4;have I:((S.R_ x.2.2 j).map ci).length=j:=by rw[TT,qc]
  have H:S.SM x.2.2 j<=j:=by
   unfold S.SM;split
   ·have:=US (((x.2.2)[j]?.map UInt8.toNat).getD 0) (show 0<j+1 by omega);omega
   ·omega
  have key:∀(t:T) (Q:QT),tat t 1=XM 0->tat t 3=u->tat t 4=XL (j:Int)->tat t 5=XL (S.SM x.2.2 j:Int) ->
    (∀(t':T) (g':G),tat t' 1=XM 0->tat t' 4=XL (j:Int)->g'.h.get 0=W8 3 [[a,.int .u16 (x.2.1.toNat:Int),b]]->1<=g'.nx->(∃u,tat t' 3=u/\Own g' 1 u 1 ((S.R_ x.2.2 (j+1)).map ci))->Q .norm t' [] g') ->
    wp C0 (d+1) none cz Q t [] g:=by
   intro t Q h1 h3 h4 h5 kk;obtain⟨y1,L,w1⟩:=Hv hu (n:=S.SM x.2.2 j) (by omega);simp only[sz,simprocAttr,cz,h3,h5,W4,WU,L];refine bk (rows:=[]) (b:=1) (.inl ⟨rfl,rfl⟩) w1 c (by simp[aQ];omega) λv1 g1 hv1 n1 f1 vid1 _=>?_;simp only[sz,simprocAttr,h4];refine bk (new:=[ci (j:Int)]) (hv1.step (Fr.new _ _)) (by simp[sx,sy,ci]) (by simp) (by simp[aQ,qc];omega) λv2 g2 hv2 n2 f2 vid2 _=>?_;have q:Own g1 1 u 1 ((S.R_ x.2.2 j).map ci):=hu.fr n1 λi hi=>f1 i (hu.lt hi).2 (by simp[vid]);have m:∀i,i<g.nx->vid v1≠some i:=λi hi e=>by
    rcases vid1 with h|⟨i',h,E⟩
    ·rw[h]at e;cases e
    ·rw[h]at e;injection e with e;omega
   have w:Own g2 1 u 1 ((S.R_ x.2.2 j).map ci):=q.fr (by simp at n2;omega) λi hi=>by have hlt:=(hu.lt hi).2;rw[f2 i (by simp;omega) (m i hlt),G.new_h,au _ _ _ (by omega)]
   obtain⟨V,M,N⟩:=Hw w (n:=S.SM x.2.2 j) (by omega);simp only[sz,simprocAttr,h3,h5,W4,WU,M];refine bk hv2 N (by simp at n2;omega) (by simp[aQ,qc];omega) λv3 g3 hv3 n3 f3 _ _=>?_;simp only[sz,simprocAttr];refine kk _ _ (by simp[sx,h1]) (by simp[sx,h4]) ?_ (by simp at n2;omega) ⟨_,rfl,?_⟩
   ·rw[f3 0 (by simp at n2;omega) (λe=>by have:=(hv2.lt e).1;omega),f2 0 (by simp) (m 0 (by omega)),G.new_h,au _ _ _ (by omega),f1 0 (by omega) (by simp[vid]),hg]
   ·simp only[sx,↓reduceIte];simpa [S.R_,List.map_take,List.map_drop] using hv3
  simp only[sz,simprocAttr,h1,h4,hg,o.len];refine dz (λhb=>?_) (λhb=>?_)
  ·have l:j<x.2.2.length:=by simp at hb;omega
   obtain⟨y,A⟩:∃y,x.2.2[j]?=some y:=⟨_,TH l⟩;obtain⟨row,B,O⟩:=K j y A;rw[gT.1 O]at B;have J:y.toNat<256:=y.toNat_lt;have hlt:j<rows.length:=by omega
   have f:((S.SM x.2.2 j:Nat):Int)=(y.toNat:Int) % ((j:Int)+1):=by unfold S.SM;rw[TO l,A];simp
   simp only[sz,simprocAttr,h1,h4,hg,z,hlt,B,ap (show -9223372036854775808<=(y.toNat:Int) by omega) (show (y.toNat:Int)<9223372036854775808 by omega),ap (show -9223372036854775808<=(j:Int)+1 by omega) (show (j:Int)+1<9223372036854775808 by omega),lZ .i64 (show (0:Int)<=(y.toNat:Int) by omega) (show 0<(j:Int)+1 by omega)];refine key _ _ (by simp[sx,h1]) (by simp[sx,h3]) (by simp[sx,h4]) (by simp[sx,f]) λt' g' e1 e4 e0 en eu=>?_;simp only[sy,e1,e4,e0];exact⟨en,eu⟩
  ·have f:S.SM x.2.2 j=0:=by unfold S.SM;rw[TN];simp at hb;omega
   simp only[sx];refine key _ _ (by simp[sx,h1]) (by simp[sx,h3]) (by simp[sx,h4]) (by simp[sx,f]) λt' g' e1 e4 e0 en eu=>?_;simp only[sy,e1,e4,e0];exact⟨en,eu⟩
 ·rintro t df g ⟨rfl,h1,hg,c,u,h3,hu⟩;simp only[sz,simprocAttr,eJ,h3];exact⟨_,hu.ints (by rw[qc];omega)⟩
end
end Hx
end
section
namespace Hx
open Go
noncomputable section
def S.Tc(cards:List Int):List Int->Nat->List Int×Bool
 |vals,0=>(vals,false)
 |vals,k+1=>if (vals[k]?.getD 0)+1<(cards[k]?.getD 0) then (vals.set k ((vals[k]?.getD 0)+1),true) else S.Tc cards (vals.set k 0) k
def S.Ti(cards vals:List Int):List Int×Bool:=S.Tc cards vals vals.length
end
end Hx
end
section
namespace Hx
open Go
noncomputable section
def S.Tt(cards:List Int):Nat->List Int->List (List Int)
 |0,_=>[]
 |f+1,v=>v::(if (S.Ti cards v).2 then S.Tt cards f (S.Ti cards v).1 else [])
def S.TB(cards:List Int):List (List Int):=S.Tt cards (S.RP cards).toNat (List.replicate cards.length 0)
end
end Hx
end
section
namespace Hx
open Go
noncomputable section
def S.Td(l:List Int)(h:Int):Int:=l.foldr (λc q=>q / c) h
def S.So(l:List Int)(h:Int)(i:Nat):Int:=S.Td (l.drop (i+1)) h % l[i]?.getD 1
def S.RT(l:List Int)(h:Int):List Int:=(List.range l.length).map (S.So l h)
end
end Hx
end
section
namespace Hx
open Go
noncomputable section
def S.RQ:List Int->List Int->Int
 |_::cs,v::vs=>v*S.RP cs+S.RQ cs vs
 |_,_=>0
def InC(cards vals:List Int):Prop:=All2 (λc v=>(0:Int)<=v/\v<c) cards vals
theorem bI:∀{cards vals:List Int},(∀c∈cards,1<=c/\c<=4)->InC cards vals->0<=S.RQ cards vals/\S.RQ cards vals<S.RP cards
 |[],[],_,_=>⟨WJ _,by decide⟩
 | c::cs,v::vs,hc,h=>by obtain⟨a,b⟩:=bI (cards:=cs) (vals:=vs) (λx hx=>hc x (by simp[hx])) h.2;obtain⟨d,-⟩:=bG (l:=cs) λx hx=>hc x (by simp[hx]);have k:=h.1;rw[cm];show 0<=v*S.RP cs+S.RQ cs vs/\v*S.RP cs+S.RQ cs vs<c*S.RP cs;have h1:0<=v*S.RP cs:=Vp k.1 (by omega);have h2:(v+1)*S.RP cs<=c*S.RP cs:=VA (by omega) (by omega);rw[Wh,Int.one_mul]at h2;omega
 |[],_::_,_,h=>h.elim
 |_::_,[],_,h=>h.elim
theorem InC.drop:∀{cards vals:List Int} (j:Nat),InC cards vals->InC (cards.drop j) (vals.drop j)
 |_,_,0,h=>h
 |[],[],j+1,_=>trivial
 |_::_,_::_,j+1,h=>InC.drop j h.2
 |[],_::_,_,h=>h.elim
 |_::_,[],_,h=>h.elim
theorem InC.len{cards vals:List Int}(h:InC cards vals):vals.length=cards.length:=(All2.len h).symm
end
end Hx
end
section
namespace Hx
open Go
noncomputable section
theorem x9{l:List Int}(hc:∀c∈l,1<=c/\c<=4)(hl:l.length<=13):S.Sr l=S.RP l:=by
 have pw:∀n,n<=13->(4:Int) ^ n<=67108864:=λn hn=>by
  have:=eP hn;have e:(4:Int) ^ 13=67108864:=by decide
  omega
 have key:∀j,j<=l.length->S.Sr (l.take j)=S.RP (l.take j):=by
  intro j
  induction j with
  |zero=>intro _;rfl
  | succ j ih =>
   intro k;obtain⟨x,hx,h,hm⟩:=ae (l:=l) (j:=j) (by omega);have ih:=ih (by omega);have hb:=bG (l:=l.take (j+1)) λy hy=>hc y (Uc hy);have:=pw (l.take (j+1)).length (by simp;omega);rw[h]at hb this ⊢;rw[uf]at hb ⊢;show S.Sr (l.take j++[x])=_;unfold S.Sr at ih ⊢;rw[Wr,ih];show IntKind.wrap .i64 (S.RP (l.take j)*x)=_;rw[ap (by omega) (by omega)]
 have:=key l.length (TG _);rwa [Ur]at this
end
end Hx
end
section
namespace Hx
open Go
def S.Tx(x:Mech)(roots:List Int)(V:Nat->Int):List Int:=(x.frm.map λq=>V q.toNat)++(x.noise.map λr=>roots[r.toNat]?.getD 0)
def S.Tv(m:Causal)(roots act:List Int)(V:Nat->Int)(i:Nat)(x:Mech):Int:=if 0<=act[i]?.getD 0 then act[i]?.getD 0 else x.out[(S.RQ (S.TA m x) (S.Tx x roots V)).toNat]?.getD 0
def Sol(m:Causal)(roots act:List Int)(V:Nat->Int):Prop:=∀(i:Nat) (x:Mech),m.nodes[i]?=some x->V i=S.Tv m roots act V i x
noncomputable def S.V(m:Causal)(roots act:List Int):Nat->Int:=Classical.epsilon (Sol m roots act)
noncomputable def S.TC(m:Causal)(roots act:List Int):List Int:=(List.range m.nodes.length).map (S.V m roots act)
theorem DT{cards vals:List Int}(hl:cards.length=vals.length)(h:∀(i:Nat) c v,cards[i]?=some c->vals[i]?=some v->0<=v/\v<c):InC cards vals:=by
 induction cards generalizing vals with
 | nil=>cases vals with
  |nil=>trivial
  |cons v vals=>simp at hl
 | cons c cards ih=>cases vals with
  |nil=>simp at hl
  |cons v vals=>exact⟨h 0 c v rfl rfl,ih (by simpa using hl) λi c' v' h1 h2=>h (i+1) c' v' (by simpa using h1) (by simpa using h2)⟩
theorem InC.get{cards vals:List Int}(h:InC cards vals){i:Nat}{c:Int}(hc:cards[i]?=some c):∃v,vals[i]?=some v/\0<=v/\v<c:=All2.get h hc
def S.Tg(cs vs:List Int)(a:Int):Int:=(cs.zip vs).foldl (λa p=>a*p.1+p.2) a
theorem vD:∀(cs vs:List Int) (a:Int),cs.length=vs.length->S.Tg cs vs a=a*S.RP cs+S.RQ cs vs
 |[],[],a,_=>by simp[S.Tg,S.RP,S.RQ]
 | c::cs,v::vs,a,h=>by show S.Tg cs vs (a*c+v)=_;rw[vD cs vs _ (by simpa using h),cm];show _=_+(v*S.RP cs+S.RQ cs vs);rw[Wh,Vz,Int.add_assoc]
 |[],_::_,_,h=>by simp at h
 |_::_,[],_,h=>by simp at h
end Hx
end
section
namespace Hx
open Go
noncomputable section
def hz(cs vs:List Int)(j:Nat):Int:=((cs.zip vs).take j).foldl (λa p=>a*p.1+p.2) 0
theorem InC.take{cards vals:List Int}(h:InC cards vals)(j:Nat):InC (cards.take j) (vals.take j):=All2.take h j
section
variable {d k:Nat}{m:Causal}{roots act:List Int}{V:Nat->Int}{a b w u:AV}{p1 p2 p3 p4 iu:Nat}{hid:Int}{r:Nat->Nat}
end
end
end Hx
end
section
namespace Hx
open Go
noncomputable section
theorem aT(ag:Bool)(n l sz off:Nat)(row:List AV)(g:G):rR ag n (.tptr l sz [row] 0 off) g=orV (bT ag n row off):=rfl
section
variable {d:Nat}{m:Causal}{a b:AV}
end
end
end Hx
end
section
namespace Hx
open Go
noncomputable section
theorem eM{C:Cfg}{d:Nat}{r:List SR}{t:T}{g:G}{K:AV->G->Prop}{id:Nat}(hg:g.h.get id=.dfr true)(h:xe r t (g.put id (.dfr false)) λvs=>K (gQ vs) (g.put id (.dfr false))):u7 C d r t [.mark id] g K:=by
 unfold u7;have:d8 (I C) d [.mark id] g=some (g.put id (.dfr false)):=by simp only[d8,G.get_eq,hg]
 rw[this];exact h
end
end Hx
end
section
namespace Hx
open Go
noncomputable section
def Fam(g:G)(b K:Nat)(V:Nat->AV)(W:Nat->List (List AV)):Prop :=
 (∀k,k<K->Own g b (V k) 1 (W k))/\∀k l,k<K->l<K->k≠l->∀id,vid (V k)=some id->vid (V l)≠some id
def RM(c:Nat->Int)(V:Nat->AV)(i:Nat):List AV:=[XL (c i),V (3*i+1),V (3*i+2),V (3*i+3)]
def M7(n:Nat)(c:Nat->Int)(V:Nat->AV):List (List AV):=(List.range n).map (RM c V)
structure ME where
 (n p4 q i5 p7 i9 b:Nat)
 (nv w5 w9 e7:AV)
 (gr:Int)
 (row0:List AV)
 (prow:List (List AV))
 (us:List UInt8)
structure ME.Ok (e:ME):Prop where
 ord:1<e.q/\e.q<e.p4/\e.p4<e.i5/\e.i5<e.p7/\e.p7<e.i9/\e.i9<e.b
 n1:1<=e.n/\e.n<=4
 g1:2<=e.gr/\e.gr<=12
 vn:vid e.nv=some e.q
 v5:vid e.w5=some e.i5
 v9:vid e.w9=some e.i9
 l7:SlR NoP 0 .nil e.us e.e7
structure MI (e:ME) (g:G) (V:Nat->AV) (W:Nat->List (List AV)) (c:Nat->Int) (ow:List Bool) (cap:Nat):Prop where
 h0:g.h.get 0=W8 5 [e.row0]
 h1:g.h.get 1=W8 3 [[XL 0,.nils,.nils]]
 hN:Own g 0 e.nv 4 (M7 e.n c V)
 h4:g.h.get e.p4=W8 3 [[XL e.gr,V 0,e.nv]]
 h5:Own g 0 e.w5 4 e.prow
 h7:∃cc:Int,0<=cc/\cc<=(cap:Int)/\g.h.get e.p7=W8 2 [[e.e7,XL cc]]
 h9:Own g 0 e.w9 1 (ow.map λx=>[.bool x])
 fam:Fam g e.b (3*e.n+1) V W
 nx:e.b<=g.nx
section
variable {e:ME}{g g':G}{V:Nat->AV}{W:Nat->List (List AV)}{c:Nat->Int}{ow:List Bool}{cap:Nat}
theorem dv{v:AV}{i j:Nat}(h:vid v=some i)(h':vid v=some j):i=j:=by rw[h]at h';injection h'
structure MP (e:ME) (g:G) (V V':Nat->AV) (W:Nat->List (List AV)) (c:Nat->Int) (ow:List Bool) (cap:Nat):Prop where
 h0:g.h.get 0=W8 5 [e.row0]
 h1:g.h.get 1=W8 3 [[XL 0,.nils,.nils]]
 hN:Own g 0 e.nv 4 (M7 e.n c V)
 h4:g.h.get e.p4=W8 3 [[XL e.gr,V 0,e.nv]]
 h5:Own g 0 e.w5 4 e.prow
 h7:∃cc:Int,0<=cc/\cc<=(cap:Int)/\g.h.get e.p7=W8 2 [[e.e7,XL cc]]
 h9:Own g 0 e.w9 1 (ow.map λx=>[.bool x])
 fam:Fam g e.b (3*e.n+1) V' W
 nx:e.b<=g.nx
end
end
end Hx
end
section
namespace Hx
open Go
noncomputable section
structure MD (e:ME) (W:Nat->List (List AV)) (R:List (List Int)) (F N O:Nat->List Int):Prop where
 r:All2 (Rp.rp NoP 0 .nil) R (W 0)
 f:∀i,i<e.n->W (3*i+1)=(F i).map ci
 n:∀i,i<e.n->W (3*i+2)=(N i).map ci
 o:∀i,i<e.n->W (3*i+3)=(O i).map ci
end
end Hx
end
section
namespace Hx
open Go
noncomputable section
theorem OS{g:G}{b:Nat}(hb:b<=g.nx)(cs:List AV):Own (g.new (W8 1 [cs])) b (.hsl g.nx 0 0 1 none) 1 [cs] :=
 .inr ⟨g.nx,0,false,hb,by simp,rfl,by simp[aP]⟩
end
end Hx
end
section
namespace Hx
open Go
noncomputable section
theorem xq{α β γ:Type}{R:β->γ->Prop}{f:α->β}{h:α->γ}:∀{l:List α},(∀x∈l,R (f x) (h x))->All2 R (l.map f) (l.map h)
 |[],_=>trivial
 |a::l,hl=>⟨hl a (by simp),xq λx hx=>hl x (by simp[hx])⟩
end
end Hx
end
section
namespace Hx
open Go
noncomputable section
theorem SlR.wide{α:Type} [Rp α]{P:Nat->Prop}{k k':Nat}{h h':H}{l:List α}{v:AV}(r:SlR NoP k h l v)(hk:k<=k'):SlR P k' h' l v:=by obtain⟨w,hw,q⟩:=Rp.tree (P:=P) (k':=k') (h':=h') (show Rp.rp NoP k h l [v] from ⟨v,rfl,r⟩) hk;injection hw with hw;subst hw;exact q
structure M0 (n p4 q i5 p7:Nat) (nv w5 cl:AV) (row0:List AV) (prow:List (List AV)) (gr:Int) (g:G) (cf:Nat->Int):Prop where
 h0:g.h.get 0=W8 5 [row0]
 h1:g.h.get 1=W8 3 [[XL 0,.nils,.nils]]
 hN:Own g 2 nv 4 (M7 n cf λ_=>.nils)
 h4:g.h.get p4=W8 3 [[XL gr,.nils,nv]]
 h5:Own g 2 w5 4 prow
 h7:g.h.get p7=W8 2 [[cl,XL 0]]
 nx:p7<g.nx
section
variable {n p4 q i5 p7:Nat}{nv w5 cl:AV}{row0:List AV}{prow:List (List AV)}{gr:Int}{g g':G}{cf cf':Nat->Int}
end
end
end Hx
end
section
namespace Hx
open Go
noncomputable section
def eid:AV->Option Nat
 |.hsl id _ _ _ _=>some id
 |.hptr id _ _ _=>some id
 |_=>none
def Bx(g:G)(b:Nat)(v:AV)(row:List AV):Prop:=∃id,b<=id/\id<g.nx/\v=XM id/\g.h.get id=W8 row.length [row]
inductive En where
 |sl (sz:Nat) (rows:List (List AV))
 |bx (row:List AV)
def En.ok(g:G)(b:Nat)(v:AV):En->Prop
 |.sl sz rows=>Own g b v sz rows
 |.bx row=>Bx g b v row
theorem i_{g:G}{b:Nat}{v:AV}{sz:Nat}{rows:List (List AV)}(h:Own g b v sz rows):eid v=vid v:=by rcases h with⟨rfl,-⟩|⟨id,ep,lo,h1,h2,rfl,h3⟩<;>rfl
theorem En.lt{g:G}{b:Nat}{v:AV}{e:En}(h:e.ok g b v){i:Nat}(hi:eid v=some i):b<=i/\i<g.nx:=by
 cases e with
 | sl sz rows =>
  have h:Own g b v sz rows:=h;rw[i_ h]at hi;exact h.lt hi
 | bx row =>
  obtain⟨id,h1,h2,rfl,h3⟩:=h;injection hi with hi;subst hi;exact⟨h1,h2⟩
theorem En.fr{g g':G}{b:Nat}{v:AV}{e:En}(h:e.ok g b v)(hn:g.nx<=g'.nx)(hf:∀i,eid v=some i->g'.h.get i=g.h.get i):e.ok g' b v:=by
 cases e with
 | sl sz rows =>
  have h:Own g b v sz rows:=h;exact h.fr hn λi hi=>hf i (by rw[i_ h];exact hi)
 | bx row =>
  obtain⟨id,h1,h2,rfl,h3⟩:=h;exact⟨id,h1,by omega,rfl,by rw[hf id rfl,h3]⟩
section
variable {κ:Type}
structure Hp (g:G) (b:Nat) (L:κ->Prop) (V:κ->AV) (E:κ->En):Prop where
 ok:∀k,L k->(E k).ok g b (V k)
 sep:∀k l,L k->L l->k≠l->∀id,eid (V k)=some id->eid (V l)≠some id
 nx:b<=g.nx
variable {g g':G}{b:Nat}{L L':κ->Prop}{V:κ->AV}{E:κ->En}{k:κ}
theorem Hp.sub(h:Hp g b L V E)(hl:∀k,L' k->L k):Hp g b L' V E:=⟨λk hk=>h.ok k (hl k hk),λk l hk hl2=>h.sep k l (hl k hk) (hl l hl2),h.nx⟩
theorem Hp.step(h:Hp g b L V E)(hn:g.nx<=g'.nx)(hf:∀i,b<=i->i<g.nx->g'.h.get i=g.h.get i):Hp g' b L V E :=
 ⟨λk hk=>En.fr (h.ok k hk) hn λi hi=>hf i (En.lt (h.ok k hk) hi).1 (En.lt (h.ok k hk) hi).2,h.sep,T6 h.nx hn⟩
theorem Hp.same(h:Hp g b L V E)(hf:g'.h=g.h)(hn:g.nx<=g'.nx):Hp g' b L V E:=h.step hn λi _ _=>by rw[hf]
theorem Hp.own(h:Hp g b L V E)(hk:L k){sz:Nat}{rows:List (List AV)}(he:E k=.sl sz rows):Own g b (V k) sz rows:=by have:=h.ok k hk;rw[he]at this;exact this
theorem Hp.box(h:Hp g b L V E)(hk:L k){row:List AV}(he:E k=.bx row):Bx g b (V k) row:=by have:=h.ok k hk;rw[he]at this;exact this
end
section
variable {κ:Type} [DecidableEq κ]
def ups{α:Type}(f:κ->α)(k:κ)(x:α):κ->α:=λj=>if j=k then x else f j
theorem aM{α:Type}(f:κ->α)(k:κ)(x:α):ups f k x k=x:=TO rfl
theorem aq{α:Type}(f:κ->α){k j:κ}(x:α)(h:j≠k):ups f k x j=f j:=TN h
theorem Q9{α:Type}{f:κ->α}{k:κ}{x:α}(h:f k=x):ups f k x=f:=by
 funext j;by_cases e:j=k
 ·subst e;rw[aM,h]
 ·exact aq _ _ e
variable {g g':G}{b:Nat}{L L':κ->Prop}{V:κ->AV}{E:κ->En}{k:κ}
theorem Hp.set(h:Hp g b L V E){v':AV}{e':En}(hk:L k)(ho:e'.ok g' b v')(hn:g.nx<=g'.nx)(hf:∀i,b<=i->i<g.nx->eid (V k)≠some i->g'.h.get i=g.h.get i)
  (hv:eid v'=eid (V k)\/∃i,eid v'=some i/\g.nx<=i):Hp g' b L (ups V k v') (ups E k e'):=by
 refine⟨λj hj=>?_,λj l hj hl hne id e1 e2=>?_,T6 h.nx hn⟩
 ·by_cases e:j=k
  ·subst e;rw[aM,aM];exact ho
  ·rw[aq _ _ e,aq _ _ e];exact En.fr (h.ok j hj) hn λi hi=>hf i (En.lt (h.ok j hj) hi).1 (En.lt (h.ok j hj) hi).2 λe2=>h.sep j k hj hk e i hi e2
 ·have key:∀j,L j->j≠k->∀id,eid (V j)=some id->eid v'≠some id:=λj hj hne id e1 e2=>by
   rcases hv with hv|⟨i,hv,hi⟩
   ·exact h.sep j k hj hk hne id e1 (hv ▸ e2)
   ·rw[hv]at e2;injection e2 with e2;have:=(En.lt (h.ok j hj) e1).2;omega
  by_cases a:j=k
  ·subst a;rw[aM]at e1;rw[aq _ _ (VG hne)]at e2;exact key l hl (VG hne) id e2 e1
  ·rw[aq _ _ a]at e1
   by_cases c:l=k
   ·subst c;rw[aM]at e2;exact key j hj a id e1 e2
   ·rw[aq _ _ c]at e2;exact h.sep j l hj hl hne id e1 e2
theorem Hp.add(h:Hp g b L V E){v':AV}{e':En}(hk:¬L k)(ho:e'.ok g' b v')(hn:g.nx<=g'.nx)(hf:∀i,b<=i->i<g.nx->g'.h.get i=g.h.get i)
  (hv:∀i,eid v'=some i->g.nx<=i) (hl:∀j,L' j->L j\/j=k):Hp g' b L' (ups V k v') (ups E k e'):=by
 refine⟨λj a=>?_,λj l a hl2 hne id e1 e2=>?_,T6 h.nx hn⟩
 ·rcases hl j a with a|rfl
  ·have e:j≠k:=λe=>hk (e ▸ a);rw[aq _ _ e,aq _ _ e];exact En.fr (h.ok j a) hn λi hi=>hf i (En.lt (h.ok j a) hi).1 (En.lt (h.ok j a) hi).2
  ·rw[aM,aM];exact ho
 ·have key:∀j,L j->∀id,eid (V j)=some id->eid v'≠some id:=λj a id e1 e2=>by have:=hv id e2;have:=(En.lt (h.ok j a) e1).2;omega
  rcases hl j a with a|rfl
  ·have e:j≠k:=λe=>hk (e ▸ a);rw[aq _ _ e]at e1;rcases hl l hl2 with hl2|rfl
   ·have e':l≠k:=λe=>hk (e ▸ hl2);rw[aq _ _ e']at e2;exact h.sep j l a hl2 hne id e1 e2
   ·rw[aM]at e2;exact key j a id e1 e2
  ·rw[aM]at e1;rcases hl l hl2 with hl2|rfl
   ·have e':l≠j:=λe=>hne e.symm;rw[aq _ _ e']at e2;exact key l hl2 id e2 e1
   ·exact hne rfl
theorem Hp.put(h:Hp g b L V E)(hk:L k){sz n i off:Nat}{rows:List (List AV)}{row row':List AV}(he:E k=.sl sz rows){x:AV}{K:AV->G->Prop}{D:ADf->Prop}(hr:rows[i]?=some row)
  (hl:x.cells.length=n) (ht:x.isTup=false) (hp:bX row off x.cells=some row')
  (kk:∀g',Hp g' b L V (ups E k (.sl sz (rows.set i row')))->g'.nx=g.nx->(∀i,i<b->g'.h.get i=g.h.get i)->(∀i,eid (V k)≠some i->g'.h.get i=g.h.get i)->K .undef g'):(nz n (jF sz (V k) i off) x g).sat K g D:=by
 have ho:=h.own hk he;refine bC ho hr hl ht hp λg' hv' hn hf=>?_;have:=h.set hk (e':=.sl sz (rows.set i row')) hv' (by omega) (λi _ hi hne=>hf i (by rw[<-i_ ho];exact hne)) (.inl rfl);rw[Q9 (f:=V) rfl]at this;exact kk g' this hn (λi hi=>hf i λe=>by have:=(ho.lt e).1;omega) λi hne=>hf i (by rw[<-i_ ho];exact hne)
end
end
end Hx
end
section
namespace Hx
open Go
noncomputable section
theorem ge{C:Cfg}{d:Nat}{rd:Option Nat}{l:List SI}{b:SC}{Q:QT}{t:T}{df:List ADf}{g:G}{P:PT}(h1:wpO C d rd l P t df g)(h2:∀t df g,P t df g->wp C d rd b Q t df g):wp C d rd (XK (.ops l) b) Q t df g:=by
 rw[b_];have:wp C d rd (.ops l) (λe t df g=>e=.norm/\P t df g) t df g:=by rw[Ev];simpa using h1
 refine bE _ this ?_;rintro e t df g ⟨rfl,h⟩;exact h2 t df g h
structure Bnd (K:Nat) (m:Causal):Prop where
 r:m.roots.length<=K
 rr:∀x∈m.roots,x.length<=K
 n:m.nodes.length<=K
 f:∀x∈m.nodes,x.frm.length<=K/\x.noise.length<=K/\x.out.length<=K
abbrev Ky:Type:=Nat×Nat
structure BD (K R n:Nat) (V:Ky->AV) (E:Ky->En) (Rt:Nat->List Int) (c:Nat->Int) (F:Nat->Nat->List Int):Prop where
 r:∀i,i<R->E (0,i)=.sl 1 ((Rt i).map ci)/\(Rt i).length<=K
 f:∀q i,1<=q->q<=3->i<n->E (q,i)=.sl 1 ((F q i).map ci)/\(F q i).length<=K
 rs:E (4,0)=.sl 1 ((List.range R).map λi=>[V (0,i)])
 ns:E (4,1)=.sl 4 ((List.range n).map λi=>[XL (c i),V (1,i),V (2,i),V (3,i)])
end
end Hx
end
section
namespace Hx
open Go
noncomputable section
structure TI (g:G) (q:Nat) (m:Causal) (k1 k2 act u1 u2 u3:AV) (A B W:List Int):Prop where
 a1:g.h.get 1=W8 1 [[act]]
 a2:g.h.get 2=W8 3 [[.nils,.nils,.nils]]
 a4:g.h.get 4=W8 4 [[XL m.grain,k1,k2,XL (S.Tw m)]]
 bq:g.h.get q=W8 3 [[u1,u2,u3]]
 o1:Own g 5 u1 1 (A.map ci)
 o2:Own g 5 u2 1 (B.map ci)
 o3:Own g 5 u3 1 (W.map ci)
 q5:5<=q/\q<g.nx
 n1:∀i,vid u1=some i->i≠q/\vid u2≠some i/\vid u3≠some i
 n2:∀i,vid u2=some i->i≠q/\vid u3≠some i
 n3:∀i,vid u3=some i->i≠q
section
variable {g g':G}{q:Nat}{m:Causal}{k1 k2 act u1 u2 u3:AV}{A B W:List Int}
end
end
end Hx
end
section
namespace Hx
open Go
noncomputable section
theorem iX{C:Cfg}{d:Nat}{rd:Option Nat}{a b:SC}{Q:QT}{t:T}{df:List ADf}{g:G}{P:PT}(h1:wp C d rd a (λe t df g=>e=.norm/\P t df g) t df g)(h2:∀t df g,P t df g->wp C d rd b Q t df g):wp C d rd (.seq a b) Q t df g:=by rw[b_];refine bE _ h1 ?_;rintro e t df g ⟨rfl,h⟩;exact h2 t df g h
end
end Hx
end
section
namespace Hx
open Go
noncomputable section
abbrev QI:=Int×Int
theorem gC{x:QI}{P:Nat->Prop}{k:Nat}{h:H}{v:AV}:Agg x P k h v↔v=.agg [XL x.1,XL x.2]:=by
 constructor
 ·rintro⟨cs,rfl,hc⟩;obtain⟨a,b,rfl,h1,h2⟩:=zt.1 hc;rw[ax.1 h1,ax.1 h2];rfl
 ·rintro rfl;exact⟨_,rfl,zt.2 ⟨[XL x.1],[XL x.2],rfl,ax.2 rfl,ax.2 rfl⟩⟩
def S.RY(n d:Nat):QI:=(((n / Nat.gcd n d:Nat):Int),((d / Nat.gcd n d:Nat):Int))
end
end Hx
end
section
namespace Hx
open Go
noncomputable section
theorem O5(a:ADf)(K:AV->G->Prop)(g:G)(D:ADf->Prop):(OR.dfr a).sat K g D=D a:=rfl
theorem OB(W:PT)(t:T)(df:List ADf)(g:G)(a:ADf):kD W none t df g a=W t (a::df) g:=rfl
theorem Kn{C:Cfg}{d n:Nat}{t:T}{g:G}{f:Nat}{first cap:List AV}(h:tat t n=.clo f first cap):SO.run C d none t g (.raw (.defer ⟨.value (.tmp n),#[],#[]⟩))=.dfr (.call (.clo f [] cap) (first++[])):=by
 have:(gp AV.undef n).run t=.clo f first cap:=by rw[gp_run];exact h
 simp only[SO.run,cE,cOp,aU,bM,this]
theorem Ht{C:Cfg}{d n:Nat}{t:T}{g:G}{f:Nat}{first cap:List AV}(h:tat t n=.clo f first cap):(cE C (.defer ⟨.value (.tmp n),#[],#[]⟩)).run (I C) d none t g=.dfr (.call (.clo f [] cap) (first++[])):=Kn h
theorem JE{C:Cfg}{d:Nat}{r:List SR}{t:T}{g g':G}{K:AV->G->Prop}{f:Nat}{cap:List AV}{v:AV}(hc:(I C).call d f cap g=.ok v g')(h:xe r t g' λvs=>K (gQ vs) g'):u7 C d r t [.call (.clo f [] cap) []] g K:=by
 unfold u7;have:d8 (I C) d [.call (.clo f [] cap) []] g=some g':=by simp only[d8,Ud,hc]
 rw[this];exact h
theorem F_{C:Cfg}{d:Nat}{rd:Option Nat}{t:T}{g:G}:SO.run C d rd t g (.raw (.call ⟨.builtin .recover,#[],#[]⟩))=.val .nili:=rfl
end
end Hx
end
section
namespace Hx
open Go
noncomputable section
theorem GK(d:Nat)(a b:AV)(g:G):jG C0 (I C0) d (.clo 119 [] [a,b]) [] g=orF ((I C0).call d 119 [a,b] g):=by kernel_rfl
theorem Gd{h:H}{id:Nat}{n:Int}(d k:Nat)(hg:h.get id=W8 1 [[XL n]]):Hx.snap h d (k+3) (XM id)=some (.tptr (Nat.max d 0) 1 [[XL n]] 0 0):=by
 simp only[Hx.snap,hg,show Nat.beq 0 0=true from rfl,aF]
 rfl
theorem Ks{h:H}{d f:Nat}{a b a' b':AV}(ha:Hx.snap h d 23 a=some a')(hb:Hx.snap h d 23 b=some b'):Hx.snap h d aC (.clo f [] [a,b])=some (.clo f [] [a',b']):=by show (match aF (Hx.snap h d 23) [],aF (Hx.snap h d 23) [a,b] with|some as',some cs=>some (AV.clo f as' cs)|_,_=>none)=_;simp only[aF,ha,hb]
theorem Rf:wD true .bool (.bool false) (.bool false)=.val (.bool false):=rfl
end
end Hx
end
section
namespace Hx
open Go
noncomputable section
end
end Hx
end
section
namespace Hx
open Go
noncomputable section
end
end Hx
end
section
namespace Hx
open Go
noncomputable section
def S.Tb(vals e:List Int)(i:Nat):Bool:=decide (e[i]?.getD 0<0) || decide (e[i]?.getD 0=vals[i]?.getD 0)
def S.S4(vals e:List Int):Bool:=(List.range e.length).all (S.Tb vals e)
end
end Hx
end
section
namespace Hx
open Go
noncomputable section
theorem SlR.far8{α:Type} [Rp α]{P:Nat->Prop}{k:Nat}{h h':H}{l:List α}{v:AV}(r:SlR P k h l v)(hf:∀i,P i->h'.get i=h.get i):SlR P k h' l v:=by obtain⟨w,e,q⟩:=Rp.mono (P':=P) (k':=k) (h':=h') (show Rp.rp P k h l [v] from ⟨v,rfl,r⟩) (λi hi=>⟨hi,hf i hi⟩) (TG _);injection e with e;subst e;exact q
end
end Hx
end
section
namespace Hx
open Go
noncomputable section
end
end Hx
end
section
namespace Hx
open Go
noncomputable section
def S.TD(s a:List Int):List Int:=(List.range s.length).map λi=>if a[i]?.getD 0<0 then -1 else s[i]?.getD 0
end
end Hx
end
section
namespace Hx
open Go
noncomputable section
theorem md{α:Type}{C:α->Prop}{S:α->VS}{j:Nat}(h:∀a,Snb (S a) j):Snb (λP k h v=>∃a,C a/\S a P k h v) j :=
 ⟨λ{P k hh v n} d r hn=>by
  obtain⟨a,c,r⟩:=r;obtain⟨v',e,r'⟩:=(h a).snap d r hn;exact⟨v',e,a,c,r'⟩,λ{k hh v n} r hn=>by
  obtain⟨a,c,r⟩:=r;exact (h a).tag r hn⟩
theorem ud:∀{A L:List Nat},A.Nodup->(∀v∈A,v∈L)->A.length<=L.length
 |[],_,_,_=>Uj _
 | a::A,L,hA,h=>by rw[List.nodup_cons]at hA;have ha:=h a (by simp);have:=ud (A:=A) (L:=L.erase a) hA.2 λv hv=>(List.mem_erase_of_ne (λe=>hA.1 (by rw[<-e];exact hv))).2 (h v (by simp[hv]));rw[List.length_erase_of_mem ha]at this;have:=List.length_pos_of_mem ha;simp only[Uq];omega
def Ord(p:List Nat)(L:List Nat):Prop:=(∀v,v<p.length->v∈L)/\∀(i v:Nat),L[i]?=some v->v<p.length/\∀q,(Par p v).testBit q=true->q∈L.take i
def Jl(p:List Nat)(L:List Nat):Prop:=L.Nodup/\∀(i v:Nat),L[i]?=some v->v<p.length/\∀q,(Par p v).testBit q=true->q∈L.take i
theorem MK{p L:List Nat}(h:Jl p L):L.length<=p.length:=by
 have:=ud (L:=List.range p.length) h.1 λv hv=>by obtain⟨i,hi,rfl⟩:=Vk.1 hv;exact T8.2 (h.2 i _ (TH hi)).1
 simpa using this
theorem J_{p L:List Nat}(h:Jl p L){v:Nat}(hv:v ∉ L)(hl:v<p.length)(hp:∀q,(Par p v).testBit q=true->q∈L):Jl p (L++[v]):=by
 refine⟨?_,λi u hu=>?_⟩
 ·rw[List.nodup_append];exact⟨h.1,by simp,λa ha b hb=>by simp at hb;subst hb;exact λe=>hv (e ▸ ha)⟩
 ·rcases Vn i L.length with hi|hi
  ·rw[T5 hi]at hu;obtain⟨h1,h2⟩:=h.2 i u hu;exact⟨h1,λq hq=>by rw[List.take_append_of_le_length (by omega)];exact h2 q hq⟩
  ·rw[T0 hi]at hu;have:i=L.length:=by have:=(TJ.1 hu).1;simp at this;omega
   subst this;simp at hu;subst hu;exact⟨hl,λq hq=>by rw[List.take_left];exact hp q hq⟩
theorem J9{p L:List Nat}(h:Jl p L)(hl:p.length<=L.length):Ord p L:=by
 refine⟨λv hv=>?_,h.2⟩
 by_cases hm:v∈L
 ·exact hm
 ·have:=ud (A:=v::L) (L:=List.range p.length) (List.nodup_cons.2 ⟨hm,h.1⟩) λu hu=>by
   rcases Us.1 hu with rfl|hu
   ·exact T8.2 hv
   ·obtain⟨i,hi,rfl⟩:=Vk.1 hu;exact T8.2 (h.2 i _ (TH hi)).1
  simp at this;omega
theorem OI{p L:List Nat}(h:Jl p L)(hl:L.length<p.length):∃v,v<p.length/\v ∉ L:=by
 by_cases hh:∃v,v<p.length/\v ∉ L
 ·exact hh
 ·exfalso;have:=ud (A:=List.range p.length) (L:=L) List.nodup_range λv hv=>by
   by_cases h':v∈L
   ·exact h'
   ·exact absurd ⟨v,T8.1 hv,h'⟩ hh
  simp at this;omega
def Qd(D:Nat)(L:List Nat):Prop:=D<18446744073709551616/\∀v,D.testBit v=true↔v∈L
theorem Kq{D:Nat}{L:List Nat}(h:Qd D L){v:Nat}(hv:v<64):Qd (D ||| S.Sn v) (L++[v]):=by
 refine⟨MJ h.1 (zM v),λu=>?_⟩;rw[tQ,zN hv,UB,h.2,T9,Uk,UX];constructor
 ·rintro (h|h)
  ·exact .inl h
  ·exact .inr h.symm
 ·rintro (h|h)
  ·exact .inl h
  ·exact .inr h.symm
end
end Hx
end
section
namespace Hx
open Go
noncomputable section
end
end Hx
end
section
namespace Hx
open Go
noncomputable section
theorem PI{g g':G}(hn:g.nx<=g'.nx)(h:∀i,i<g.nx->g'.h.get i=g.h.get i):Fr g g':=⟨hn,h⟩
section
variable {m:Causal}{c1 c2 l w c9 v35 ls v48:AV}{al:List Int}{hid kk:Int}{p:Nat}
end
end
end Hx
end
section
namespace Hx
open Go
noncomputable section
theorem qL(l:List Int)(j:Nat)(x:Int):(l.map ci).set j (ci x)=(l.set j x).map ci:=by rw[Vf]
end
end Hx
end
section
namespace Hx
open Go
noncomputable section
theorem xd{x y:Nat}(hy:0<y):ct .rem (XL (x:Int)) (XL (y:Int))=.val (XL ((x % y:Nat):Int)):=by rw[lZ .i64 (V6 x) (by omega),<-Int.natCast_emod]
end
end Hx
end
section
namespace Hx
open Go
noncomputable section
def S.SQ:Nat->Nat->List Int
 |0,_=>[]
 |f+1,n=>if n=0 then [] else ((n % 10000:Nat):Int)::S.SQ f (n / 10000)
def S.dg(n:Nat):List Int:=S.SQ 12 n
theorem EW:∀{f n:Nat},n<10000 ^ f->S.SQ (f+1) n=S.SQ f n
 | 0,n,h=>by
  have:n=0:=by simp at h;exact h
  subst this;rfl
 | f+1,n,h=>by
  have ih:=EW (f:=f) (n:=n / 10000) (by rw[VX]at h;exact (Nat.div_lt_iff_lt_mul (by decide)).2 h);rw[S.SQ]
  by_cases h0:n=0
  ·rw[TO h0,S.SQ,TO h0]
  ·rw[TN h0,ih]
   conv=>rhs;rw[S.SQ,TN h0]
theorem l9{n:Nat}(h0:n≠0)(h:n<1000000000000000000000000000000000000000000000000):S.dg n=((n % 10000:Nat):Int)::S.dg (n / 10000):=by have e:=EW (f:=12) (n:=n) h;unfold S.dg;rw[<-e];rw[S.SQ,TN h0]
theorem nI:S.dg 0=[]:=rfl
theorem If:∀(f n:Nat),(S.SQ f n).length<=f
 |0,_=>TG _
 | f+1,n=>by
  rw[S.SQ]
  split
  ·simp
  ·have:=If f (n / 10000);simp;omega
theorem lq(n:Nat):(S.dg n).length<=12:=If 12 n
theorem IJ{x:Nat}(h:x<9223372036854775808):unV .neg (XL (x:Int))=.val (XL (-(x:Int))):=by
 have e:unV .neg (XL (x:Int))=.val (XL (IntKind.wrap .i64 (-(x:Int)))):=by
  cases x with
  |zero=>rfl
  | succ n =>
   show orV (qd (Op.unary .neg (.int .i64 (.ofNat (n+1)))))=_;unfold qd Op.unary
   rfl
 rw[e,ap (by omega) (by omega)]
theorem qR{x y:Nat}(hx:x<9223372036854775808)(hy:0<y):ct .quo (XL (x:Int)) (XL (y:Int))=.val (XL ((x / y:Nat):Int)):=by have h:x / y<=x:=Va _ _;rw[H5 .i64 (V6 x) (by omega),<-Int.natCast_ediv];generalize x / y=z at h;rw[ap (by omega) (by omega)]
theorem xM{d:Nat}{g:G}{n:Nat}(hd:0<d)(hn:n<9223372036854775808):∃r,ah C0 d 117 [XL (n:Int)] g=.val r/\IT 0 (S.dg n) r:=by
 rw[wm];refine aL y5 (xs:=[XL (n:Int)]) (by simp only[aF,bD 0]) (by simp[mT]) (aJ _) (by decide) hd ?_;simp only[sz,simprocAttr,mT];refine eW (λk t df g=>df=[]/\k<9223372036854775808/\St t [(0,XL (k:Int))]/\∃u L,tat t 3=u/\Own g 0 u 1 ((L:List Int).map ci)/\L++S.dg k=S.dg n) n
  ⟨rfl,hn,by simp[sx,St],_,[],rfl,.inl ⟨by simp[sx],rfl⟩,rfl⟩ ?_
 rintro k t df g ⟨rfl,hk,⟨h0,-⟩,u,L,h3,hu,c⟩;have a:L.length+(S.dg k).length=(S.dg n).length:=by rw[<-c,Vl]
 have m:=lq n;simp only[sz,simprocAttr,nK,h0];refine dz (λhq=>?_) (λhq=>?_)
 ·have h:k≠0:=by simp at hq;omega
  have b:=l9 h (by omega);have j:=xd (x:=k) (y:=10000) (by decide);have l:=qR (x:=k) (y:=10000) hk (by decide);have hm:=US k (show 0<10000 by decide);have f:=IJ (x:=k % 10000) (by omega);have e:max ((k % 10000:Nat):Int) (-((k % 10000:Nat):Int))=((k % 10000:Nat):Int):=by omega
  have i:k / 10000<k:=Nat.div_lt_self (by omega) (by decide);generalize k % 10000=r at *;generalize k / 10000=q at *;have j:ct .rem (XL (k:Int)) (XL 10000)=.val (XL (r:Int)):=j;have l:ct .quo (XL (k:Int)) (XL 10000)=.val (XL (q:Int)):=l;simp only[sz,simprocAttr,h0,h3,j,f,e];have o:L.length<(S.dg n).length:=by rw[b]at a;simp at a;omega
  refine bk (new:=[ci (r:Int)]) (hu.step (Fr.new _ _)) (by simp[sx,sy,ci]) (by simp<;>omega) (by simp[aQ]<;>omega) λv2 g2 hv2 n2 f2 _ l2=>?_;simp only[sz,simprocAttr,h0,l,St];refine⟨q,i,by omega,?_,v2,L++[(r:Int)],?_,?_,?_⟩
  ·simp[sx]
  ·simp[sx]
  ·simpa using hv2
  ·rw[UJ,List.singleton_append,<-b,c]
 ·have h:k=0:=by simp at hq;omega
  subst h;rw[nI,T3]at c;subst c;simp only[sz,simprocAttr,nL,h3];exact⟨_,hu.ints (by omega)⟩
end
end Hx
end
section
namespace Hx
open Go
noncomputable section
def S.RU:List Int->Int
 |[]=>0
 |x::l=>x+10000*S.RU l
theorem It{a b:Nat}(h:a<=b):(10000:Int) ^ a<=10000 ^ b:=by rw[show (10000:Int)=((10000:Nat):Int) from rfl,<-Int.natCast_pow,<-Int.natCast_pow];exact Int.ofNat_le.2 (UG (by decide) h)
theorem GI{P:Nat->Prop}(h0:P 0)(hs:∀n,n≠0->P (n / 10000)->P n):∀n,P n:=by
 intro n
 induction n using Nat.strongRecOn with
 | ind n ih =>
  by_cases h:n=0
  ·subst h;exact h0
  ·exact hs n h (ih _ (Nat.div_lt_self (by omega) (by decide)))
theorem qp:∀n:Nat,n<1000000000000000000000000000000000000000000000000->S.RU (S.dg n)=(n:Int):=by refine GI (λ_=>rfl) λn h0 ih hn=>?_;have hl:=Va n 10000;rw[l9 h0 hn,S.RU,ih (by omega)];have:=UI n 10000;omega
theorem uZ:∀n:Nat,n<1000000000000000000000000000000000000000000000000->∀x∈S.dg n,0<=x/\x<10000:=by
 refine GI (λ_ x hx=>by simp[nI]at hx) λn h0 ih hn x hx=>?_;have hl:=Va n 10000;have hm:=US n (show 0<10000 by decide);rw[l9 h0 hn]at hx;rcases Us.1 hx with rfl|hx
 ·omega
 ·exact ih (by omega) x hx
theorem mC:∀(l r:List Int),S.RU (l++r)=S.RU l+10000 ^ l.length*S.RU r
 |[],r=>by simp[S.RU]
 | x::l,r=>by rw[T4,S.RU,S.RU,mC l r,Uq,Wq,Int.mul_add,<-Vz,Wa 10000 (10000 ^ l.length)];omega
theorem mD:∀{l:List Int},(∀x∈l,0<=x/\x<10000)->0<=S.RU l/\S.RU l<10000 ^ l.length
 |[],_=>by simp[S.RU]
 | x::l,h=>by have h1:=mD (l:=l) λy hy=>h y (by simp[hy]);have h2:=h x (by simp);rw[S.RU,Uq,Wq];omega
theorem Ih:∀{l:List Int},(∀x∈l,0<=x/\x<10000)->l.getLast?≠some 0->l.length<=12->S.dg (S.RU l).toNat=l
 |[],_,_,_=>rfl
 | x::l,h,hz,hl=>by
  have h2:=h x (by simp);have hr:∀y∈l,0<=y/\y<10000:=λy hy=>h y (by simp[hy]);have hb:=mD hr;have a:=mD h;have k:l.getLast?≠some 0:=by
   cases l with
   |nil=>simp
   |cons y l=>rw[List.getLast?_cons_cons]at hz;exact hz
  have ih:=Ih hr k (by simp at hl;omega);have b:S.RU (x::l)≠0:=by
   intro e;rw[S.RU]at e;have e1:x=0:=by omega
   have e2:S.RU l=0:=by omega
   rw[e2]at ih;have:l=[]:=ih.symm;subst this;subst e1;exact hz rfl
  have hlt:(S.RU (x::l)).toNat<1000000000000000000000000000000000000000000000000:=by
   have:(10000:Int) ^ (x::l).length<=10000 ^ 12:=It hl;have:(10000:Int) ^ 12=1000000000000000000000000000000000000000000000000:=by decide
   omega
  rw[l9 (by omega) hlt];have ed:S.RU (x::l)=x+10000*S.RU l:=rfl;have ed:S.RU (x::l)=x+10000*S.RU l:=rfl;have e:(S.RU (x::l)).toNat=x.toNat+10000*(S.RU l).toNat:=by rw[ed];omega
  rw[e];have e1:(x.toNat+10000*(S.RU l).toNat) % 10000=x.toNat:=by omega
  have e2:(x.toNat+10000*(S.RU l).toNat) / 10000=(S.RU l).toNat:=by omega
  rw[e1,e2,ih,Int.toNat_of_nonneg h2.1]
end
end Hx
end
section
namespace Hx
open Go
noncomputable section
def S.SU(l:List Int):Nat->List Int
 |0=>[]
 |j+1=>if l[j]?.getD 0=0 then S.SU l j else l.take (j+1)
def S.S1(l:List Int):List Int:=S.SU l l.length
end
end Hx
end
section
namespace Hx
open Go
noncomputable section
theorem Ii{n:Nat}(h0:n≠0)(h:n<1000000000000000000000000000000000000000000000000):0<(S.dg n).length:=by rw[l9 h0 h];simp
theorem Oc:∀n:Nat,n<1000000000000000000000000000000000000000000000000->(S.dg n).getLast?≠some 0:=by
 refine GI (λ_=>by simp[nI]) λn h0 ih hn=>?_;have hl:=Va n 10000;have ih:=ih (by omega);rw[l9 h0 hn]
 by_cases hz:n / 10000=0
 ·rw[hz,nI];simp only[List.getLast?_singleton];have:=UI n 10000;intro e;injection e with e;omega
 ·have h1:=Ii hz (by omega);obtain⟨y,l,e⟩:∃y l,S.dg (n / 10000)=y::l:=by
   cases h:S.dg (n / 10000) with
   |nil=>rw[h]at h1;simp at h1
   |cons y l=>exact⟨y,l,rfl⟩
  rw[e]at ih ⊢;rw[List.getLast?_cons_cons];exact ih
theorem uY:∀(i n:Nat),n<1000000000000000000000000000000000000000000000000->(S.dg n)[i]?.getD 0=((n / 10000 ^ i % 10000:Nat):Int)
 | 0,n,hn=>by
  by_cases h0:n=0
  ·subst h0;rfl
  ·rw[l9 h0 hn];simp
 | i+1,n,hn=>by
  have hl:=Va n 10000
  by_cases h0:n=0
  ·subst h0;simp[nI]
  ·rw[l9 h0 hn,Wz,uY i _ (by omega),VX,UQ,<-UL]
theorem Ig:∀(i n:Nat),n<1000000000000000000000000000000000000000000000000->(S.dg n).drop i=S.dg (n / 10000 ^ i)
 |0,n,hn=>by simp
 | i+1,n,hn=>by
  have hl:=Va n 10000
  by_cases h0:n=0
  ·subst h0;simp[nI]
  ·rw[l9 h0 hn,Wx,Ig i _ (by omega),VX,UQ,<-UL]
theorem wy{n:Nat}(h:n<1000000000000000000000000000000000000000000000000):n<10000 ^ (S.dg n).length:=by have h1:=(mD (uZ n h)).2;rw[qp n h]at h1;exact Int.ofNat_lt.1 (by rw[Int.natCast_pow];exact h1)
theorem DZ:∀{l:List Int},(∀x∈l,0<=x/\x<10000)->l.getLast?≠some 0->0<l.length->10000 ^ (l.length - 1)<=S.RU l
 |[],_,_,h=>by simp at h
 | [x],h,hz,_=>by have:=h x (by simp);have:x≠0:=λe=>hz (by rw[e];rfl);simp only[S.RU,List.length_singleton,UD,Int.pow_zero];omega
 | x::y::l,h,hz,_=>by have h1:=DZ (l:=y::l) (λz hz=>h z (by simp[hz])) (by rw[List.getLast?_cons_cons]at hz;exact hz) (by simp);have:=h x (by simp);rw[S.RU];simp only[Uq,VP]at h1 ⊢;rw[Wq];omega
theorem PA{n:Nat}(h:n<1000000000000000000000000000000000000000000000000)(h0:n≠0):10000 ^ ((S.dg n).length - 1)<=n:=by have h1:=DZ (uZ n h) (Oc n h) (Ii h0 h);rw[qp n h]at h1;exact Int.ofNat_le.1 (by rw[Int.natCast_pow];exact h1)
theorem xK{a b:Nat}(ha:a<1000000000000000000000000000000000000000000000000)(hb:b<1000000000000000000000000000000000000000000000000)(h:(S.dg a).length<(S.dg b).length):a<b:=by
 have h1:=wy ha;have h0:b≠0:=λe=>by subst e;simp[nI]at h
 have h2:=PA hb h0;have h3:10000 ^ (S.dg a).length<=10000 ^ ((S.dg b).length - 1):=UG (by decide) (by omega);omega
theorem JD{a b:Nat}(ha:a<1000000000000000000000000000000000000000000000000)(hb:b<1000000000000000000000000000000000000000000000000)(h:a<=b):(S.dg a).length<=(S.dg b).length :=
 Nat.le_of_not_lt λe=>by have:=xK hb ha e;omega
def S.Sx(a b:Nat):Int:=if a<b then -1 else if a=b then 0 else 1
theorem K9{a b i:Nat}(h:a / 10000 ^ (i+1)=b / 10000 ^ (i+1))(h2:a / 10000 ^ i % 10000<b / 10000 ^ i % 10000):a<b:=by rw[VX,<-UL,<-UL]at h;refine Nat.lt_of_not_le λe=>?_;have:=Nat.div_le_div_right (c:=10000 ^ i) e;have h3:=UI (a / 10000 ^ i) 10000;have h4:=UI (b / 10000 ^ i) 10000;omega
theorem Qk{a b i:Nat}(h:a / 10000 ^ (i+1)=b / 10000 ^ (i+1))(h2:a / 10000 ^ i % 10000=b / 10000 ^ i % 10000):a / 10000 ^ i=b / 10000 ^ i:=by rw[VX,<-UL,<-UL]at h;have h3:=UI (a / 10000 ^ i) 10000;have h4:=UI (b / 10000 ^ i) 10000;omega
theorem CC(l:List Int):∀{j:Nat},j<=l.length->∃m,m<=j/\S.SU l j=l.take m/\S.RU (l.take m)=S.RU (l.take j)/\(l.take m).getLast?≠some 0
 |0,_=>⟨0,TG _,by simp[S.SU],rfl,by simp⟩
 | j+1,h=>by
  obtain⟨x,hx,ht,-⟩:=ae (l:=l) (j:=j) (by omega)
  by_cases h0:x=0
  ·obtain⟨m,h1,h2,h3,h4⟩:=CC l (j:=j) (by omega);refine⟨m,by omega,?_,?_,h4⟩
   ·rw[S.SU,hx,TS,TO h0,h2]
   ·rw[h3,ht,mC,h0];simp[S.RU]
  ·refine⟨j+1,TG _,?_,rfl,?_⟩
   ·rw[S.SU,hx,TS,TN h0]
   ·rw[ht,List.getLast?_concat];simpa using h0
theorem Aj{l:List Int}{n:Nat}(h:∀x∈l,0<=x/\x<10000)(hv:S.RU l=(n:Int))(hn:n<1000000000000000000000000000000000000000000000000):S.S1 l=S.dg n:=by
 obtain⟨m,h1,h2,h3,h4⟩:=CC l (TG l.length);rw[Ur,hv]at h3;have hr:∀x∈l.take m,0<=x/\x<10000:=λx hx=>h x (Uc hx);have k:(l.take m).length<=12:=by
  refine Nat.le_of_not_lt λe=>?_;have h5:=DZ hr h4 (by omega);rw[h3]at h5;have h6:(10000:Int) ^ 12<=10000 ^ ((l.take m).length - 1):=It (by omega);have:(10000:Int) ^ 12=1000000000000000000000000000000000000000000000000:=by decide
  omega
 have h7:=Ih hr h4 k;rw[h3]at h7;rw[S.S1,h2,<-h7]
 rfl
end
end Hx
end
section
namespace Hx
open Go
noncomputable section
theorem Ak{d:Nat}{g:G}{b:Nat}{v:AV}{l:List Int}{K:AV->G->Prop}{D:ADf->Prop}(hv:Own g b v 1 (l.map ci))(hl:l.length<9223372036854775808)
  (k:∀v',SlR (λi=>vid v=some i) 0 g.h (S.S1 l) v'->K v' g):(ah C0 d 161 [v] g).sat K g D:=by
 rw[zY];refine wz DC (by simp[s7]) ?_;simp only[sz,simprocAttr,s7,s8];rcases hv with⟨rfl,e⟩|⟨id,ep,lo,h1,h2,rfl,h3⟩
 ·have:l=[]:=by simpa using e
  subst this;have k:=k .nils ⟨by show 0<9223372036854775808;decide,rfl⟩;refine eW (λn t df g'=>df=[]/\g'=g/\St t [(0,.nils)]) 0 ⟨rfl,rfl,by simp[sx,St]⟩ ?_;rintro n t df g' ⟨rfl,rfl,h0,-⟩;simp only[sz,simprocAttr,jl,h0,cH,Int.lt_irrefl];exact k
 ·rw[TT]at *;have key:∀n≤l.length,ak g.h 1 (.hsl id ep 0 n none)=some ((l.take n).map ci):=λn f=>by rw[eA,h3,cK,TO (by simp;omega),VI,List.map_take]
  have sl:∀n≤l.length,SlR (λi=>vid (.hsl id ep 0 l.length none)=some i) 0 g.h (l.take n) (.hsl id ep 0 n none):=λn f =>
   ⟨by rw[T_];omega,rfl,_,key n f,RN (λa=>ax.2 rfl) _⟩
  have slc:∀n c:Nat,n<=l.length->c<n->x_ 1 (.hsl id ep 0 n none) none (some (XL (c:Int))) g=.val (.hsl id ep 0 c none):=λn c f hc=>by
   have hb:(l.map ci).length.beq 0=false:=by rw[TT];cases h:l.length with|zero=>omega|succ n=>rfl
   simp only[x_,lK,h3,Uv,U7,aA,Uy,aa,Uw,aY,Vc,VY];rw[TO (by rw[TT];omega)];simp only[bU];rw[show ay (c.ble (l.map ci).length) (some c) none=some c from by rw[aa,TO (by simp;omega)]];dsimp only;rw[hb]
   rfl
  refine eW (λn t df g'=>df=[]/\g'=g/\n<=l.length/\S.SU l n=S.S1 l/\St t [(0,.hsl id ep 0 n none)]) l.length ⟨rfl,rfl,TG _,rfl,by simp[sx,St]⟩ ?_;rintro n t df g' ⟨rfl,rfl,f,hc,h0,-⟩;have n1:∀h,cH .slice (.hsl id ep 0 n none) h=.val (XL (n:Int)):=λh=>rfl;have hk:=key n f;cases n with
  | zero =>
   have m:¬((0:Int)<((0:Nat):Int)):=by omega
   simp only[sz,simprocAttr,jl,h0,n1,m];have k:=k _ (by rw[<-hc];exact sl 0 f);exact k
  | succ n =>
   obtain⟨x,hx,ht,-⟩:=ae (l:=l) (j:=n) (by omega);have w1:IntKind.wrap .i64 (((n+1:Nat):Int) - 1)=(n:Int):=by rw[ap (by omega) (by omega)];omega
   have q0:(0:Int)<((n+1:Nat):Int):=by omega
   have o:n<((l.take (n+1)).map ci).length:=by simp;omega
   have q2:((l.take (n+1)).map ci)[n]?=some (ci x):=by rw[TK,V7,TO (by omega),hx];rfl
   have hs:=slc (n+1) n f (by omega)
   by_cases hx0:x=0
   ·simp only[sz,simprocAttr,h0,n1,q0,w1,hk,o,q2,ci,hx0,W4,WU,hs];refine⟨n,by omega,by omega,?_,by simp[sx,St]⟩;rw[<-hc,S.SU,hx,TS,TO hx0]
   ·simp only[sz,simprocAttr,jl,h0,n1,q0,w1,hk,o,q2,ci,hx0];have k:=k _ (by rw[<-hc,S.SU,hx,TS,TN hx0];exact sl (n+1) f);exact k
theorem Ag{d k k2:Nat}{g:G}{P P2:Nat->Prop}{v w:AV}{x y:Nat}(hd:0<d)(hv:SlR P k g.h (S.dg x) v)(hw:SlR P2 k2 g.h (S.dg y) w)(hx:x<1000000000000000000000000000000000000000000000000)(hy:y<1000000000000000000000000000000000000000000000000) :
  ah C0 d 162 [v,w] g=.val (XL (S.Sx x y)):=by
 obtain⟨v',e1,n⟩:=bm hv d;obtain⟨w',e2,o⟩:=bm hw d;rw[uU];refine ff xQ (xs:=[v',w']) (by simp only[aF,e1,e2]) (by simp[lF]) hd ?_;have n1:=λg=>(n .nil).len g;have n2:=λg=>(o .nil).len g;have c:=hv.1;simp only[sz,simprocAttr,lF,n1,n2];refine dz (λhq=>?_) (λhq=>?_)
 ·have r:(S.dg x).length≠(S.dg y).length:=by simp at hq;omega
  simp only[sz,simprocAttr,n1,n2];refine dz (λhq2=>?_) (λhq2=>?_)
  ·have hlt:(S.dg x).length<(S.dg y).length:=by simp at hq2;omega
   have:=xK hx hy hlt;simp only[sz,simprocAttr];rw[S.Sx,TO this]
  ·have hlt:(S.dg y).length<(S.dg x).length:=by simp at hq2;omega
   have:=xK hy hx hlt;simp only[sz,simprocAttr];rw[S.Sx,TN (by omega),TN (by omega)]
 ·have b:(S.dg x).length=(S.dg y).length:=by simp at hq;omega
  have w1:IntKind.wrap .i64 (((S.dg x).length:Int) - 1)=((S.dg x).length:Int) - 1:=by rw[ap (by omega) (by omega)]
  simp only[sz,simprocAttr,n1,mQ];refine xi (m:=(S.dg x).length) c (λj t df g=>df=[]/\St t [(0,v'),(1,w')]/\x / 10000 ^ j=y / 10000 ^ j) ⟨rfl,by simp[St,sx],?_⟩ (by simp[sx,w1]) (by decide) (by rintro j t df g v s (rfl|rfl|rfl|rfl|rfl)<;>simp[St,sx]) ?_ ?_
  ·have h1:=wy hx;have h2:=wy hy;rw[<-b]at h2;rw[UO h1,UO h2]
  ·rintro j t df g i ⟨rfl,⟨h0,h1,-⟩,a⟩ h5;obtain⟨p,hp,-,-⟩:=ae i;obtain⟨q,hq,-,-⟩:=ae (l:=S.dg y) (j:=j) (by omega);have ep:=uY j x hx;have eq:=uY j y hy;rw[hp,TS]at ep;rw[hq,TS]at eq;have e:j<((S.dg x).map ci).length:=by simpa using i
   have q2:j<((S.dg y).map ci).length:=by rw[TT];omega
   have q3:((S.dg x).map ci)[j]?=some (ci p):=by rw[TK,hp];rfl
   have f:((S.dg y).map ci)[j]?=some (ci q):=by rw[TK,hq];rfl
   have ra:∀h',ak h' 1 v'=some ((S.dg x).map ci):=λh'=>(n h').ints;have rb:∀h',ak h' 1 w'=some ((S.dg y).map ci):=λh'=>(o h').ints
   by_cases hpq:p=q
   ·have:=Qk a (by omega);simp only[sz,simprocAttr,h0,h1,h5,ra,rb,e,q2,q3,f,ci,hpq,St];exact this
   ·by_cases hlt:p<q
    ·have:=K9 a (by omega);simp only[sz,simprocAttr,h0,h1,h5,ra,rb,e,q2,q3,f,ci,hpq,hlt];rw[S.Sx,TO this]
    ·have:=K9 a.symm (by omega);simp only[sz,simprocAttr,h0,h1,h5,ra,rb,e,q2,q3,f,ci,hpq,hlt];rw[S.Sx,TN (by omega),TN (by omega)]
  ·rintro t df g ⟨rfl,⟨h0,h1,-⟩,a⟩;rw[Nat.pow_zero,WL,WL]at a;subst a;simp only[sz,simprocAttr,mS];rw[S.Sx,TN (by omega),TO rfl]
end
end Hx
end
section
namespace Hx
open Go
noncomputable section
theorem EY:∀{L:List Int} {p:Nat} {z:Int},p<L.length->S.RU (L.set p z)=S.RU L+(z - L[p]?.getD 0)*10000 ^ p
 |[],_,_,h=>by simp at h
 |x::L,0,z,_=>by simp[S.RU];omega
 | x::L,p+1,z,h=>by have ih:=EY (L:=L) (p:=p) (z:=z) (by simpa using h);rw[WC,S.RU,S.RU,ih,Wz,Wq,<-Vz,Int.mul_add,Wa _ (10000:Int)];generalize (z - L[p]?.getD 0)*10000 ^ p=u;omega
theorem IU{L:List Int}{p:Nat}{z:Int}(h:∀x∈L,0<=x/\x<10000)(hz:0<=z/\z<10000):∀x∈L.set p z,0<=x/\x<10000:=λx hx=>by
 rcases List.mem_or_eq_of_mem_set hx with h1|rfl
 ·exact h x h1
 ·exact hz
theorem KW{L:List Int}(h:∀x∈L,0<=x/\x<10000)(p:Nat):0<=L[p]?.getD 0/\L[p]?.getD 0<10000:=by
 cases e:L[p]? with
 |none=>simp
 |some x=>exact h x (TL e)
structure S.tI (bl:List Int) (n i:Nat) (V ai:Int) (k:Nat) (c:Int) (L:List Int):Prop where
 len:L.length=n
 rng:∀x∈L,0<=x/\x<10000
 zer:∀j,i+bl.length<=j->i+k<=j->L[j]?.getD 0=0
 kle:k<=bl.length+1
 c0:0<=c
 c1:c<10000
 ce:k=bl.length+1->c=0
 cs:k=0->c=0
 eq:S.RU L+c*10000 ^ (i+k)=V+ai*10000 ^ i*S.RU (bl.take k)
def S.Tl(bl:List Int):Prop:=∀(k:Nat) (z:Int),bl[k]?=some z->0<=z/\z<=10000/\(0<k->z<10000)
theorem Pn{D D' c c' s l z U V W m:Int}(h1:D'=D+(z - l)*U)(h2:s=c+l+m)(h3:s=10000*c'+z)(h4:D+c*U=V+W):D'+c'*(U*10000)=V+(W+m*U):=by
 have e1:(c+l+m)*U=(10000*c'+z)*U:=by rw[<-h2,h3]
 rw[Wh,Wh,Wh,Vz]at e1;rw[Int.sub_mul]at h1;rw[<-Vz,Wa _ (10000:Int)];omega
theorem Po{bl L:List Int}{n i k:Nat}{V ai c m s:Int}(h:S.tI bl n i V ai k c L)(hi:i+k<n)(h2:S.Tl bl)(ha:0<=ai/\ai<10000)
  (hk:k<bl.length\/k=bl.length) (hm:m=ai*bl[k]?.getD 0) (hs:s=c+L[i+k]?.getD 0+m) :
  0<=s/\s<100000000/\S.tI bl n i V ai (k+1) (s / 10000) (L.set (i+k) (s % 10000)):=by
 obtain⟨a,hr,hz,o,c0,c1,ce,cs,he⟩:=h;obtain⟨q,l1⟩:=KW hr (i+k);have hb:0<=bl[k]?.getD 0/\bl[k]?.getD 0<=10000/\(0<k->bl[k]?.getD 0<10000):=by
  cases e:bl[k]? with
  |none=>simp
  |some z=>exact h2 k z e
 obtain⟨l,b1,b2⟩:=hb;have r:0<=m:=by rw[hm];exact Vp ha.1 l
 have t:m<=9999*bl[k]?.getD 0:=by rw[hm];exact VA (by omega) l
 have b:0<=s/\s<100000000:=by
  by_cases hk0:k=0
  ·have:=cs hk0;omega
  ·have:=b2 (by omega);omega
 have d:k=bl.length->bl[k]?.getD 0=0:=λe=>by rw[Ut (by omega)];rfl
 have f:S.RU (bl.take (k+1))=S.RU (bl.take k)+10000 ^ k*bl[k]?.getD 0:=by
  rcases hk with hk|hk
  ·obtain⟨x,hx,ht,-⟩:=ae hk;rw[ht,mC,hx,T_,UP (by omega)];simp[S.RU]
  ·rw[d hk,TX (by omega),TX (by omega)];simp
 refine⟨b.1,b.2,by simpa using a,IU hr (by omega),λj h1 h3=>?_,by omega,by omega,by omega,λe=>?_,by omega,?_⟩
 ·rw[Ws (by omega)];exact hz j h1 (by omega)
 ·have e:k=bl.length:=by omega
  have h0:=hz (i+k) (by omega) (by omega);rw[d e,Int.mul_zero]at hm;rw[h0,hm]at hs;omega
 ·have hd:=EY (L:=L) (p:=i+k) (z:=s % 10000) (by omega);have:=Pn (c':=s / 10000) hd hs (by omega) he;rw[<-VK,Wq,this,f,Int.mul_add,hm,Int.pow_add];congr 2;simp only[Vz,Wa,Int.mul_left_comm]
theorem Nx{bl L:List Int}{n i:Nat}{V ai:Int}(hlen:L.length=n)(hr:∀x∈L,0<=x/\x<10000)(hz:∀j,i+bl.length<=j->L[j]?.getD 0=0)(hV:S.RU L=V):S.tI bl n i V ai 0 0 L :=
 ⟨hlen,hr,λj h1 h2=>hz j h1,by omega,by omega,by omega,λ_=>rfl,λ_=>rfl,by simp[S.RU,hV]⟩
structure S.tO (al bl:List Int) (i:Nat) (L:List Int):Prop where
 len:L.length=al.length+bl.length
 rng:∀x∈L,0<=x/\x<10000
 zer:∀j,i+bl.length<=j->L[j]?.getD 0=0
 eq:S.RU L=S.RU (al.take i)*S.RU bl
theorem CG:∀n:Nat,S.RU (List.replicate n 0)=0
 |0=>rfl
 |n+1=>by rw[UY,S.RU,CG n];rfl
theorem Ny(al bl:List Int):S.tO al bl 0 (List.replicate (al.length+bl.length) 0):=by
 refine⟨by simp,λx hx=>?_,λj _=>?_,by rw[CG];simp[S.RU]⟩
 ·have:=(Wl.1 hx).2;omega
 ·rw[VQ];split<;>rfl
theorem Pp{al bl L:List Int}{i k:Nat}{c x:Int}(hi:i<al.length)(hx:al[i]?=some x)(h:S.tI bl (al.length+bl.length) i (S.RU (al.take i)*S.RU bl) x k c L)(hk:bl.length<=k)(hc:c=0):S.tO al bl (i+1) L:=by obtain⟨a,hr,hz,d,c0,c1,ce,cs,he⟩:=h;refine⟨a,hr,λj h1=>hz j (by omega) (by omega),?_⟩;obtain⟨y,b,ht,-⟩:=ae hi;rw[hx]at b;injection b with b;subst b;rw[hc,Int.zero_mul,Int.add_zero,TX hk]at he;rw[he,ht,mC,T_,UP (by omega),Wh];simp[S.RU,Wa]
theorem Q7{al bl L:List Int}{x y:Nat}(h:S.tO al bl al.length L)(ha:S.RU al=(x:Int))(hb:S.RU bl=(y:Int))(hm:x*y<1000000000000000000000000000000000000000000000000):S.S1 L=S.dg (x*y):=by refine Aj h.rng ?_ hm;rw[h.eq,Ur,ha,hb,UW]
structure S.mI (al bl:List Int) (i:Nat) (r:Int) (L:List Int):Prop where
 len:L.length=i
 rng:∀x∈L,0<=x/\x<10000
 r01:r=0\/r=1
 eq:S.RU L=S.RU (al.take i) - S.RU (bl.take i)+r*10000 ^ i
theorem Ms(al bl:List Int):S.mI al bl 0 0 []:=⟨rfl,by simp,.inl rfl,by simp[S.RU]⟩
theorem IF{al bl L:List Int}{i:Nat}{r x y e q:Int}(hi:i<al.length)(ha:∀x∈al,0<=x/\x<10000)(hb:∀x∈bl,0<=x/\x<10000)(h:S.mI al bl i r L)(hx:al[i]?=some x)(hy:bl[i]?.getD 0=y)
  (he:(x - r - y<0/\e=x - r - y+10000/\q=1)\/(0<=x - r - y/\e=x - r - y/\q=0)):S.mI al bl (i+1) q (L++[e]):=by
 obtain⟨k,hr,l,b⟩:=h;have m:=ha x (TL hx);have f:=KW hb i;rw[hy]at f;have a:0<=e/\e<10000:=by omega
 have d:S.RU (bl.take (i+1))=S.RU (bl.take i)+10000 ^ i*y:=by
  by_cases hk:i<bl.length
  ·obtain⟨z,hz,ht,-⟩:=ae hk;rw[ht,mC,T_,UP (by omega)];rw[hz,TS]at hy;simp[S.RU,hy]
  ·rw[Ut (by omega),Vc]at hy;rw[<-hy,TX (by omega),TX (by omega)];simp
 have c:S.RU (al.take (i+1))=S.RU (al.take i)+10000 ^ i*x:=by obtain⟨z,hz,ht,-⟩:=ae hi;rw[hx]at hz;injection hz with hz;rw[ht,mC,T_,UP (by omega),hz];simp[S.RU]
 refine⟨by simp[k],λz hz=>?_,by omega,?_⟩
 ·rcases Uk.1 hz with h1|h1
  ·exact hr z h1
  ·rw[UX.1 h1];exact a
 ·rw[mC,k,d,c,b,Wq];have e1:e=x - r - y+10000*q:=by omega
  have e2:10000 ^ i*e=10000 ^ i*x - 10000 ^ i*r - 10000 ^ i*y+10000 ^ i*(10000*q):=by rw[e1];simp only[Int.mul_add,Int.mul_sub]
  have e3:q*(10000 ^ i*10000)=10000 ^ i*(10000*q):=by simp only[Vz,Wa]
  have j:r*10000 ^ i=10000 ^ i*r:=Wa _ _;simp only[S.RU,Int.mul_zero,Int.add_zero];rw[e2,e3,j];generalize (10000:Int) ^ i=U;generalize U*x=u1;generalize U*r=u2;generalize U*y=u3;generalize U*(10000*q)=u4;omega
theorem Qy{x y:Nat}{L:List Int}{r:Int}(hx:x<1000000000000000000000000000000000000000000000000)(hxy:y<=x)(h:S.mI (S.dg x) (S.dg y) (S.dg x).length r L):S.S1 L=S.dg (x - y):=by
 obtain⟨a,hr,b,k⟩:=h;have c:=JD (show y<1000000000000000000000000000000000000000000000000 by omega) hx hxy;rw[Ur,TX c,qp x hx,qp y (by omega)]at k;have hb:=mD hr;rw[a]at hb;have:r=0:=by
  rcases b with e|e
  ·exact e
  ·rw[e,Int.one_mul]at k;omega
 rw[this,Int.zero_mul,Int.add_zero]at k;exact Aj hr (by omega) (by omega)
end
end Hx
end
section
namespace Hx
open Go
noncomputable section
theorem zL{x y:Int}(h0:0<=x)(h1:x<9223372036854775808)(hy:0<y):ct .rem (XL x) (XL y)=.val (XL (x % y)):=by obtain⟨n,rfl⟩:=TP h0;obtain⟨m,rfl⟩:=TP (by omega:0<=y);have:=xd (x:=n) (y:=m) (by omega);rw[this,Int.natCast_emod]
theorem po{x y:Int}(h0:0<=x)(h1:x<9223372036854775808)(hy:0<y):ct .quo (XL x) (XL y)=.val (XL (x / y)):=by obtain⟨n,rfl⟩:=TP h0;obtain⟨m,rfl⟩:=TP (by omega:0<=y);have:=qR (x:=n) (y:=m) (by omega) (by omega);rw[this,Int.natCast_ediv]
theorem NE{d i:Nat}{v' w' u:AV}{al bl:List Int}{x V:Int}{Q:QT}{t:T}{g:G}{L:List Int}(hi:i<al.length)(hx:al[i]?=some x)(hx1:0<=x/\x<10000)(hla:al.length<=1000)(hlb:bl.length<=1000)(hb:S.Tl bl)
  (ra:∀h,ak h 1 v'=some (al.map ci)) (rb:∀h,ak h 1 w'=some (bl.map ci)) (n2:∀g,cH .slice w' g=.val (XL (bl.length:Int)))
  (ht:St t [(0,v'),(1,w'),(5,u),(6,XL (i:Int)),(7,XL 0),(8,XL 0)]) (hu:Own g 0 u 1 (L.map ci)) (hI:S.tI bl (al.length+bl.length) i V x 0 0 L)
  (fin:∀t g L k,St t [(0,v'),(1,w'),(5,u),(6,XL (i:Int))]->Own g 0 u 1 (L.map ci)->S.tI bl (al.length+bl.length) i V x k 0 L->bl.length<=k->Q (.exit 2) t [] g) :
  wpL (wp C0 d none dS) Q t [] g:=by
 refine eW (λn t df g=>df=[]/\∃(k:Nat) (c:Int) (L:List Int),n=bl.length+2 - k/\St t [(0,v'),(1,w'),(5,u),(6,XL (i:Int)),(7,XL c),(8,XL (k:Int))]/\Own g 0 u 1 (L.map ci)/\S.tI bl (al.length+bl.length) i V x k c L) (bl.length+2)
  ⟨rfl,0,0,L,by omega,ht,hu,hI⟩ ?_
 rintro n t df g ⟨rfl,k,c,L,rfl,⟨h0,h1,h5,h6,h7,h8,-⟩,hu,hI⟩;have B:=hI.kle;have c0:=hI.c0;have c1:=hI.c1;have w1:IntKind.wrap .i64 ((i:Int)+(k:Int))=((i+k:Nat):Int):=by rw[ap (by omega) (by omega)];omega
 have z:IntKind.wrap .i64 ((k:Int)+1)=((k+1:Nat):Int):=by rw[ap (by omega) (by omega)];omega
 have ur:=λg (hu:Own g 0 u 1 (L.map ci))=>hu.rows
 by_cases hk:k<bl.length\/(k=bl.length/\0<c)
 ·have b:i+k<L.length:=by rw[hI.len];omega
  obtain⟨p,hp,-,-⟩:=ae b;obtain⟨J,K⟩:=hI.rng p (TL hp);have r:IntKind.wrap .i64 (c+p)=c+p:=ap (by omega) (by omega);have w:i+k<(L.map ci).length:=by simpa using b
  have q2:(L.map ci)[i+k]?=some (ci p):=by rw[TK,hp];rfl
  have ur:=hu.rows;have key:∀s m:Int,m=x*bl[k]?.getD 0->s=c+p+m->0<=s/\s<100000000/\S.tI bl (al.length+bl.length) i V x (k+1) (s / 10000) (L.set (i+k) (s % 10000)):=λs m hm hs =>
   Po hI (by rw[<-hI.len];exact b) hb hx1 (by omega) hm (by rw[hp];exact hs)
  by_cases hk1:k<bl.length
  ·obtain⟨y,q,-,-⟩:=ae hk1;obtain⟨A,y1,-⟩:=hb k y q;have q3:i<(al.map ci).length:=by simpa using hi
   have C:(al.map ci)[i]?=some (ci x):=by rw[TK,hx];rfl
   have q5:k<(bl.map ci).length:=by simpa using hk1
   have D:(bl.map ci)[k]?=some (ci y):=by rw[TK,q];rfl
   have a:((k:Int)<(bl.length:Int)):=by omega
   obtain⟨m,hm⟩:∃m,m=x*y:=⟨_,rfl⟩;have H:0<=m:=by rw[hm];exact Vp hx1.1 A
   have I:m<=10000*y:=by rw[hm];exact VA (by omega) A
   obtain⟨s,hs⟩:∃s,s=c+p+m:=⟨_,rfl⟩;obtain⟨f,E,j⟩:=key s m (by rw[q,TS];exact hm) hs;have F:IntKind.wrap .i64 (x*y)=m:=by rw[<-hm,ap (by omega) (by omega)]
   have w5:IntKind.wrap .i64 (c+p+m)=s:=by rw[<-hs,ap (by omega) (by omega)]
   have b1:=zL (x:=s) (y:=10000) f (by omega) (by decide);have b2:=po (x:=s) (y:=10000) f (by omega) (by decide);simp only[sz,simprocAttr,dS,h0,h1,h5,h6,h7,h8,n2,a,w1,r,F,w5,ur,w,q2,q3,C,q5,D,ra,rb,ci,jZ,j3,b1];refine bC (v:=u) (sz:=1) (n:=1) (i:=i+k) (off:=0) (x:=XL (s % 10000)) (row':=ci (s % 10000)) hu q2 rfl rfl rfl λg2 hu2 n2 f2=>?_;rw[qL]at hu2;simp only[sz,simprocAttr,h8,z,b2];exact⟨bl.length+2 - (k+1),by omega,k+1,s / 10000,_,rfl,by simp[St,sx,h0,h1,h5,h6],hu2,j⟩
  ·have a:¬((k:Int)<(bl.length:Int)):=by omega
   have o:(0:Int)<c:=by omega
   have l:bl[k]?.getD 0=0:=by rw[Ut (by omega)];rfl
   obtain⟨s,hs⟩:∃s,s=c+p:=⟨_,rfl⟩;obtain⟨f,E,j⟩:=key s 0 (by rw[l,Int.mul_zero]) (by omega);rw[<-hs]at r;have b1:=zL (x:=s) (y:=10000) f (by omega) (by decide);have b2:=po (x:=s) (y:=10000) f (by omega) (by decide);simp only[sz,simprocAttr,dS,h1,h5,h6,h7,h8,n2,a,o,w1,r,<-hs,ur,w,q2,ci,jZ,j3,b1];refine bC (v:=u) (sz:=1) (n:=1) (i:=i+k) (off:=0) (x:=XL (s % 10000)) (row':=ci (s % 10000)) hu q2 rfl rfl rfl λg2 hu2 n2 f2=>?_;rw[qL]at hu2;simp only[sz,simprocAttr,h8,z,b2];exact⟨bl.length+2 - (k+1),by omega,k+1,s / 10000,_,rfl,by simp[St,sx,h0,h1,h5,h6],hu2,j⟩
 ·have a:¬((k:Int)<(bl.length:Int)):=by omega
  have hc:c=0:=by
   by_cases e:k=bl.length+1
   ·exact hI.ce e
   ·omega
  subst hc;simp only[sz,simprocAttr,dS,h1,h7,h8,n2,a,Int.lt_irrefl];refine fin _ _ L k ?_ hu hI (by omega);simp[St,sx,h0,h1,h5,h6]
theorem Da{d k k2:Nat}{g:G}{P P2:Nat->Prop}{v w:AV}{x y:Nat}{bl:List Int}(hd:0<d)(hv:SlR P k g.h (S.dg x) v)(hw:SlR P2 k2 g.h bl w)(hx:x<1000000000000000000000000000000000000000000000000)(hb:S.Tl bl)(hlb:bl.length<=100)(hy:S.RU bl=(y:Int))(hm:x*y<1000000000000000000000000000000000000000000000000) :
  ∃r,ah C0 d 163 [v,w] g=.val r/\IT 0 (S.dg (x*y)) r:=by
 obtain⟨v',e1,f⟩:=bm hv d;obtain⟨w',e2,l⟩:=bm hw d;rw[xF];have e:=qp x hx;have ha:=uZ x hx;have o:=lq x;generalize S.dg x=al at *;refine aL Aw (xs:=[v',w']) (by simp only[aF,e1,e2]) (by simp[oO]) (aJ _) (by decide) hd ?_;have n1:=λg=>(f .nil).len g;have n2:=λg=>(l .nil).len g;have ra:∀h',ak h' 1 v'=some (al.map ci):=λh'=>(f h').ints;have rb:∀h',ak h' 1 w'=some (bl.map ci):=λh'=>(l h').ints;have w1:IntKind.wrap .i64 ((al.length:Int)+(bl.length:Int))=((al.length+bl.length:Nat):Int):=by rw[ap (by omega) (by omega)];omega
 simp only[sz,simprocAttr,oO,n1,n2,w1];refine mb (b:=0) (n:=al.length+bl.length) (by simp[aQ];omega) (by simp[aQ];omega) (Uj _) λu g1 hu hn1 hf1 hvid=>?_;have hu:Own g1 0 u 1 ((List.replicate (al.length+bl.length) (0:Int)).map ci):=by simpa [ci] using hu
 simp only[sz,simprocAttr,pM];refine zC (m:=al.length) (v:=v') (by omega) n1 (λi t df g=>df=[]/\St t [(1,w'),(5,u)]/\∃L,Own g 0 u 1 (L.map ci)/\S.tO al bl i L) ⟨rfl,by simp[St,sx],_,hu,Ny al bl⟩ (by simp[sx]) (by simp[sx]) (by decide) (by rintro j t df g v s (rfl|rfl|rfl|rfl|rfl|rfl|rfl)<;>simp[St,sx]) ?_ ?_
 ·rintro i t df g hi ⟨rfl,⟨h1,h5,-⟩,L,hu,a⟩ h6 h0;obtain⟨p,hp,-,c⟩:=ae hi;simp only[sz,simprocAttr];refine NE (V:=S.RU (al.take i)*S.RU bl) (L:=L) hi hp (ha p c) (by omega) (by omega) hb ra rb n2 (by simp[St,sx,h0,h1,h5,h6]) hu (Nx a.len a.rng a.zer a.eq) ?_;rintro t g L k ⟨h0,h1,h5,h6,-⟩ hu hI hk;simp only[sx,sy,↓reduceIte];refine⟨⟨?_,L,hu,Pp hi hp hI hk rfl⟩,h6,h0⟩;simp[St,h1,h5]
 ·rintro t df g ⟨rfl,⟨h1,h5,-⟩,L,hu,a⟩ h0;have q:L.length<=200:=by have:=a.len;omega
  have e3:=Q7 a e hy hm;simp only[sz,simprocAttr,pN,h5];refine Ak hu (by omega) λv2 hv2=>?_;rw[e3]at hv2;simp only[sz,simprocAttr];exact⟨_,v2,rfl,hv2⟩
theorem Fz{d i:Nat}{v' w' u:AV}{e0:Int}{L:List Int}{Q:QT}{t:T}{g:G}(ht:St t [(0,v'),(1,w'),(7,XL (i:Int)),(8,XL e0)])(h5:tat t 5=u)(hu:Own g 0 u 1 (L.map ci))(hL:L.length<=100)(he:-20000<e0/\e0<20000)
  (fin:∀t g u e q,(e0<0/\e=e0+10000/\q=1)\/(0<=e0/\e=e0/\q=0)->St t [(0,v'),(1,w'),(7,XL (i:Int))]->tat t 5=u->tat t 6=XL q->Own g 0 u 1 ((L++[e]).map ci)->Q .norm t [] g) :
  wp C0 d none fX Q t [] g:=by
 obtain⟨h0,h1,h7,h8,-⟩:=ht
 by_cases h:e0<0
 ·have w1:IntKind.wrap .i64 (e0+10000)=e0+10000:=ap (by omega) (by omega);simp only[sz,simprocAttr,fX,jY,h5,h8,h,w1];refine bk (new:=[ci (e0+10000)]) (hu.step (Fr.new _ _)) (by simp[sx,sy,ci]) (by simp<;>omega) (by simp[aQ]<;>omega) λv2 g2 hv2 n2 f2 _ l2=>?_;simp only[sz,simprocAttr];exact fin _ _ v2 _ _ (.inl ⟨h,rfl,rfl⟩) (by simp[St,sx,h0,h1,h7]) (by simp[sx]) (by simp[sx]) (by simpa using hv2)
 ·simp only[sz,simprocAttr,fX,jY,h5,h8,h];refine bk (new:=[ci e0]) (hu.step (Fr.new _ _)) (by simp[sx,sy,ci]) (by simp<;>omega) (by simp[aQ]<;>omega) λv2 g2 hv2 n2 f2 _ l2=>?_;simp only[sz,simprocAttr];exact fin _ _ v2 _ _ (.inr ⟨by omega,rfl,rfl⟩) (by simp[St,sx,h0,h1,h7]) (by simp[sx]) (by simp[sx]) (by simpa using hv2)
theorem Ki{d k k2:Nat}{g:G}{P P2:Nat->Prop}{v w:AV}{x y:Nat}(hd:0<d)(hv:SlR P k g.h (S.dg x) v)(hw:SlR P2 k2 g.h (S.dg y) w)(hx:x<1000000000000000000000000000000000000000000000000)(hxy:y<=x) :
  ∃r,ah C0 d 164 [v,w] g=.val r/\IT 0 (S.dg (x - y)) r:=by
 obtain⟨v',e1,l⟩:=bm hv d;obtain⟨w',e2,n⟩:=bm hw d;rw[xE];have ha:=uZ x hx;have hb:=uZ y (by omega);have A:=lq x;have B:=lq y;refine aL Av (xs:=[v',w']) (by simp only[aF,e1,e2]) (by simp[oJ]) (aJ _) (by decide) hd ?_;have n1:=λg=>(l .nil).len g;have n2:=λg=>(n .nil).len g;have ra:∀h',ak h' 1 v'=some ((S.dg x).map ci):=λh'=>(l h').ints;have rb:∀h',ak h' 1 w'=some ((S.dg y).map ci):=λh'=>(n h').ints;simp only[sz,simprocAttr,oJ,pK];refine zC (m:=(S.dg x).length) (v:=v') (by omega) n1 (λi t df g=>df=[]/\St t [(1,w')]/\∃(u:AV) (r:Int) (L:List Int),tat t 5=u/\tat t 6=XL r/\Own g 0 u 1 (L.map ci)/\S.mI (S.dg x) (S.dg y) i r L) ⟨rfl,by simp[St,sx],.nils,0,[],by simp[sx],by simp[sx],.inl ⟨rfl,rfl⟩,Ms _ _⟩ (by simp[sx]) (by simp[sx]) (by decide) (by rintro j t df g v s (rfl|rfl|rfl|rfl|rfl|rfl|rfl)<;>simp[St,sx]) ?_ ?_
 ·rintro i t df g hi ⟨rfl,⟨h1,-⟩,u,r,L,h5,h6,hu,hI⟩ h7 h0;obtain⟨p,hp,-,b⟩:=ae hi;have D:=ha p b;have f:i<((S.dg x).map ci).length:=by simpa using hi
  have q2:((S.dg x).map ci)[i]?=some (ci p):=by rw[TK,hp];rfl
  have r01:=hI.r01;have o:=hI.len;have w1:IntKind.wrap .i64 (p - r)=p - r:=ap (by omega) (by omega)
  by_cases hk:i<(S.dg y).length
  ·obtain⟨q,hq,-,c⟩:=ae hk;have E:=hb q c;have q3:i<((S.dg y).map ci).length:=by simpa using hk
   have F:((S.dg y).map ci)[i]?=some (ci q):=by rw[TK,hq];rfl
   have a:(i:Int)<((S.dg y).length:Int):=by omega
   have H:IntKind.wrap .i64 (p - r - q)=p - r - q:=ap (by omega) (by omega);simp only[sz,simprocAttr,h0,h1,h6,h7,n2,ra,rb,f,q2,q3,F,ci,w1,H,a];refine Fz (v':=v') (w':=w') (i:=i) (e0:=p - r - q) (by simp[St,sx,h0,h1,h7]) (by simp[sx,h5]) hu (by omega) (by omega) ?_;rintro t g u e z he ⟨h0,h1,h7,-⟩ h5 h6 hu;simp only[sy];exact⟨⟨by simp[St,h1],u,z,_,h5,h6,hu,IF hi ha hb hI hp (by rw[hq];rfl) he⟩,h7,h0⟩
  ·have a:¬(i:Int)<((S.dg y).length:Int):=by omega
   simp only[sz,simprocAttr,h0,h1,h6,h7,n2,ra,f,q2,ci,w1,a];refine Fz (v':=v') (w':=w') (i:=i) (e0:=p - r) (by simp[St,sx,h0,h1,h7]) (by simp[sx,h5]) hu (by omega) (by omega) ?_;rintro t g u e z he ⟨h0,h1,h7,-⟩ h5 h6 hu;simp only[sy];exact⟨⟨by simp[St,h1],u,z,_,h5,h6,hu,IF (y:=0) (e:=e) (q:=z) (x:=p) (r:=r) hi ha hb hI hp (by rw[Ut (by omega)];rfl) (by omega)⟩,h7,h0⟩
 ·rintro t df g ⟨rfl,⟨h1,-⟩,u,r,L,h5,h6,hu,hI⟩ h0;have C:L.length<=200:=by have:=hI.len;omega
  have e3:=Qy hx hxy hI;simp only[sz,simprocAttr,pL,h5];refine Ak hu (by omega) λv2 hv2=>?_;rw[e3]at hv2;simp only[sz,simprocAttr];exact⟨_,v2,rfl,hv2⟩
end
end Hx
end
section
namespace Hx
open Go
noncomputable section
theorem Lm{A a b:Nat}:(10000*A+a) / b=10000*(A / b)+(10000*(A % b)+a) / b:=by
 rcases WY b with rfl|hb
 ·simp
 have h1:=UI A b;have h2:10000*A+a=(10000*(A % b)+a)+b*(10000*(A / b)):=by
  have:10000*(b*(A / b)+A % b)=10000*A:=by rw[h1]
  rw[Nat.mul_add,Nat.mul_left_comm]at this;omega
 rw[h2,Nat.add_mul_div_left _ _ hb,VM]
theorem Mx{A a b:Nat}:(10000*A+a) % b=(10000*(A % b)+a) % b:=by
 have h1:=UI A b;have h2:10000*A+a=(10000*(A % b)+a)+b*(10000*(A / b)):=by
  have:10000*(b*(A / b)+A % b)=10000*A:=by rw[h1]
  rw[Nat.mul_add,Nat.mul_left_comm]at this;omega
 rw[h2,Nat.add_mul_mod_self_left]
theorem Qo{r a b:Nat}(hr:r<b)(ha:a<10000):(10000*r+a) / b<10000:=by refine Vy ?_;have:r+1<=b:=hr;have:=T2 10000 this;omega
theorem Ll{r a b:Nat}(hr:r<b)(ha:a<10000):10000*r+a<10000*b:=by omega
theorem Of{R b M:Nat}(hb:0<b)(hM:0<M):R / M / (b / M+1)<=R / b:=by
 refine (Wn hb).2 ?_;have h1:R / M / (b / M+1)*(b / M+1)<=R / M:=WS _ _;have h2:R / M*M<=R:=WS _ _;have h3:b<=(b / M+1)*M:=by have:=UI b M;have h4:=US b hM;rw[Ub,UN,UQ];omega
 calc R / M / (b / M+1)*b<=R / M / (b / M+1)*((b / M+1)*M):=Wf _ h3
  _=R / M / (b / M+1)*(b / M+1)*M:=by rw[Wi]
  _<=R / M*M:=T2 _ h1
  _<=R:=h2
theorem Lk{R b M:Nat}(hM:0<M)(ht:0<b / M):R / b<=R / M / (b / M):=by
 refine (Wn ht).2 ((Wn hM).2 ?_);have h1:b / M*M<=b:=WS _ _
 calc R / b*(b / M)*M=R / b*(b / M*M):=by rw[Wi]
  _<=R / b*b:=Wf _ h1
  _<=R:=WS _ _
theorem Og{R b M:Nat}(hM:0<M)(hR:R<10000*b)(ht:0<b / M)(h:M=1\/10000<=b / M):R / M / (b / M)<=10000:=by
 rcases h with rfl|h
 ·rw[WL,WL];have:R / b<10000:=Vy (by rw[UQ];exact hR);omega
 ·have h3:b<(b / M+1)*M:=by have:=UI b M;have h4:=US b hM;rw[Ub,UN,UQ];omega
  have h4:R / M<10000*(b / M+1):=by
   refine Vy ?_;have:=Nat.mul_lt_mul_of_pos_left h3 (show 0<10000 by decide);have e:10000*((b / M+1)*M)=M*(10000*(b / M+1)):=by simp only[Wi,UQ]
   omega
  refine Nat.le_of_lt_succ (Vy ?_);have e:b / M*(10000+1)=10000*(b / M)+b / M:=by omega
  rw[Nat.succ_eq_add_one,e];omega
theorem Ln{L:List Int}{i:Nat}{z:Int}(h:i<L.length):(L.set i z).drop i=z::L.drop (i+1):=by
 rw[UM (by simpa using h)];congr 1
 ·simp
 ·rw[List.drop_set,TO (by omega)]
theorem GJ{x b i:Nat}:x / 10000 ^ i / b=10000*(x / 10000 ^ (i+1) / b)+(10000*(x / 10000 ^ (i+1) % b)+x / 10000 ^ i % 10000) / b:=by rw[<-Lm,VX,<-UL];congr 1;have:=UI (x / 10000 ^ i) 10000;omega
theorem G6{x b i:Nat}:x / 10000 ^ i % b=(10000*(x / 10000 ^ (i+1) % b)+x / 10000 ^ i % 10000) % b:=by rw[<-Mx,VX,<-UL];congr 1;have:=UI (x / 10000 ^ i) 10000;omega
structure S.qI (x b n:Nat) (i:Nat) (L:List Int):Prop where
 len:L.length=n
 rng:∀z∈L,0<=z/\z<10000
 eq:S.RU (L.drop i)=((x / 10000 ^ i / b:Nat):Int)
theorem MZ{x b n:Nat}(h:x / 10000 ^ n<b):S.qI x b n n (List.replicate n 0):=by
 refine⟨by simp,λz hz=>?_,?_⟩
 ·have:=(Wl.1 hz).2;omega
 ·rw[UO h,VU (by simp)];rfl
theorem OV{x b n i q:Nat}{L:List Int}(h:S.qI x b n (i+1) L)(hb:0<b)(hi:i<n)(hq:q=(10000*(x / 10000 ^ (i+1) % b)+x / 10000 ^ i % 10000) / b):S.qI x b n i (L.set i (q:Int)):=by obtain⟨k,hr,he⟩:=h;have h1:=Qo (US (x / 10000 ^ (i+1)) hb) (US (x / 10000 ^ i) (show 0<10000 by decide));rw[<-hq]at h1;refine⟨by simpa using k,IU hr (by omega),?_⟩;rw[Ln (by omega),S.RU,he,GJ (x:=x) (b:=b) (i:=i),<-hq];omega
theorem QL{x b n:Nat}{L:List Int}(h:S.qI x b n 0 L)(hx:x<1000000000000000000000000000000000000000000000000):S.S1 L=S.dg (x / b):=by have:=Va x b;refine Aj h.rng ?_ (by omega);have he:=h.eq;rw[Nat.pow_zero,WL,VI]at he;exact he
theorem nk{R i j:Nat}(h:R<10000 ^ (i+j)):R / 10000 ^ i<10000 ^ j:=Vy (by rw[<-Nat.pow_add];exact h)
theorem xL(R j:Nat):R / 10000 ^ j=R / 10000 ^ (j+1)*10000+R / 10000 ^ j % 10000:=by have:=UI (R / 10000 ^ j) 10000;rw[VX,<-UL];omega
end
end Hx
end
section
namespace Hx
open Go
noncomputable section
theorem Pd{w:AV}{l:List Int}{k:Nat}(hw:SlR NoP k .nil l w)(hne:l≠[]){c:Nat}(hc:c<=l.length) :
  ∃w',(∀g,x_ 1 w (some (XL (c:Int))) none g=.val w')/\SlR NoP k .nil (l.drop c) w':=by
 have hlt:(l.drop c).length<9223372036854775808:=by have:=hw.1;rw[V8];omega
 have h:=hw.2;unfold SlV at h
 split at h
 ·exact absurd h hne
 ·exact absurd h hne
 ·rename_i t s rows;obtain⟨h0,h1,h2⟩:=h;have a:=h2.len;have hs:s=1:=by
   rcases h1 with e|e
   ·exact e
   ·rw[e]at a;simp at a;exact absurd a hne
  subst hs;refine⟨.tsl t 1 (rows.drop c),λg=>?_,hlt,h0,.inl rfl,h2.drop c⟩;show orV (match aY (bj rows) (bj rows) none with
   |none=>none
   | some h=>match aY 0 h (some (XL (.ofNat c))) with
    |none=>none
    |some l=>ay (Nat.beq 1 1) (some (.tsl t 1 (iQ (h - l) (gD l rows)))) none)=_
  show orV (match aY 0 (bj rows) (some (XL (.ofNat c))) with
    |none=>none
    |some l=>ay (Nat.beq 1 1) (some (.tsl t 1 (iQ (bj rows - l) (gD l rows)))) none)=_
  have:aY 0 (bj rows) (some (XL (.ofNat c)))=some c:=by show ay (Nat.ble c (bj rows)) (some c) none=_;rw[aa,TO];rw[aA,<-a];simp;omega
  rw[this];show orV (ay (Nat.beq 1 1) (some (AV.tsl t 1 (iQ (bj rows - c) (gD c rows)))) none)=_;rw[show Nat.beq 1 1=true from rfl,bif'_true,be,ba,TX (by rw[V8,aA];exact TG _)];rfl
 ·exact h.1.elim
 ·exact h.elim
theorem Lc{a b:Nat}(h:a<=b):S.Sx a b<=0:=by unfold S.Sx;split<;>first|omega| (split<;>omega)
theorem Ql{a b:Nat}(h:¬a<=b):¬S.Sx a b<=0:=by unfold S.Sx;rw[TN (by omega),TN (by omega)];omega
theorem Lj{m:Nat}(h:m<=10000):S.Tl [(m:Int)]:=λk z hz=>by
 cases k with
 |zero=>simp at hz;omega
 |succ k=>simp at hz
theorem Oe{m:Nat}(h:m<1000000000000000000000000000000000000000000000000):S.Tl (S.dg m):=λk z hz=>by have:=uZ m h z (TL hz);omega
theorem FP(g:G)(x:Int):Own (g.new (W8 1 [[XL x]])) 0 (.hsl g.nx 0 0 1 none) 1 ([x].map ci):=.inr ⟨g.nx,0,false,Uj _,by simp,rfl,by simp[aP,ci]⟩
def Dv(v w q r:AV)(n:Nat):List (Nat×AV):=[(0,v),(1,w),(6,XL (n:Int)),(7,q),(8,r)]
theorem Oh{d k i n lo hi:Nat}{v w uq rest:AV}{y R:Nat}{P:Nat->Prop}{Q:QT}{t:T}{g:G}(hd:0<d)(hw:∀h,SlR NoP k h (S.dg y) w)(hy0:0<y)(hy:y*10000<1000000000000000000000000000000000000000000000000)(hR:R<1000000000000000000000000000000000000000000000000)
  (hr:SlR P 0 g.h (S.dg R) rest) (hP:∀i,P i->i<g.nx) (ht:St t ((9,XL (i:Int))::Dv v w uq rest n)) (h13:tat t 13=XL (lo:Int)) (h14:tat t 14=XL (hi:Int)) (hlo:lo<=R / y) (hhi:R / y<=hi) (hh:hi<=10000)
  (fin:∀t g',Fr g g'->St t ((9,XL (i:Int))::Dv v w uq rest n)->tat t 13=XL ((R / y:Nat):Int)->Q (.exit 4) t [] g') :
  wpL (wp C0 d none e_) Q t [] g:=by
 refine eW (λz t df g'=>df=[]/\∃lo hi:Nat,z=hi - lo/\lo<=R / y/\R / y<=hi/\hi<=10000/\Fr g g'/\St t ((9,XL (i:Int))::Dv v w uq rest n)/\tat t 13=XL (lo:Int)/\tat t 14=XL (hi:Int)) (hi - lo)
  ⟨rfl,lo,hi,rfl,hlo,hhi,hh,Fr.refl _,ht,h13,h14⟩ ?_
 rintro z t df g' ⟨rfl,lo,hi,rfl,hlo,hhi,hh,hf,⟨h9,h0,h1,h6,h7,h8,-⟩,h13,h14⟩
 by_cases hlt:lo<hi
 ·have b:(lo:Int)<(hi:Int):=by omega
  obtain⟨mid,j⟩:∃mid:Nat,mid=(lo+hi+1) / 2:=⟨_,rfl⟩;have w1:IntKind.wrap .i64 ((lo:Int)+(hi:Int))=(lo:Int)+(hi:Int):=ap (by omega) (by omega);have l:IntKind.wrap .i64 ((lo:Int)+(hi:Int)+1)=(lo:Int)+(hi:Int)+1:=ap (by omega) (by omega);have b1:ct .quo (XL ((lo:Int)+(hi:Int)+1)) (XL 2)=.val (XL (mid:Int)):=by rw[po (by omega) (by omega) (by decide)];congr 2;omega
  have o:y*mid<=y*10000:=Wf _ (by omega);have c:mid<=R / y↔y*mid<=R:=by rw[Wn hy0,UQ]
  simp only[sz,simprocAttr,e_,h1,h13,h14,b,w1,l,b1];have ho:=FP g' (mid:Int);refine bi (Da (d:=d) (x:=y) (y:=mid) hd (hw _) (ho.sl (α:=Int) (k:=0) (P:=λ_=>True) (by simp) (RN (λa=>ax.2 rfl) _) λ_ _=>trivial) (by omega) (Lj (by omega)) (by simp) (by simp[S.RU]) (by omega)) λr hr2=>?_;simp only[sz,simprocAttr,h8];have f:Fr g (g'.new (W8 1 [[XL (mid:Int)]])):=hf.trans (Fr.new _ _);refine bi (Q:=λz=>z=XL (S.Sx (y*mid) R)) ⟨_,Ag hd (hr2.sl _) (hr.far8 (h':=(g'.new (W8 1 [[XL (mid:Int)]])).h) λi hi=>f.2 i (hP i hi)) (by omega) hR,rfl⟩ ?_;rintro _ rfl
  by_cases hle:y*mid<=R
  ·have hc:=Lc hle;simp only[sz,simprocAttr,hc];refine⟨hi - mid,by omega,mid,hi,rfl,c.2 hle,hhi,hh,f,?_,?_,?_⟩<;>simp[St,Dv,sx,h0,h1,h6,h7,h8,h9,h14]
  ·have hc:=Ql hle;have m:IntKind.wrap .i64 ((mid:Int) - 1)=((mid - 1:Nat):Int):=by rw[ap (by omega) (by omega)];omega
   have:¬mid<=R / y:=λe=>hle (c.1 e);simp only[sz,simprocAttr,hc,m];refine⟨mid - 1 - lo,by omega,lo,mid - 1,rfl,hlo,by omega,by omega,f,?_,?_,?_⟩<;>simp[St,Dv,sx,h0,h1,h6,h7,h8,h9,h13]
 ·have b:¬(lo:Int)<(hi:Int):=by omega
  have e:lo=R / y:=by omega
  simp only[sz,simprocAttr,e_,h13,h14,b];refine fin _ g' hf ?_ ?_
  ·simp[St,Dv,sx,h0,h1,h6,h7,h8,h9]
  ·simp[sx,h13,e]
theorem Oi{d k i n:Nat}{v w uq rest:AV}{y R m:Nat}{P:Nat->Prop}{Q:QT}{t:T}{g:G}(hw:∀h,SlR NoP k h (S.dg y) w)(hm:m=n - 1)(hn:n+1=(S.dg y).length)(hy:y<1000000000000000000000000000000000000000000000000)(hR:R<1000000000000000000000000000000000000000000000000)(hRy:R<10000*y)
  (hr:SlR P 0 g.h (S.dg R) rest) (ht:St t ((9,XL (i:Int))::Dv v w uq rest n)) (h10:tat t 10=XL 0) (h11:tat t 11=XL 0) (h12:tat t 12=XL ((n:Int)+1))
  (fin:∀t,St t ((9,XL (i:Int))::Dv v w uq rest n)->tat t 10=XL ((y / 10000 ^ m:Nat):Int)->tat t 11=XL ((R / 10000 ^ m:Nat):Int)->Q (.exit 2) t [] g) :
  wpL (wp C0 d none dl) Q t [] g:=by
 have L:=lq y;have yb:y<10000 ^ (n+1):=by rw[hn];exact wy hy
 have rb2:R<10000 ^ (n+2):=by rw[VX];omega
 have o:=hr.len;have x:=hr.ints;have N:=λg=>(hw .nil).len g;have A:∀h,ak h 1 w=some ((S.dg y).map ci):=λh=>(hw h).ints;have lr:=lq R;refine eW (λz t df g'=>df=[]/\g'=g/\∃j:Nat,z=j/\m<=j/\j<=n+2/\St t ((9,XL (i:Int))::Dv v w uq rest n)/\tat t 10=XL ((y / 10000 ^ j:Nat):Int)/\tat t 11=XL ((R / 10000 ^ j:Nat):Int)/\tat t 12=XL ((j:Int) - 1)) (n+2)
  ⟨rfl,rfl,n+2,rfl,by omega,by omega,ht,?_,?_,?_⟩ ?_
 ·rw[h10,UO (TU yb (UG (by decide) (by omega)))];rfl
 ·rw[h11,UO rb2];rfl
 ·rw[h12];congr 1;omega
 rintro j t df g' ⟨rfl,rfl,_,rfl,M,K,⟨h9,h0,h1,h6,h7,h8,-⟩,h10,h11,h12⟩;have w1:IntKind.wrap .i64 ((n:Int) - 1)=(n:Int) - 1:=ap (by omega) (by omega);have B:max 0 ((n:Int) - 1)=(m:Int):=by omega
 by_cases hj:m<j
 ·have f:(m:Int)<=(j:Int) - 1:=by omega
  obtain⟨k,rfl⟩:∃k,j=k+1:=⟨j - 1,by omega⟩;have ek:((k+1:Nat):Int) - 1=(k:Int):=by omega
  rw[ek]at h12 f;have f1:R / 10000 ^ (k+1)<10000 ^ 2:=TU (nk (i:=k+1) (j:=n+2 - (k+1)) (by rw[show k+1+(n+2 - (k+1))=n+2 by omega];exact rb2)) (UG (by decide) (by omega));have f2:y / 10000 ^ (k+1)<10000 ^ 2:=TU (nk (i:=k+1) (j:=n+2 - (k+1)) (by rw[show k+1+(n+2 - (k+1))=n+2 by omega];exact TU yb (UG (by decide) (by omega)))) (UG (by decide) (by omega));have D:=xL R k;have V:=xL y k;have g1:=uY k R hR;have g2:=uY k y hy;have l1:=US (R / 10000 ^ k) (show 0<10000 by decide);have l2:=US (y / 10000 ^ k) (show 0<10000 by decide);have O:10000 ^ 2=100000000:=rfl;rw[O]at f1 f2;generalize R / 10000 ^ (k+1)=F at *;generalize y / 10000 ^ (k+1)=U at *;generalize R / 10000 ^ k % 10000=a at *;generalize y / 10000 ^ k % 10000=b at *;have E:IntKind.wrap .i64 ((F:Int)*10000)=((F*10000:Nat):Int):=by rw[ap (by omega) (by omega)];omega
  have tail:∀t,St t ((9,XL (i:Int))::Dv v w uq rest n)->tat t 10=XL (U:Int)->tat t 11=XL ((R / 10000 ^ k:Nat):Int)->tat t 12=XL (k:Int) ->
    wp C0 d none fc (λe t df g2=>e=.norm/\df=[]/\g2=g'/\St t ((9,XL (i:Int))::Dv v w uq rest n)/\tat t 10=XL ((y / 10000 ^ k:Nat):Int)/\tat t 11=XL ((R / 10000 ^ k:Nat):Int)/\tat t 12=XL (k:Int)) t [] g':=by
   rintro t ⟨h9,h0,h1,h6,h7,h8,-⟩ h10 h11 h12
   by_cases hk:k<=n
   ·have c:(k:Int)<=(n:Int):=by omega
    have l:k<(S.dg y).length:=by omega
    obtain⟨q,hq,-,-⟩:=ae l;have C:k<((S.dg y).map ci).length:=by simpa using l
    have q2:((S.dg y).map ci)[k]?=some (ci q):=by rw[TK,hq];rfl
    rw[hq,TS]at g2;subst g2;have r:IntKind.wrap .i64 ((U:Int)*10000)=((U*10000:Nat):Int):=by rw[ap (by omega) (by omega)];omega
    have W:IntKind.wrap .i64 (((U*10000:Nat):Int)+(b:Int))=((y / 10000 ^ k:Nat):Int):=by rw[V,ap (by omega) (by omega)];omega
    simp only[sz,simprocAttr,fc,h1,h6,h10,h11,h12,c,A,C,q2,ci,r,W];simp[St,Dv,sx,h0,h1,h6,h7,h8,h9]
   ·have c:¬(k:Int)<=(n:Int):=by omega
    have J:b=0:=by rw[Ut (by omega),Vc]at g2;omega
    have H:y / 10000 ^ k=0:=UO (TU yb (UG (by decide) (by omega)));have s:U=0:=by omega
    simp only[sz,simprocAttr,fc,h6,h10,h11,h12,c];simp[St,Dv,sx,h0,h1,h6,h7,h8,h9,H,s]
  have u:=x
  by_cases hk:k<(S.dg R).length
  ·have c:(k:Int)<((S.dg R).length:Int):=by omega
   obtain⟨p,hp,-,-⟩:=ae hk;have C:k<((S.dg R).map ci).length:=by simpa using hk
   have q2:((S.dg R).map ci)[k]?=some (ci p):=by rw[TK,hp];rfl
   rw[hp,TS]at g1;subst g1;have r:IntKind.wrap .i64 (((F*10000:Nat):Int)+(a:Int))=((R / 10000 ^ k:Nat):Int):=by rw[D,ap (by omega) (by omega)];omega
   simp only[sz,simprocAttr,dl,h6,h8,h11,h12,w1,B,f,E,o,c,u,C,q2,ci,r];refine bE _ (tail _ (by simp[St,Dv,sx,h0,h1,h6,h7,h8,h9]) (by simp[sx,h10]) (by simp[sx]) (by simp[sx,h12])) ?_;rintro e t df g2 ⟨rfl,rfl,rfl,⟨h9,h0,h1,h6,h7,h8,-⟩,h10,h11,h12⟩;have w5:IntKind.wrap .i64 ((k:Int) - 1)=(k:Int) - 1:=ap (by omega) (by omega);simp only[sz,simprocAttr,jp,h12,w5];refine⟨k,by omega,k,rfl,by omega,by omega,?_,?_,?_,?_⟩<;>simp[St,Dv,sx,h0,h1,h6,h7,h8,h9,h10,h11]
  ·have c:¬(k:Int)<((S.dg R).length:Int):=by omega
   have I:a=0:=by rw[Ut (by omega),Vc]at g1;omega
   have r:((F*10000:Nat):Int)=((R / 10000 ^ k:Nat):Int):=by rw[D];omega
   simp only[sz,simprocAttr,dl,h6,h8,h11,h12,w1,B,f,E,o,c];refine bE _ (tail _ (by simp[St,Dv,sx,h0,h1,h6,h7,h8,h9]) (by simp[sx,h10]) (by simp[sx,r]) (by simp[sx,h12])) ?_;rintro e t df g2 ⟨rfl,rfl,rfl,⟨h9,h0,h1,h6,h7,h8,-⟩,h10,h11,h12⟩;have w5:IntKind.wrap .i64 ((k:Int) - 1)=(k:Int) - 1:=ap (by omega) (by omega);simp only[sz,simprocAttr,jp,h12,w5];refine⟨k,by omega,k,rfl,by omega,by omega,?_,?_,?_,?_⟩<;>simp[St,Dv,sx,h0,h1,h6,h7,h8,h9,h10,h11]
 ·have f:¬(m:Int)<=(j:Int) - 1:=by omega
  have e:j=m:=by omega
  subst e;simp only[sz,simprocAttr,dl,h6,h12,w1,B,f];refine fin _ ?_ ?_ ?_
  ·simp[St,Dv,sx,h0,h1,h6,h7,h8,h9]
  ·simp[sx,h10]
  ·simp[sx,h11]
end
end Hx
end
section
namespace Hx
open Go
noncomputable section
theorem SlR.wd{α:Type} [Rp α]{P P':Nat->Prop}{k:Nat}{h h':H}{l:List α}{v:AV}(r:SlR P k h l v)(hf:∀i,P i->P' i/\h'.get i=h.get i):SlR P' k h' l v:=by obtain⟨w,hw,q⟩:=Rp.mono (k':=k) (P':=P') (h':=h') (show Rp.rp P k h l [v] from ⟨v,rfl,r⟩) hf (TG _);injection hw with hw;subst hw;exact q
theorem FO(g:G){b:Nat}(hb:b<=g.nx):Own (g.new (W8 1 [])) b (.hsl g.nx 0 0 0 none) 1 []:=.inr ⟨g.nx,0,false,hb,by simp,rfl,by simp[aP]⟩
def DvJ(v w q:AV)(n x y N:Nat)(i:Nat):PT:=λt df g=>df=[]/\St t [(0,v),(1,w),(6,XL (n:Int)),(7,q)]/\∃rest L,tat t 8=rest/\Own g 0 q 1 (L.map ci)/\S.qI x y N i L/\SlR (λj=>j<g.nx/\vid q≠some j) 0 g.h (S.dg (x / 10000 ^ i % y)) rest
theorem Qp{d k i n N:Nat}{v w uq rest:AV}{x y R:Nat}{P:Nat->Prop}{Q:QT}{t:T}{g:G}{L:List Int}(hd:0<d)(hw:∀h,SlR NoP k h (S.dg y) w)(hy0:0<y)(hy:y*10000<1000000000000000000000000000000000000000000000000)(hR:R<10000*y)
  (hr:SlR P 0 g.h (S.dg R) rest) (hP:∀j,P j->j<g.nx/\vid uq≠some j) (hu:Own g 0 uq 1 (L.map ci)) (hq:S.qI x y N (i+1) L) (hi:i<N) (hRx:R=10000*(x / 10000 ^ (i+1) % y)+x / 10000 ^ i % 10000)
  (ht:St t ((9,XL (i:Int))::Dv v w uq rest n)) (h13:tat t 13=XL ((R / y:Nat):Int))
  (fin:∀t g,DvJ v w uq n x y N i t [] g->tat t 9=XL (i:Int)->Q .norm t [] g) :
  wp C0 d none jq Q t [] g:=by
 obtain⟨h9,h0,h1,h6,h7,h8,-⟩:=ht;have c:i<L.length:=by rw[hq.len];exact hi
 have m:=OV (q:=R / y) hq hy0 hi (by rw[hRx]);have ql:R / y<10000:=Vy (by rw[UQ];exact hR);have f:y*(R / y)<=R:=Nat.mul_div_le R y;have e:R - y*(R / y)=x / 10000 ^ i % y:=by rw[G6,<-hRx];have:=UI R y;omega
 obtain⟨p,hp,-,-⟩:=ae c;have r:i<(L.map ci).length:=by simpa using c
 have q2:(L.map ci)[i]?=some (ci p):=by rw[TK,hp];rfl
 have ur:=hu.rows;simp only[sz,simprocAttr,jq,h7,h9,h13,ur,r];refine bC (v:=uq) (sz:=1) (n:=1) (i:=i) (off:=0) (x:=XL ((R / y:Nat):Int)) (row':=ci ((R / y:Nat):Int)) hu q2 rfl rfl rfl λg4 hu4 n4 f4=>?_;rw[qL]at hu4;simp only[sz,simprocAttr,h1,h8,h13];refine Ak (l:=[((R / y:Nat):Int)]) (FP g4 _) (by simp) λv5 hv5=>?_;rw[Aj (n:=R / y) (by intro z hz;rw[UX.1 hz];exact⟨V6 _,Int.ofNat_lt.2 ql⟩) (by simp[S.RU]) (by omega)]at hv5;simp only[sz,simprocAttr];refine bi (Da (d:=d) (x:=y) (y:=R / y) hd (hw _) hv5 (by omega) (Oe (by omega)) (by have:=lq (R / y);omega) (qp _ (by omega)) (by omega)) λr6 hr6=>?_;simp only[sz,simprocAttr];have o:SlR (λ_=>True) 0 (g4.new (W8 1 [[XL ((R / y:Nat):Int)]])).h (S.dg R) rest:=hr.wd λj hj=>⟨trivial,by
  obtain⟨a,b⟩:=hP j hj;rw[G.new_h,au _ _ _ (by omega),f4 j b]⟩
 refine bi (Ki (d:=d) (x:=R) (y:=y*(R / y)) hd o (hr6.sl _) (by omega) f) λr8 hr8=>?_;rw[e]at hr8;simp only[sz,simprocAttr];refine fin _ _ ⟨rfl,?_,r8,_,?_,hu4.step (Fr.new _ _),m,(hr8.sl .nil).wd λ_ h=>h.elim⟩ ?_
 ·simp[St,sx,h0,h1,h6,h7]
 ·simp[sx]
 ·simp[sx,h9]
theorem vM{d k k2:Nat}{g:G}{P P2:Nat->Prop}{v w:AV}{x y:Nat}(hd:0<d)(hv:SlR P k g.h (S.dg x) v)(hw:SlR P2 k2 g.h (S.dg y) w)(hx:x<1000000000000000000000000000000000000000000000000)(hy0:0<y)(hy:y*10000<1000000000000000000000000000000000000000000000000) :
  ∃r,ah C0 d 147 [v,w] g=.val r/\pj (One (S.dg (x / y))) (One (S.dg (x % y))) NoP 0 .nil r:=by
 obtain⟨v',e1,r1⟩:=bm hv d;obtain⟨w',e2,M⟩:=bm hw d;rw[wo];have hb:=lq x;have hc:=lq y;have he:=Ii (n:=y) (by omega) (by omega);refine aL y6 (xs:=[v',w']) (by simp only[aF,e1,e2]) (by simp[jn]) (bO (m:=1) (aJ _) (aJ _) (by decide) (by decide)) (by decide) hd ?_;have n1:=λg=>(r1 .nil).len g;have n2:=λg=>(M .nil).len g;have ra:∀h',ak h' 1 v'=some ((S.dg x).map ci):=λh'=>(r1 h').ints;obtain⟨n,X⟩:∃n,n+1=(S.dg y).length:=⟨(S.dg y).length - 1,by omega⟩;have w1:IntKind.wrap .i64 (((S.dg y).length:Int) - 1)=(n:Int):=by rw[ap (by omega) (by omega)];omega
 have ybx:10000 ^ n<=y:=by have:=PA (n:=y) (by omega) (by omega);rw[<-X]at this;exact this
 by_cases hle:(S.dg x).length<=n
 ·have l:((S.dg x).length:Int)<=(n:Int):=by omega
  have hlt:x<y:=TU (TU (wy hx) (UG (by decide) hle)) ybx;simp only[sz,simprocAttr,jn,n1,n2,w1,l];refine bk (b:=0) (new:=(S.dg x).map ci) (FO _ (Uj _)) (ra _) (Uj _) (by simp[aQ];omega) λv2 g2 f n2 f2 _ l2=>?_;simp only[sz,simprocAttr];refine⟨λ_=>True,.nils,v2,rfl,?_,?_⟩
  ·rw[UO hlt];exact⟨.nils,rfl,by show 0<9223372036854775808;decide,rfl⟩
  ·rw[VR hlt];exact Own.ints (by simpa using f) (by omega)
 ·have l:¬((S.dg x).length:Int)<=(n:Int):=by omega
  obtain⟨N,hN⟩:∃N,N+n=(S.dg x).length:=⟨(S.dg x).length - n,by omega⟩;have w2:IntKind.wrap .i64 (((S.dg x).length:Int) - (n:Int))=(N:Int):=by rw[ap (by omega) (by omega)];omega
  obtain⟨w3,hs,K⟩:=Pd (c:=N) (r1 .nil) (by intro e;rw[e]at hN hle;simp at hN hle) (by omega);rw[Ig N x hx]at K;have T:x / 10000 ^ N<10000 ^ n:=nk (by rw[hN];exact wy hx);have C:x / 10000 ^ N<y:=TU T ybx;simp only[sz,simprocAttr,jn,n1,n2,w1,l,w2];refine mb (b:=0) (n:=N) (by simp[aQ];omega) (by simp[aQ];omega) (Uj _) λuq g1 hu hn1 hf1 hvid=>?_;have hu:Own g1 0 uq 1 ((List.replicate N (0:Int)).map ci):=by simpa [ci] using hu
  simp only[sz,simprocAttr,n1,w2,W4,WU,hs];have h4:=lq (x / 10000 ^ N);refine bk (b:=g1.nx) (new:=(S.dg (x / 10000 ^ N)).map ci) (FO _ (TG _)) (K.tree (TG _)).ints (by simp) (by simp[aQ];omega) λv4 g4 o n4 f4 _ l4=>?_;have o:Own g4 g1.nx v4 1 ((S.dg (x / 10000 ^ N)).map ci):=by simpa using o
  have H:Fr g1 g4:=⟨by simp at n4;omega,λi hi=>by rw[f4 i (by simp;omega) (by intro e;injection e with e;omega),G.new_h,au _ _ _ (by omega)]⟩;have J:=hu.step H;have W:cH .slice uq g4=.val (XL (N:Int)):=by rw[j9 J.rows];simp
  have w4:IntKind.wrap .i64 ((N:Int) - 1)=(N:Int) - 1:=ap (by omega) (by omega);simp only[sz,simprocAttr,W,w4,nM,nO];refine xi (m:=N) (by omega) (DvJ v' w' uq n x y N) ⟨rfl,by simp[St,sx],v4,_,by simp[sx],J,MZ C,?_⟩ (by simp[sx]) (by decide) (by rintro j t df g v s (rfl|rfl|rfl|rfl|rfl)<;>simp[DvJ,St,sx]) ?_ ?_
  ·rw[VR C];exact o.sl (by omega) (RN (λa=>ax.2 rfl) _) λi hi=>⟨(o.lt hi).2,λe=>by have:=(hu.lt e).2;have:=(o.lt hi).1;omega⟩
  ·rintro i t df g hi ⟨rfl,⟨h0,h1,h6,h7,-⟩,rest,L,h8,hu,hq,hr⟩ h9;have I:i<(S.dg x).length:=by omega
   obtain⟨p,hp,-,-⟩:=ae I;have q1:i<((S.dg x).map ci).length:=by simpa using I
   have q2:((S.dg x).map ci)[i]?=some (ci p):=by rw[TK,hp];rfl
   have gp:=uY i x hx;rw[hp,TS]at gp;have ha:=US (x / 10000 ^ i) (show 0<10000 by decide);have Y:=US (x / 10000 ^ (i+1)) hy0;obtain⟨R,hR⟩:∃R,R=10000*(x / 10000 ^ (i+1) % y)+x / 10000 ^ i % 10000:=⟨_,rfl⟩;have u:R<10000*y:=by rw[hR];exact Ll Y ha
   have h5:=lq (x / 10000 ^ (i+1) % y);have E:S.S1 (p::S.dg (x / 10000 ^ (i+1) % y))=S.dg R:=by
    refine Aj (λz hz=>?_) ?_ (by omega)
    ·rcases Us.1 hz with rfl|hz
     ·omega
     ·exact uZ _ (by omega) z hz
    ·rw[S.RU,qp _ (by omega),gp,hR];omega
   have w5:IntKind.wrap .i64 ((n:Int)+1)=(n:Int)+1:=ap (by omega) (by omega);simp only[sz,simprocAttr,h0,h8,h9,ra,q1,q2,ci];refine bk (b:=g.nx) (rows:=[p].map ci) (new:=(S.dg (x / 10000 ^ (i+1) % y)).map ci) (OS (TG _) _) (hr.far8 λj hj=>by rw[G.new_h,au _ _ _ (by omega)]).ints (by simp) (by simp[aQ];omega) λv2 g2 f n2 f2 _ l2=>?_;have f:Own g2 g.nx v2 1 ((p::S.dg (x / 10000 ^ (i+1) % y)).map ci):=by simpa using f
   have V:Fr g g2:=⟨by simp at n2;omega,λi hi=>by rw[f2 i (by simp;omega) (by intro e;injection e with e;omega),G.new_h,au _ _ _ (by omega)]⟩;simp only[sz,simprocAttr];refine Ak f (by simp;omega) λv3 hv3=>?_;rw[E]at hv3;simp only[sz,simprocAttr,h6,w5];have q:∀j,vid v2=some j->j<g2.nx/\vid uq≠some j:=λj hj=>⟨(f.lt hj).2,λe=>by have:=(hu.lt e).2;have:=(f.lt hj).1;omega⟩;obtain⟨m,hm⟩:∃m,m=n - 1:=⟨_,rfl⟩;refine Oi (i:=i) (n:=n) (v:=v') (uq:=uq) (rest:=v3) (m:=m) (R:=R) (k:=max k2 d) M hm X (by omega) (by omega) u hv3 (by simp[St,Dv,sx,h0,h1,h6,h7,h9]) (by simp[sx]) (by simp[sx]) (by simp[sx]) ?_;rintro t ⟨h9,h0,h1,h6,h7,h8,-⟩ h10 O;have D:0<10000 ^ m:=Nat.pow_pos (by decide);have B:0<y / 10000 ^ m:=Nat.div_pos (T6 (UG (by decide) (by omega)) ybx) D;have h2:10000 ^ m=1\/10000<=y / 10000 ^ m:=by
    by_cases h:m=0
    ·left;rw[h]
    ·right;refine (Wn D).2 (T6 (Nat.le_of_eq ?_) ybx);rw[show n=m+1 by omega,VX,UQ]
   have d1:=Of (R:=R) (b:=y) hy0 D;have d2:=Lk (R:=R) D B;have d3:=Og D u B h2;have t1:y / 10000 ^ m<10000 ^ 2:=nk (TU (wy (n:=y) (by omega)) (UG (by decide) (by omega)));have t2:R / 10000 ^ m<10000 ^ 3:=nk (by
    have:=wy (n:=y) (by omega);rw[<-X]at this;refine TU (m:=10000 ^ (n+2)) ?_ (UG (by decide) (by omega));rw[VX];omega)
   generalize y / 10000 ^ m=U at *;generalize R / 10000 ^ m=F at *;have p2:10000 ^ 2=100000000:=rfl;have p3:10000 ^ 3=1000000000000:=rfl;rw[p2]at t1;rw[p3]at t2;have w6:IntKind.wrap .i64 ((U:Int)+1)=((U+1:Nat):Int):=by rw[ap (by omega) (by omega)];omega
   have b1:=qR (x:=F) (y:=U+1) (by omega) (by omega);have b2:=qR (x:=F) (y:=U) (by omega) B;simp only[sz,simprocAttr,nN,h10,O,w6,b1,b2];refine Oh (d:=d+1) (i:=i) (n:=n) (v:=v') (w:=w') (uq:=uq) (rest:=v3) (y:=y) (R:=R) (k:=max k2 d) (lo:=F / (U+1)) (hi:=F / U) (TW d) M hy0 hy (by omega) hv3 (λj hj=>(q j hj).1) (by simp[St,Dv,sx,h0,h1,h6,h7,h8,h9]) (by simp[sx]) (by simp[sx]) d1 d2 d3 ?_;rintro t g3 A Z Q;simp only[sx,↓reduceIte];refine Qp (d:=d+1) (k:=max k2 d) (P:=λj=>vid v2=some j) (N:=N) (x:=x) (TW d) M hy0 hy u (hv3.far8 λj hj=>A.2 j (q j hj).1) (λj hj=>⟨TU (q j hj).1 A.1,(q j hj).2⟩) (hu.step (V.trans A)) hq hi hR Z Q ?_;rintro t g hJ h9;exact⟨hJ,h9⟩
  ·rintro t df g ⟨rfl,⟨h0,h1,h6,h7,-⟩,rest,L,h8,hu,hq,hr⟩;have h3:=hq.len;simp only[sz,simprocAttr,nP,h7];refine Ak hu (by omega) λv9 hv9=>?_;rw[QL hq hx]at hv9;rw[Nat.pow_zero,WL]at hr;simp only[sz,simprocAttr,h8];exact⟨λ_=>True,v9,rest,rfl,⟨v9,rfl,hv9.wd λ_ _=>⟨trivial,rfl⟩⟩,⟨rest,rfl,hr.wd λ_ _=>⟨trivial,rfl⟩⟩⟩
end
end Hx
end
section
namespace Hx
open Go
noncomputable section
theorem O2{d:Nat}{g:G}{v w:AV}{x y:Nat}(hd:0<d)(hv:IT 0 (S.dg x) v)(hw:IT 0 (S.dg y) w)(hx:x*10000<1000000000000000000000000000000000000000000000000)(hy:y*10000<1000000000000000000000000000000000000000000000000) :
  ∃r,ah C0 d 146 [v,w] g=.val r/\IT 0 (S.dg (Nat.gcd x y)) r:=by
 rw[zZ];refine aL DE (xs:=[v,w]) (by simp only[aF,jC d (hv.sl g.h),jC d (hw.sl g.h)]) (by simp[s_]) (aJ _) (by decide) hd ?_;simp only[sz,simprocAttr,s_];refine eW (λn t df g=>df=[]/\∃(a b:Nat) (va vb:AV),n=b/\a*10000<1000000000000000000000000000000000000000000000000/\b*10000<1000000000000000000000000000000000000000000000000/\Nat.gcd a b=Nat.gcd x y/\tat t 0=va/\tat t 1=vb/\IT 0 (S.dg a) va/\IT 0 (S.dg b) vb) y
  ⟨rfl,x,y,v,w,rfl,hx,hy,rfl,by simp[sx],by simp[sx],hv,hw⟩ ?_
 rintro b t df g ⟨rfl,a,_,va,vb,rfl,ha,hb,hg,h0,h1,c,k⟩;have hl:=k.len
 by_cases hb0:b=0
 ·subst hb0;have q0:¬((0:Int)<((S.dg 0).length:Int)):=by rw[nI];simp
  rw[Nat.gcd_zero_right]at hg;subst hg;simp only[sz,simprocAttr,mU,ta,h0,h1,hl,q0];exact⟨λ_=>True,va,rfl,(c.sl g.h).wd λ_ h=>h.elim⟩
 ·have q0:(0:Int)<((S.dg b).length:Int):=by have:=Ii (n:=b) hb0 (by omega);omega
  simp only[sz,simprocAttr,mU,h0,h1,hl,q0];refine bi (vM (d:=d+1) (TW d) (c.sl g.h) (k.sl g.h) (by omega) (WD hb0) hb) ?_;rintro _ ⟨f,e,rfl,h3,h4⟩;have hlt:=US a (WD hb0);simp only[sz,simprocAttr,h1];refine⟨a % b,hlt,b,a % b,vb,e,rfl,hb,Nat.lt_of_le_of_lt (T2 _ (Nat.le_of_lt hlt)) hb,?_,?_,?_,k,h4⟩
  ·rw[<-hg,W6 a b,W6 b (a % b),<-Nat.gcd_rec]
  ·simp[sx]
  ·simp[sx]
theorem Dc{d k:Nat}{g:G}{P:Nat->Prop}{v:AV}{x:Nat}(hd:0<d)(hv:SlR P k g.h (S.dg x) v)(hx:x<=4611686018427387903) :
  ah C0 d 148 [v] g=.val (.tup [XL (x:Int),.bool true]):=by
 have key:∃r,ah C0 d 148 [v] g=.val r/\pj (One (x:Int)) (One true) NoP 0 .nil r:=by
  obtain⟨v',e1,i⟩:=bm hv d;rw[xG];refine aL Ax (xs:=[v']) (by simp only[aF,e1]) (by simp[oP]) (bO (m:=1) (aJ _) (aJ _) (by decide) (by decide)) (by decide) hd ?_;have n1:=λg=>(i .nil).len g;have ra:∀h',ak h' 1 v'=some ((S.dg x).map ci):=λh'=>(i h').ints;have o:=lq x;have w1:IntKind.wrap .i64 (((S.dg x).length:Int) - 1)=((S.dg x).length:Int) - 1:=ap (by omega) (by omega);simp only[sz,simprocAttr,oP];obtain⟨M,y⟩:∃M:Nat,M=4611686018427387903:=⟨_,rfl⟩;have e:(M:Int)=4611686018427387903:=by omega
  have c:=λg=>xM (d:=d+1) (g:=g) (n:=M) (TW d) (by omega);rw[e]at c;refine bi (c _) λr hr=>?_;have hc:∀g,ah C0 (d+1) 162 [v',r] g=.val (XL (S.Sx x M)):=λg=>Ag (TW d) (i g.h) (hr.sl g.h) (by omega) (by omega);have f:¬(0<S.Sx x M):=by have:=Lc (a:=x) (b:=M) (by omega);omega
  simp only[sz,simprocAttr,hc,f,n1,w1,pO];refine xi (m:=(S.dg x).length) (by omega) (λj t df g=>df=[]/\St t [(0,v')]/\tat t 4=XL ((x / 10000 ^ j:Nat):Int)) ⟨rfl,by simp[St,sx],?_⟩ (by simp[sx]) (by decide) (by rintro j t df g v s (rfl|rfl|rfl|rfl|rfl)<;>simp[St,sx]) ?_ ?_
  ·rw[UO (wy (by omega))];simp[sx]
  ·rintro j t df g l ⟨rfl,⟨h0,-⟩,h4⟩ h5;obtain⟨p,hp,-,-⟩:=ae l;have ep:=uY j x (by omega);rw[hp,TS]at ep;have q:j<((S.dg x).map ci).length:=by simpa using l
   have q2:((S.dg x).map ci)[j]?=some (ci p):=by rw[TK,hp];rfl
   have hs:=xL x j;have hl:=Va x (10000 ^ j);generalize x / 10000 ^ (j+1)=F at *;generalize x / 10000 ^ j % 10000=a at *;subst ep;have u:IntKind.wrap .i64 (10000*(F:Int))=((10000*F:Nat):Int):=by rw[ap (by omega) (by omega)];omega
   have w:IntKind.wrap .i64 (((10000*F:Nat):Int)+(a:Int))=((x / 10000 ^ j:Nat):Int):=by rw[hs,ap (by omega) (by omega)];omega
   simp only[sz,simprocAttr,h0,h4,h5,ra,q,q2,ci,u,w];simp[St,sx,h0]
  ·rintro t df g ⟨rfl,⟨h0,-⟩,h4⟩;rw[Nat.pow_zero,WL]at h4;simp only[sz,simprocAttr,pP,h4];exact⟨λ_=>True,_,_,rfl,ax.2 rfl,eB.2 rfl⟩
 obtain⟨z,h1,a,b,rfl,h2,h3⟩:=key;have h2:=ax.1 h2;have h3:=eB.1 h3;injection h2 with h2;injection h3 with h3;rw[h1,h2,h3]
theorem CL{x y:Nat}(hy:0<y):0<Nat.gcd x y/\Nat.gcd x y<=y/\x / Nat.gcd x y<=x/\y / Nat.gcd x y<=y :=
 ⟨Nat.gcd_pos_of_pos_right x hy,Nat.le_of_dvd hy (Nat.gcd_dvd_right x y),Va _ _,Va _ _⟩
theorem M5{d:Nat}{g:G}{v w:AV}{x y:Nat}(hd:0<d)(hv:IT 0 (S.dg x) v)(hw:IT 0 (S.dg y) w)(hx:x<=4611686018427387903)(hy0:0<y)(hy:y<=4611686018427387903) :
  ah C0 d 116 [.bool false,v,w] g=.val (.tup [.agg [XL (S.RY x y).1,XL (S.RY x y).2],.bool true]):=by
 have key:∃r,ah C0 d 116 [.bool false,v,w] g=.val r/\pj (Agg (S.RY x y)) (One true) NoP 0 .nil r:=by obtain⟨g0,g1,g2,g3⟩:=CL (x:=x) hy0;rw[yU];refine aL B3 (xs:=[.bool false,v,w]) (by simp only[aF,KT 0,jC d (hv.sl g.h),jC d (hw.sl g.h)]) (by simp[qD]) (bO (m:=2) (cq _) (aJ _) (by decide) (by decide)) (by decide) hd ?_;simp only[sz,simprocAttr,qD,tb];refine bi (O2 (TW d) hv hw (by omega) (by omega)) λr hr=>?_;simp only[sz,simprocAttr];refine bi (vM (TW d) (hv.sl _) (hr.sl _) (by omega) g0 (by omega)) ?_;rintro _ ⟨k,e,rfl,⟨_,h3,h4⟩,-⟩;injection h3 with h3;subst h3;simp only[sz,simprocAttr];refine bi (vM (TW d) (hw.sl _) (hr.sl _) (by omega) g0 (by omega)) ?_;rintro _ ⟨c,f,rfl,⟨_,h5,h6⟩,-⟩;injection h5 with h5;subst h5;have e1:∀g,ah C0 (d+1) 148 [k] g=.val (.tup [XL ((x / Nat.gcd x y:Nat):Int),.bool true]):=λg=>Dc (TW d) (h4.tree (h':=g.h) (TG _)) (by omega);have e2:∀g,ah C0 (d+1) 148 [c] g=.val (.tup [XL ((y / Nat.gcd x y:Nat):Int),.bool true]):=λg=>Dc (TW d) (h6.tree (h':=g.h) (TG _)) (by omega);simp only[sz,simprocAttr,e1,e2,rJ];exact⟨λ_=>True,_,_,rfl,gC.2 rfl,eB.2 rfl⟩
 obtain⟨z,h1,a,b,rfl,h2,h3⟩:=key;have h3:=eB.1 h3;injection h3 with h3;rw[h1,gC.1 h2,h3]
theorem QO{d:Nat}{g:G}{x y:Nat}(hd:0<d)(hx:x<=4611686018427387903)(hy0:0<y)(hy:y<=4611686018427387903) :
  ah C0 d 40 [XL (x:Int),XL (y:Int)] g=.val (.agg [XL (S.RY x y).1,XL (S.RY x y).2]):=by
 have mk:∀(d:Nat) (g:G),0<d->ah C0 d 85 [XL (x:Int),XL (y:Int)] g=.val (.tup [.agg [XL (S.RY x y).1,XL (S.RY x y).2],.bool true]):=λd g hd=>by
  have key:∃r,ah C0 d 85 [XL (x:Int),XL (y:Int)] g=.val r/\pj (Agg (S.RY x y)) (One true) NoP 0 .nil r:=by
   rw[yT];refine aL B2 (xs:=[XL (x:Int),XL (y:Int)]) (by simp only[aF,bD 0]) (by simp[qC]) (bO (m:=2) (cq _) (aJ _) (by decide) (by decide)) (by decide) hd ?_;have h:¬((x:Int)<0):=by omega
   have q2:¬((y:Int)<0):=by omega
   have qe:wD true EqKind.bool (AV.bool false) (AV.bool false)=.val (.bool false):=rfl;simp only[sz,simprocAttr,qC,s6,h,q2,qe];refine bi (xM (TW d) (by omega)) λr hr=>?_;simp only[sz,simprocAttr];refine bi (xM (TW d) (by omega)) λr2 hr2=>?_;have e1:∀g,ah C0 (d+1) 116 [.bool false,r,r2] g=.val (.tup [.agg [XL (S.RY x y).1,XL (S.RY x y).2],.bool true]):=λg=>M5 (TW d) hr hr2 hx hy0 hy;simp only[sz,simprocAttr,e1];exact⟨λ_=>True,_,_,rfl,gC.2 rfl,eB.2 rfl⟩
  obtain⟨z,h1,a,b,rfl,h2,h3⟩:=key;have h3:=eB.1 h3;injection h3 with h3;rw[h1,gC.1 h2,h3]
 have key:∃r,ah C0 d 40 [XL (x:Int),XL (y:Int)] g=.val r/\Agg (S.RY x y) NoP 0 .nil r:=by rw[BM];refine aL E9 (xs:=[XL (x:Int),XL (y:Int)]) (by simp only[aF,bD 0]) (by simp[vz]) (cq _) (by decide) hd ?_;have e1:=λg=>mk (d+1) g (TW d);simp only[sz,simprocAttr,vz,wJ,e1];exact⟨λ_=>True,gC.2 rfl⟩
 obtain⟨z,h1,h2⟩:=key;rw[h1,gC.1 h2]
end
end Hx
end
section
namespace Hx
open Go
noncomputable section
end
end Hx
end
section
namespace Hx
open Go
noncomputable section
end
end Hx
end
section
namespace Hx
open Go
noncomputable section
structure HS (m:Causal) (c1 c2 la lb lc:AV) (p q:Nat) (gb g:G):Prop where
 fr:Fr gb g
 mp:g.h.get p=W8 3 [[XL m.grain,c1,c2]]
 ml:g.h.get q=W8 3 [[la,lb,lc]]
 pn:p<gb.nx
 q0:gb.nx<=q
 qn:q<g.nx
section
variable {m:Causal}{c1 c2 la lb lc w c28 vi c90 vj:AV}{A B Z:List Int}{p q:Nat}
end
end
end Hx
end
end
namespace Hx
open Go
noncomputable section
end
end Hx
