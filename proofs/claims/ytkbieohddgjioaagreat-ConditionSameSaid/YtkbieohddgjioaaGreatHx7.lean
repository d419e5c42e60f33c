/- A part of the proof: what the functions of the chapter compute. -/
import Derived.Test.YtkbieohddgjioaaGreatHx6
set_option linter.all false
section
section
namespace Hx
open Go
noncomputable section
theorem an{α:Type}{l:List α}{j:Nat}(h:j<l.length):∃x,l[j]?=some x/\l.take (j+1)=l.take j++[x]/\x∈l :=
 ⟨l[j],R4 h,by rw[UC,R4 h];rfl,Ta h⟩
def S.bV(l:List Int):Int:=l.foldl (λs x=>IntKind.wrap .i64 (s*x)) 1
theorem OY{d:Nat}{g:G}{v:AV}(hd:0<d)(hv:zI g.h v)(hl:(po g.h v).length<9223372036854775808) :
  am C0 d N.aP [v] g=.val (.int .i64 (S.bV (po g.h v))):=by
 obtain⟨v',e,hr,hlen⟩:=Kk hv hl d;generalize po g.h v=l at hr hlen hl ⊢;rw[xZ];refine jR AN (xs:=[v']) (by simp only[aJ,e]) (by simp[qE]) hd ?_;simp only[sz,simprocAttr,qE];refine Iv hl hlen (λj t df g=>df=[]/\tat t 3=.int .i64 (S.bV (l.take j))) ⟨rfl,by simp[sx,S.bV]⟩ (by simp[sx]) (by simp[sx]) (by decide)
  (by rintro j t df g v s (rfl|rfl|rfl|rfl|rfl|rfl|rfl)<;>simp[sx]) ?_ ?_
 ·rintro j t df g hj ⟨rfl,h3⟩ h4 h0;obtain⟨x,hx,htk,hm⟩:=an hj;simp only[sz,simprocAttr,hr,h0,h3,h4,hx,hj,Ss,R_,TY,ci,htk,S.bV,UP,T7,List.foldl_nil]
 ·rintro t df g ⟨rfl,h3⟩ -;rw[S1]at h3;simp only[sz,simprocAttr,rC,h3]
def S.cH(l:List Int)(n:Int)(i:Nat):Bool:=decide (0<=l[i]?.getD 0)&&decide (l[i]?.getD 0<n)&&(i == 0 || decide (l[i - 1]?.getD 0<l[i]?.getD 0))
def S.bP(l:List Int)(n:Int):Bool:=(List.range l.length).all (S.cH l n)
def S.aG(n:Nat):Nat:=1*2 ^ n % 18446744073709551616
def S.aw(l:List Int):Nat:=l.foldl (λs x=>s ||| S.aG x.toNat) 0
theorem oJ(n:Nat):S.aG n<18446744073709551616:=TD _ (by decide)
theorem xE{α:Type}(f:α->Nat)(hf:∀a,f a<18446744073709551616):∀(l:List α) (s:Nat),s<18446744073709551616->l.foldl (λs x=>s ||| f x) s<18446744073709551616
 |[],_,h=>h
 |a::l,s,h=>xE f hf l _ (Ms h (hf a))
theorem mr(l:List Int):S.aw l<18446744073709551616:=xE _ (λa=>oJ _) l 0 (by decide)
theorem Bz(l:List Int)(x:Int):S.aw (l++[x])=S.aw l ||| S.aG x.toNat:=by simp[S.aw]
theorem i6(k':IntKind)(n:Nat):bU .shl (.int .u64 1) (.int k' (n:Int))=.val (.int .u64 (S.aG n:Int)):=NE k' 1 n
def S.cF(s v:Nat):Bool:=s / 2 ^ v &&& 1 == 1
def S.bI(p:List Nat)(s:Nat)(j:Nat):Nat:=(List.range j).foldl (λs v=>if S.cF s v then s ||| p[v]?.getD 0 else s) s
def S.up(p:List Nat)(s:Nat)(j:Nat):Nat:=(List.range j).foldl (λs _=>S.bI p s p.length) s
theorem nN(p:List Nat)(s j:Nat):S.bI p s (j+1)=if S.cF (S.bI p s j) j then S.bI p s j ||| p[j]?.getD 0 else S.bI p s j:=by unfold S.bI;rw[Tw,UP];rfl
theorem qX(p:List Nat)(s j:Nat):S.up p s (j+1)=S.bI p (S.up p s j) p.length:=by unfold S.up;rw[Tw,UP];rfl
def S.bW(p:List Nat):Bool:=(List.range p.length).all λv=>!S.cF (S.up p (p[v]?.getD 0) p.length) v
def S.ae(l:List Int):Int:=l.foldl (·*·) 1
theorem mF(l:List Int)(x:Int):S.ae (l++[x])=S.ae l*x:=by simp[S.ae]
theorem gS{a b:Nat}(h:a<=b):(4:Int) ^ a<=4 ^ b:=by
 obtain⟨c,rfl⟩:∃c,b=a+c:=⟨b - a,by omega⟩
 induction c with
 |zero=>exact VD _
 | succ c ih =>
  have:=ih (by omega);rw[show a+(c+1)=(a+c)+1 from rfl,Int.pow_succ];have h0:(0:Int)<=4 ^ (a+c):=Int.le_of_lt (Int.pow_pos (by decide));omega
theorem bG(a:Int)(l:List Int):S.ae (a::l)=a*S.ae l:=by
 have:∀(l:List Int) (s:Int),l.foldl (·*·) s=s*l.foldl (·*·) 1:=by
  intro l
  induction l with
  |nil=>intro s;simp
  |cons x l ih=>intro s;rw[T7,ih,T7,ih (1*x),Int.one_mul,Uq]
 unfold S.ae;rw[T7,this,Int.one_mul]
theorem cg:∀{l:List Int},(∀x∈l,1<=x/\x<=4)->1<=S.ae l/\S.ae l<=4 ^ l.length
 |[],_=>⟨by decide,by decide⟩
 | a::l,h=>by
  obtain⟨h1,h2⟩:=cg (l:=l) λx hx=>h x (by simp[hx]);obtain⟨h3,h4⟩:=h a (by simp);rw[bG,SJ,Int.pow_succ,Vh (4 ^ l.length)];constructor
  ·have:=Vy h3 h1 (by decide) (by omega);simpa using this
  ·exact Vy h4 h2 (by omega) (by decide)
theorem Ay(l:List Int)(x:Int):(l++[x]).sum=l.sum+x:=by simp
def S.cX(m:Causal)(p:Int):Int:=(m.nodes[p.toNat]?.map (·.card)).getD 0
def S.da(m:Causal)(r:Int):Int:=(m.roots[r.toNat]?.map λr=>(r.length:Int)).getD 0
def S.an(a b:Nat):Nat:=a ^^^ (a &&& b)
theorem P7{n:Nat}(h:n<64):S.aG n=2 ^ n:=by unfold S.aG;rw[Tq,TK];exact Nat.pow_lt_pow_right (a:=2) (by decide) h
def S.dc(m:Causal)(x:Mech):List Int:=x.frm.map (S.cX m)++x.noise.map (S.da m)
def S.cZ(m:Causal):Int:=S.ae (m.roots.map λr=>(r.length:Int))
end
end Hx
end
section
namespace Hx
open Go
def Sub(a s:Nat):Prop:=∀v,a.testBit v=true->s.testBit v=true
theorem vQ(s v:Nat):S.cF s v=s.testBit v:=by rw[Nat.testBit_eq_decide_div_mod_eq,S.cF,Nat.and_one_is_mod];rw[Tz,beq_iff_eq,decide_eq_true_iff]
theorem Bi{a s:Nat}:S.an a s=0↔Sub a s:=by
 constructor
 ·intro h v hv;have:=congrArg (·.testBit v) h;simp[S.an,hv]at this;exact this
 ·intro h;refine Nat.eq_of_testBit_eq λv=>?_;have:=h v;simp only[S.an,Nat.testBit_xor,Ua,Nat.zero_testBit];cases ha:a.testBit v
  ·rfl
  ·rw[this ha];rfl
theorem dQ(a b v:Nat):(a ||| b).testBit v=(a.testBit v || b.testBit v):=Nat.testBit_or a b v
theorem wN{n:Nat}(h:n<64)(v:Nat):(S.aG n).testBit v=decide (n=v):=by rw[P7 h,Nat.testBit_two_pow]
section
variable {p:List Nat}
def Par(p:List Nat)(v:Nat):Nat:=p[v]?.getD 0
def Cl(p:List Nat)(s:Nat):Prop:=∀v,v<p.length->s.testBit v=true->Sub (Par p v) s
theorem BP{s t:Nat}(hc:Cl p t)(h:Sub s t):∀j,j<=p.length->Sub (S.bI p s j) t
 |0,_=>h
 | j+1,hj=>by
  have ih:=BP hc h j (by omega);rw[nN]
  split
  ·rename_i hb;rw[vQ]at hb;intro v hv;rw[dQ,SY]at hv;rcases hv with hv|hv
   ·exact ih v hv
   ·exact hc j (by omega) (ih j hb) v hv
  ·exact ih
theorem GS{s t:Nat}(hc:Cl p t)(h:Sub s t):∀j,Sub (S.up p s j) t
 |0=>h
 |j+1=>by rw[qX];exact BP hc (GS hc h j) _ (R5 _)
def IB(p:List Nat)(s:Nat):Prop:=Cl p s/\∀v,v<p.length->s.testBit v=true->(S.up p (Par p v) p.length).testBit v=false
theorem uX:S.bW p=true↔∀v,v<p.length->(S.up p (Par p v) p.length).testBit v=false:=by
 unfold S.bW;rw[Sy];constructor
 ·intro h v hv;have:=h v (Sm.2 hv);rw[vQ]at this;simpa [Par] using this
 ·intro h v hv;have:=h v (Sm.1 hv);rw[vQ];simpa [Par] using this
def bct(s:Nat):Nat->Nat
 |0=>0
 |n+1=>bct s n+(if s.testBit n then 1 else 0)
theorem Fu(s:Nat):∀n,bct s n<=n
 |0=>R5 _
 |n+1=>by have:=Fu s n;unfold bct;split<;>omega
theorem De{a s:Nat}(h:Sub a s):∀n,bct a n<=bct s n
 |0=>R5 _
 | n+1=>by
  have:=De h n;unfold bct
  split
  ·rename_i hb;rw[Sb (h n hb)];omega
  ·split<;>omega
theorem Kn{a s:Nat}(h:Sub a s){v:Nat}(hv:s.testBit v=true)(ha:a.testBit v=false):∀n,v<n->bct a n<bct s n
 |0,h0=>by omega
 | n+1,hn=>by
  unfold bct
  by_cases hvn:v=n
  ·subst hvn;have:=De h v;rw[Sb hv,ha];simp;omega
  ·have:=Kn h hv ha n (by omega)
   split
   ·rename_i hb;rw[Sb (h n hb)];omega
   ·split<;>omega
theorem Dd{s:Nat}:∀n,bct s n=n->∀v,v<n->s.testBit v=true
 |0,_,v,h=>by omega
 | n+1,h,v,hv=>by
  unfold bct at h;have:=Fu s n
  split at h
  ·rename_i hb
   by_cases e:v=n
   ·subst e;exact hb
   ·exact Dd n (by omega) v (by omega)
  ·omega
theorem wA{a s:Nat}(h:Sub a s)(h':Sub s a):a=s:=Nat.eq_of_testBit_eq λv=>by
 cases ha:a.testBit v
 ·cases hs:s.testBit v
  ·rfl
  ·rw[h' v hs]at ha;cases ha
 ·rw[h v ha]
theorem QV{a s:Nat}(h:Sub a s):a<=s:=by
 have:a ||| s=s:=Nat.eq_of_testBit_eq λv=>by
  rw[dQ];cases ha:a.testBit v
  ·simp
  ·rw[h v ha];rfl
 rw[<-this];exact Nat.left_le_or
theorem qW(s:Nat):∀j,Sub s (S.bI p s j)
 |0=>λ_ h=>h
 | j+1=>by
  have ih:=qW s j;rw[nN]
  split
  ·intro v hv;rw[dQ,ih v hv];rfl
  ·exact ih
theorem GR{s:Nat}{j k:Nat}(h:j<=k):Sub (S.bI p s j) (S.bI p s k):=by
 induction h with
 |refl=>exact λ_ h=>h
 | step _ ih =>
  rw[nN]
  split
  ·intro v hv;rw[dQ,ih v hv];rfl
  ·exact ih
theorem IQ{s:Nat}(h:S.bI p s p.length=s):Cl p s:=by
 intro v hv hb u hu;have h1:(S.bI p s v).testBit v=true:=qW s v v hb;have h2:(S.bI p s (v+1)).testBit u=true:=by rw[nN,vQ,h1,Sb rfl,dQ];have:(p[v]?.getD 0).testBit u=true:=hu;rw[this];simp
 have:=GR (p:=p) (s:=s) (show v+1<=p.length by omega) u h2;rwa [h]at this
theorem Fg{s n v:Nat}(h:s<2 ^ n)(hv:s.testBit v=true):v<n:=by
 rcases TW v n with h1|h1
 ·exact h1
 ·rw[Nat.testBit_lt_two_pow (SB h (Vg (by decide) h1))]at hv;cases hv
theorem RD{f:Nat->Nat}{n:Nat}(hm:∀j,Sub (f j) (f (j+1)))(hb:∀j,f j<2 ^ n)(hs:∀j,f (j+1)=f j->f (j+2)=f (j+1)):f (n+1)=f n:=by
 have key:∀j,j<=bct (f j) n\/f (j+1)=f j:=by
  intro j
  induction j with
  |zero=>exact .inl (S2 _)
  | succ j ih =>
   rcases ih with ih|ih
   ·by_cases e:f (j+1)=f j
    ·exact .inr (hs j e)
    ·left;have:∃v,(f (j+1)).testBit v=true/\(f j).testBit v=false:=by
      apply Tn;intro hno;apply e;refine wA (λv hv=>?_) (hm j);cases hc:(f j).testBit v
      ·exact absurd ⟨v,hv,hc⟩ hno
      ·rfl
     obtain⟨v,h1,h2⟩:=this;have:=Kn (hm j) h1 h2 n (Fg (hb _) h1);omega
   ·exact .inr (hs j ih)
 rcases key n with h|h
 ·have hc:bct (f n) n=n:=by have:=Fu (f n) n;omega
  refine wA (λv hv=>?_) (hm n);exact Dd n hc v (Fg (hb _) hv)
 ·exact h
theorem QF{a b n:Nat}(h:a<2 ^ n)(h':b<2 ^ n):a ||| b<2 ^ n:=Ut h h'
theorem Gq{v:Nat}(hp:∀x∈p,x<2 ^ p.length):Par p v<2 ^ p.length:=by
 unfold Par;cases h:p[v]? with
 |none=>exact Nat.pow_pos (by decide)
 |some x=>exact hp x (R9 h)
theorem BO(hp:∀x∈p,x<2 ^ p.length){s:Nat}(hs:s<2 ^ p.length):∀j,S.bI p s j<2 ^ p.length
 |0=>hs
 | j+1=>by
  have ih:=BO hp hs j;rw[nN]
  split
  ·exact QF ih (Gq hp)
  ·exact ih
theorem Ni(hp:∀x∈p,x<2 ^ p.length){s:Nat}(hs:s<2 ^ p.length):∀j,S.up p s j<2 ^ p.length
 |0=>hs
 |j+1=>by rw[qX];exact BO hp (Ni hp hs j) _
theorem J6(hp:∀x∈p,x<2 ^ p.length){s:Nat}(hs:s<2 ^ p.length):Cl p (S.up p s p.length):=by
 apply IQ;rw[<-qX];exact RD (f:=λj=>S.up p s j) (λj=>by rw[qX];exact qW _ _) (λj=>Ni hp hs j) (λj e=>by
  have e:S.up p s (j+1)=S.up p s j:=e;show S.up p s (j+1+1)=S.up p s (j+1);rw[qX,e,<-qX,e])
theorem yJ{s:Nat}:∀j,Sub s (S.up p s j)
 |0=>λ_ h=>h
 |j+1=>λv hv=>by rw[qX];exact qW _ _ v (yJ j v hv)
end
end Hx
end
section
namespace Hx
open Go
noncomputable section
theorem qP{a b:List Nat}(h:∀i∈a,∀j∈b,i≠j):meets a b=false:=by simp only[meets,List.any_eq_false];intro i hi hc;exact h i hi i (UM.1 hc) rfl
theorem bH{x y:Foot}(hb:x.lk.big=false)(hb2:y.lk.big=false)(hs:x.lk.sr=[])(hs2:y.lk.sr=[])(h1:∀i∈x.wr,∀j∈y.wr,i≠j)(h2:∀i∈x.wr,∀j∈y.lk.rd,i≠j)(h3:∀i∈y.wr,∀j∈x.lk.rd,i≠j) :
  cz x y=true:=by
 have m1:=qP h1;have m2:=qP h2;have m3:=qP h3;have m4:meets y.wr x.wr=false:=qP λi hi j hj e=>h1 j hj i hi e.symm;have m5:∀l:List Nat,meets l []=false:=λl=>by simp[meets]
 simp only[cz,lG,jp,hb,hb2,hs,hs2,m1,m2,m3,m4,m5,fst1,TP,UV,UQ,U2]
 split<;>split<;>rfl
theorem jS{g:G}{b sz bytes:Nat}{zero:List AV}{k1 k2:IntKind}{n:Nat}{K:AV->G->Prop}{D:ADf->Prop}(hn:n<=aY)(hb:n*bytes<=aY)(hg:b<=g.nx)
  (k:∀v' g',Own g' b v' sz (List.replicate n zero)->g'.nx=g.nx+1->(∀i,i<g.nx->g'.h.get i=g.h.get i)->vid v'=some g.nx->g'.lg=g.nx::g.lg->K v' g') :
  (Gd sz bytes zero (.int k1 (n:Int)) (.int k2 (n:Int)) g).sat K g D:=by
 show (match dP aY (.int k2 (.ofNat n)) with
  | some cn=>match dP cn (.int k1 (.ofNat n)) with
   |some ln=>aB (Nat.ble (cn*bytes) aY) (OR.upd (.hsl g.nx 0 0 ln none) (g.new (VG sz (jt cn zero)))) .fail
   |none=>.fail
  |none=>.fail).sat K g D
 simp only[dP,aa,SS,Sb hn,R5,Sb hb,if_true];refine k _ _ (.inr ⟨g.nx,0,false,hg,by simp,by simp,by simp[aS,jt]⟩) (by simp) (λi hi=>?_) rfl (by simp);rw[G.new_h,af _ _ _ (by omega)]
theorem zL(n sz id ep i off:Nat)(k:IntKind){j:Nat}(h:j<n):FW n sz (.hptr id ep i off) (.int k (j:Int))=.val (.hptr id ep i (off+j*sz)):=by show aB (Nat.blt j n) (OR.val (.hptr id ep i (off+j*sz))) .fail=_;rw[aa,Sb (by simpa using h)]
def u8v(x:UInt8):AV:=.int .u8 (x.toNat:Int)
theorem Au(l:List UInt8)(h:H)(d:Nat):snap h d aE (.agg (l.map u8v))=some (.agg (l.map u8v)):=by
 have:∀l:List UInt8,aJ (Hx.snap h d 23) (l.map u8v)=some (l.map u8v):=λl=>by
  induction l with
  |nil=>rfl
  | cons x l ih =>
   simp only[Te,aJ,ih,show Hx.snap h d 23 (u8v x)=some (u8v x) from rfl]
 show (match aJ (Hx.snap h d 23) (l.map u8v) with|some ys=>some (AV.agg ys)|none=>none)=_;rw[this]
abbrev Fo:Type:=List UInt8×UInt16×List UInt8
def S.cd(us:List UInt8):List Int:=(us.take 5).map λu=>1+(u.toNat:Int) % 4
theorem MO{P:Nat->Prop}{k:Nat}{h:H}{x:UInt16}{cs:List AV}:Rp.rp P k h x cs↔cs=[.int .u16 (x.toNat:Int)]:=by simp[Rp.rp]
theorem tM{P:Nat->Prop}{k:Nat}{h:H}{x:Fo}{cs:List AV}:Rp.rp P k h x cs↔∃a b,cs=[a,.int .u16 (x.2.1.toNat:Int),b]/\SlR P k h x.1 a/\SlR P k h x.2.2 b:=by
 constructor
 ·rintro⟨c1,c2,rfl,⟨a,rfl,h1⟩,c3,c4,rfl,h2,⟨b,rfl,h3⟩⟩;rw[MO.1 h2];exact⟨a,b,rfl,h1,h3⟩
 ·rintro⟨a,b,rfl,h1,h2⟩;exact⟨[a],[_,b],rfl,⟨a,rfl,h1⟩,[_],[b],rfl,MO.2 rfl,⟨b,rfl,h2⟩⟩
theorem IW{d k:Nat}{g:G}{P:Nat->Prop}{v:AV}{x:Fo}(hd:0<d)(hm:Agg x P k g.h v) :
  ∃r,am C0 d N.bA [v] g=.val r/\IT 0 (S.cd x.1) r:=by
 obtain⟨v',e,cs,rfl,hc⟩:=rP (dF x) (by decide) d hm;obtain⟨a,b,rfl,hA,hB⟩:=tM.1 hc;obtain⟨rows,r1,r2,r3,r4⟩:=hA.all;have r1:∀h',ak h' 1 a=some rows:=r1;rw[qu];refine bC sg (xs:=[.agg [a,.int .u16 (x.2.1.toNat:Int),b]]) (by simp only[aJ,e]) (by simp[ik]) (bm _) (by decide) hd ?_;have hL:(S.cd x.1).length=min x.1.length 5:=by simp[S.cd];omega
 simp only[sz,simprocAttr,ik,j5];refine fc (min x.1.length 5) (by omega) (λj t df g=>df=[]/\tat t 1=.hptr 0 0 0 0/\g.h.get 0=VG 3 [[a,.int .u16 (x.2.1.toNat:Int),b]]/\1<=g.nx/\∃u,tat t 3=u/\Own g 1 u 1 (((S.cd x.1).take j).map ci))
  ⟨rfl,by simp[sx],by simp[sx],by simp[sx],_,rfl,.inl ⟨by simp[sx],rfl⟩⟩ (by simp[sx]) (by decide)
  (by rintro j t df g v s (rfl|rfl|rfl)<;>simp[sx]) ?_ ?_ ?_
 ·rintro j t df g hj ⟨rfl,h1,hg,hnx,u,h3,hu⟩ h4
  by_cases hlt:(j:Int)<(x.1.length:Int)
  ·have:decide ((j:Int)<((min x.1.length 5:Nat):Int))=decide ((j:Int)<5):=by congr 1;apply propext;omega
   simp only[sz,simprocAttr,h1,h4,hg,hA.len,hlt,this];exact⟨hnx,u,h3,hu⟩
  ·have:decide ((j:Int)<((min x.1.length 5:Nat):Int))=false:=S6 (by omega);simp only[sz,simprocAttr,h1,h4,hg,hA.len,hlt,this];exact⟨hnx,u,h3,hu⟩
 ·rintro j t df g hj ⟨rfl,h1,hg,hnx,u,h3,hu⟩ h4;obtain⟨y,hy,-,-⟩:=an (l:=x.1) (j:=j) (by omega);obtain⟨z,hz,htk,-⟩:=an (l:=S.cd x.1) (j:=j) (by omega);have hzy:z=1+(y.toNat:Int) % 4:=by
   have:(S.cd x.1)[j]?=some (1+(y.toNat:Int) % 4):=by simp[S.cd,show j<5 by omega,hy]
   rw[this]at hz;injection hz with hz;exact hz.symm
  obtain⟨row,z1,z2⟩:=r3 j y hy;rw[dR.1 z2]at z1;have hlt:j<rows.length:=by omega
  have hy8:y.toNat<256:=y.toNat_lt;have m1:0<=(y.toNat:Int) % 4:=by omega
  have m2:(y.toNat:Int) % 4<4:=by omega
  simp only[sz,simprocAttr,h1,h3,h4,hg,r1,hlt,z1,eP .u8 (show (0:Int)<=(y.toNat:Int) by omega) (show (0:Int)<4 by decide),ax (show -9223372036854775808<=(y.toNat:Int) % 4 by omega) (show (y.toNat:Int) % 4<9223372036854775808 by omega),ax (show -9223372036854775808<=1+(y.toNat:Int) % 4 by omega) (show 1+(y.toNat:Int) % 4<9223372036854775808 by omega)];refine aW (new:=[ci (1+(y.toNat:Int) % 4)]) (hu.step (Fr.new _ _)) (by simp[sx,sy,ci]) (by simp) (by simp[aY];omega) λv2 g2 hv2 n2 f2 _ l2=>?_;simp only[sz,simprocAttr,h1,h4];refine⟨?_,?_,_,rfl,?_⟩
  ·rw[f2 0 (by simp) (λe=>by have:=(hu.lt e).1;omega),G.new_h,af _ _ _ (by omega),hg]
  ·simp at n2;omega
  ·rw[htk,hzy];simpa [ci] using hv2
 ·rintro t df g ⟨rfl,h1,hg,hnx,u,h3,hu⟩;rw[S5 (by omega)]at hu;simp only[sz,simprocAttr,jL,h3];exact⟨_,hu.ints (by omega)⟩
theorem Aq{g:G}{b sz:Nat}{u:AV}{rows:List (List AV)}(hu:Own g b u sz rows){n:Nat}(hn:n<=rows.length) :
  ∃y,yk sz u none (some (.int .i64 (n:Int))) g=.val y/\ak g.h sz y=some (rows.take n):=by
 rcases hu with⟨rfl,rfl⟩|⟨id,ep,lo,h1,h2,rfl,h3⟩
 ·have:n=0:=by simpa using hn
  subst this;exact⟨.nils,rfl,rfl⟩
 ·simp only[yk,nM,h3,SQ,SQ,Td,ay,SU,aa,SS,R5,if_true,bo,Un,Uu];simp only[dP];rw[show aB (n.ble rows.length) (some n) none=some n from by rw[aa,Sb (by simpa using hn)]];dsimp only
  by_cases h0:rows=[]
  ·subst h0;have:n=0:=by simpa using hn
   subst this;cases lo
   ·exact⟨_,rfl,rfl⟩
   ·exact⟨_,rfl,nI _ _ _ _⟩
  ·have hb:rows.length.beq 0=false:=by cases rows with|nil=>exact absurd rfl h0|cons a l=>rfl
   rw[hb];refine⟨_,rfl,?_⟩;rw[e_,h3,cM,Sb (by omega),Uz]
theorem Ar{g:G}{b sz:Nat}{u:AV}{rows:List (List AV)}(hu:Own g b u sz rows){n:Nat}(hn:n<=rows.length) :
  ∃y,yk sz u (some (.int .i64 (n:Int))) none g=.val y/\ak g.h sz y=some (rows.drop n):=by
 rcases hu with⟨rfl,rfl⟩|⟨id,ep,lo,h1,h2,rfl,h3⟩
 ·have:n=0:=by simpa using hn
  subst this;exact⟨.nils,rfl,rfl⟩
 ·simp only[yk,nM,h3,SQ,SQ,Td,ay,SU,aa,SS,R5,if_true,bo,Un,Uu];simp only[dP];rw[show aB (n.ble rows.length) (some n) none=some n from by rw[aa,Sb (by simpa using hn)]];dsimp only
  by_cases h0:rows.length=n
  ·subst h0;rw[Sb (SQ _),List.drop_length];cases lo
   ·exact⟨_,rfl,rfl⟩
   ·exact⟨_,rfl,nI _ _ _ _⟩
  ·rw[Sa (λe=>h0 (Tp e))];refine⟨_,rfl,?_⟩;rw[e_,h3,cM,Sb (by omega),S5 (by simp)]
def S.bU(os:List UInt8)(k:Nat):Nat:=if k<os.length then ((os[k]?.map UInt8.toNat).getD 0) % (k+1) else 0
def S.aR(os:List UInt8):Nat->List Int
 |0=>[]
 |k+1=>(S.aR os k).take (S.bU os k)++(k:Int)::(S.aR os k).drop (S.bU os k)
theorem qg(os:List UInt8):∀k,(S.aR os k).length=k
 |0=>rfl
 |k+1=>by simp only[S.aR,SZ,SJ,SL,UZ,qg os k];omega
theorem Ag{d k:Nat}{g:G}{P:Nat->Prop}{v:AV}{x:Fo}(hd:0<d)(hm:Agg x P k g.h v) :
  ∃r,am C0 d N.aB [v] g=.val r/\IT 0 (S.aR x.2.2 (min x.1.length 5)) r:=by
 obtain⟨v',e,cs,rfl,hc⟩:=rP (dF x) (by decide) d hm;obtain⟨a,b,rfl,hA,hB⟩:=tM.1 hc;have hms:∀g:G,Agg x NoP (max k d) g.h (.agg [a,.int .u16 (x.2.1.toNat:Int),b]):=λg=>⟨_,rfl,tM.2 ⟨a,b,rfl,hA.tree (R5 _),hB.tree (R5 _)⟩⟩;obtain⟨rows,r1,r2,r3,r4⟩:=hB.all;have r1:∀h',ak h' 1 b=some rows:=r1;rw[lN];refine bC mT (xs:=[.agg [a,.int .u16 (x.2.1.toNat:Int),b]]) (by simp only[aJ,e]) (by simp[dx]) (bm _) (by decide) hd ?_;have hL:(S.cd x.1).length=min x.1.length 5:=by simp[S.cd];omega
 simp only[sz,simprocAttr,dx,fQ];refine fc (min x.1.length 5) (by omega) (λj t df g=>df=[]/\tat t 1=.hptr 0 0 0 0/\g.h.get 0=VG 3 [[a,.int .u16 (x.2.1.toNat:Int),b]]/\1<=g.nx/\∃u,tat t 3=u/\Own g 1 u 1 ((S.aR x.2.2 j).map ci))
  ⟨rfl,by simp[sx],by simp[sx],by simp[sx],_,rfl,.inl ⟨by simp[sx],rfl⟩⟩ (by simp[sx]) (by decide)
  (by rintro j t df g v s (rfl|rfl|rfl)<;>simp[sx]) ?_ ?_ ?_
 ·rintro j t df g hj ⟨rfl,h1,hg,hnx,u,h3,hu⟩ h4;simp only[sz,simprocAttr,h1,h4,hg];refine kU (IW (SH d) (hms _)) λr hr=>?_;simp only[sz,simprocAttr,h1,h4,hg,(hr.sl .nil).len,hL];exact⟨hnx,u,h3,hu⟩
 ·rintro j t df g hj ⟨rfl,h1,hg,hnx,u,h3,hu⟩ h4;have hpl:((S.aR x.2.2 j).map ci).length=j:=by rw[Ss,qg]
  have hle:S.bU x.2.2 j<=j:=by
   unfold S.bU;split
   ·have:=TD (((x.2.2)[j]?.map UInt8.toNat).getD 0) (show 0<j+1 by omega);omega
   ·omega
  have key:∀(t:T) (Q:QT),tat t 1=.hptr 0 0 0 0->tat t 3=u->tat t 4=.int .i64 (j:Int)->tat t 5=.int .i64 (S.bU x.2.2 j:Int) ->
    (∀(t':T) (g':G),tat t' 1=.hptr 0 0 0 0->tat t' 4=.int .i64 (j:Int)->g'.h.get 0=VG 3 [[a,.int .u16 (x.2.1.toNat:Int),b]]->1<=g'.nx->(∃u,tat t' 3=u/\Own g' 1 u 1 ((S.aR x.2.2 (j+1)).map ci))->Q .norm t' [] g') ->
    wp C0 (d+1) none cy Q t [] g:=by
   intro t Q h1 h3 h4 h5 kk;obtain⟨y1,s1,w1⟩:=Aq hu (n:=S.bU x.2.2 j) (by omega);simp only[sz,simprocAttr,cy,h3,h5,UY,UN,s1];refine aW (rows:=[]) (b:=1) (.inl ⟨rfl,rfl⟩) w1 hnx (by simp[aY];omega) λv1 g1 hv1 n1 f1 vid1 _=>?_;simp only[sz,simprocAttr,h4];refine aW (new:=[ci (j:Int)]) (hv1.step (Fr.new _ _)) (by simp[sx,sy,ci]) (by simp) (by simp[aY,qg];omega) λv2 g2 hv2 n2 f2 vid2 _=>?_;have hu1:Own g1 1 u 1 ((S.aR x.2.2 j).map ci):=hu.fr n1 λi hi=>f1 i (hu.lt hi).2 (by simp[vid]);have hnv:∀i,i<g.nx->vid v1≠some i:=λi hi e=>by
    rcases vid1 with h|⟨i',h,hi'⟩
    ·rw[h]at e;cases e
    ·rw[h]at e;injection e with e;omega
   have hu2:Own g2 1 u 1 ((S.aR x.2.2 j).map ci):=hu1.fr (by simp at n2;omega) λi hi=>by have hlt:=(hu.lt hi).2;rw[f2 i (by simp;omega) (hnv i hlt),G.new_h,af _ _ _ (by omega)]
   obtain⟨y2,s2,w2⟩:=Ar hu2 (n:=S.bU x.2.2 j) (by omega);simp only[sz,simprocAttr,h3,h5,UY,UN,s2];refine aW hv2 w2 (by simp at n2;omega) (by simp[aY,qg];omega) λv3 g3 hv3 n3 f3 _ _=>?_;simp only[sz,simprocAttr];refine kk _ _ (by simp[sx,h1]) (by simp[sx,h4]) ?_ (by simp at n2;omega) ⟨_,rfl,?_⟩
   ·rw[f3 0 (by simp at n2;omega) (λe=>by have:=(hv2.lt e).1;omega),f2 0 (by simp) (hnv 0 (by omega)),G.new_h,af _ _ _ (by omega),f1 0 (by omega) (by simp[vid]),hg]
   ·simp only[sx,↓reduceIte];simpa [S.aR,List.map_take,List.map_drop] using hv3
  simp only[sz,simprocAttr,h1,h4,hg,hB.len];refine fI (λhb=>?_) (λhb=>?_)
  ·have hjo:j<x.2.2.length:=by simp at hb;omega
   obtain⟨y,hy⟩:∃y,x.2.2[j]?=some y:=⟨_,R4 hjo⟩;obtain⟨row,z1,z2⟩:=r3 j y hy;rw[dR.1 z2]at z1;have hy8:y.toNat<256:=y.toNat_lt;have hlt:j<rows.length:=by omega
   have hat:((S.bU x.2.2 j:Nat):Int)=(y.toNat:Int) % ((j:Int)+1):=by unfold S.bU;rw[Sb hjo,hy];simp
   simp only[sz,simprocAttr,h1,h4,hg,r1,hlt,z1,ax (show -9223372036854775808<=(y.toNat:Int) by omega) (show (y.toNat:Int)<9223372036854775808 by omega),ax (show -9223372036854775808<=(j:Int)+1 by omega) (show (j:Int)+1<9223372036854775808 by omega),eP .i64 (show (0:Int)<=(y.toNat:Int) by omega) (show 0<(j:Int)+1 by omega)];refine key _ _ (by simp[sx,h1]) (by simp[sx,h3]) (by simp[sx,h4]) (by simp[sx,hat]) λt' g' e1 e4 e0 en eu=>?_;simp only[sy,e1,e4,e0];exact⟨en,eu⟩
  ·have hat:S.bU x.2.2 j=0:=by unfold S.bU;rw[Sa];simp at hb;omega
   simp only[sx];refine key _ _ (by simp[sx,h1]) (by simp[sx,h3]) (by simp[sx,h4]) (by simp[sx,hat]) λt' g' e1 e4 e0 en eu=>?_;simp only[sy,e1,e4,e0];exact⟨en,eu⟩
 ·rintro t df g ⟨rfl,h1,hg,hnx,u,h3,hu⟩;simp only[sz,simprocAttr,fj,h3];exact⟨_,hu.ints (by rw[qg];omega)⟩
def S.cV(cards:List Int):List Int->Nat->List Int×Bool
 |vals,0=>(vals,false)
 |vals,k+1=>if (vals[k]?.getD 0)+1<(cards[k]?.getD 0) then (vals.set k ((vals[k]?.getD 0)+1),true) else S.cV cards (vals.set k 0) k
def S.cU(cards vals:List Int):List Int×Bool:=S.cV cards vals vals.length
def S.cT(cards:List Int):Nat->List Int->List (List Int)
 |0,_=>[]
 |f+1,v=>v::(if (S.cU cards v).2 then S.cT cards f (S.cU cards v).1 else [])
def S.dg(cards:List Int):List (List Int):=S.cT cards (S.ae cards).toNat (List.replicate cards.length 0)
def S.cL(l:List Int)(h:Int):Int:=l.foldr (λc q=>q / c) h
def S.cO(l:List Int)(h:Int)(i:Nat):Int:=S.cL (l.drop (i+1)) h % l[i]?.getD 1
def S.aD(l:List Int)(h:Int):List Int:=(List.range l.length).map (S.cO l h)
def S.ah:List Int->List Int->Int
 |_::cs,v::vs=>v*S.ae cs+S.ah cs vs
 |_,_=>0
def InC(cards vals:List Int):Prop:=All2 (λc v=>(0:Int)<=v/\v<c) cards vals
theorem dB:∀{cards vals:List Int},(∀c∈cards,1<=c/\c<=4)->InC cards vals->0<=S.ah cards vals/\S.ah cards vals<S.ae cards
 |[],[],_,_=>⟨VD _,by decide⟩
 | c::cs,v::vs,hc,h=>by obtain⟨a,b⟩:=dB (cards:=cs) (vals:=vs) (λx hx=>hc x (by simp[hx])) h.2;obtain⟨p1,-⟩:=cg (l:=cs) λx hx=>hc x (by simp[hx]);have hv:=h.1;rw[bG];show 0<=v*S.ae cs+S.ah cs vs/\v*S.ae cs+S.ah cs vs<c*S.ae cs;have h1:0<=v*S.ae cs:=UI hv.1 (by omega);have h2:(v+1)*S.ae cs<=c*S.ae cs:=Int.mul_le_mul_of_nonneg_right (by omega) (by omega);rw[Vf,Int.one_mul]at h2;omega
 |[],_::_,_,h=>h.elim
 |_::_,[],_,h=>h.elim
theorem InC.drop:∀{cards vals:List Int} (j:Nat),InC cards vals->InC (cards.drop j) (vals.drop j)
 |_,_,0,h=>h
 |[],[],j+1,_=>trivial
 |_::_,_::_,j+1,h=>InC.drop j h.2
 |[],_::_,_,h=>h.elim
 |_::_,[],_,h=>h.elim
theorem InC.len{cards vals:List Int}(h:InC cards vals):vals.length=cards.length:=(All2.len h).symm
theorem JW{l:List Int}(hc:∀c∈l,1<=c/\c<=4)(hl:l.length<=13):S.bV l=S.ae l:=by
 have pw:∀n,n<=13->(4:Int) ^ n<=67108864:=λn hn=>by
  have:=gS hn;have e:(4:Int) ^ 13=67108864:=by decide
  omega
 have key:∀j,j<=l.length->S.bV (l.take j)=S.ae (l.take j):=by
  intro j
  induction j with
  |zero=>intro _;rfl
  | succ j ih =>
   intro hj;obtain⟨x,hx,htk,hm⟩:=an (l:=l) (j:=j) (by omega);have ih:=ih (by omega);have hb:=cg (l:=l.take (j+1)) λy hy=>hc y (SM hy);have:=pw (l.take (j+1)).length (by simp;omega);rw[htk]at hb this ⊢;rw[mF]at hb ⊢;show S.bV (l.take j++[x])=_;unfold S.bV at ih ⊢;rw[UP,ih];show IntKind.wrap .i64 (S.ae (l.take j)*x)=_;rw[ax (by omega) (by omega)]
 have:=key l.length (R5 _);rwa [S1]at this
end
end Hx
end
section
namespace Hx
open Go
def S.c_(x:Mech)(roots:List Int)(V:Nat->Int):List Int:=(x.frm.map λq=>V q.toNat)++(x.noise.map λr=>roots[r.toNat]?.getD 0)
def S.cY(m:Causal)(roots act:List Int)(V:Nat->Int)(i:Nat)(x:Mech):Int:=if 0<=act[i]?.getD 0 then act[i]?.getD 0 else x.out[(S.ah (S.dc m x) (S.c_ x roots V)).toNat]?.getD 0
def Sol(m:Causal)(roots act:List Int)(V:Nat->Int):Prop:=∀(i:Nat) (x:Mech),m.nodes[i]?=some x->V i=S.cY m roots act V i x
noncomputable def S.V(m:Causal)(roots act:List Int):Nat->Int:=Classical.epsilon (Sol m roots act)
noncomputable def S.dh(m:Causal)(roots act:List Int):List Int:=(List.range m.nodes.length).map (S.V m roots act)
theorem zE{cards vals:List Int}(hl:cards.length=vals.length)(h:∀(i:Nat) c v,cards[i]?=some c->vals[i]?=some v->0<=v/\v<c):InC cards vals:=by
 induction cards generalizing vals with
 | nil=>cases vals with
  |nil=>trivial
  |cons v vals=>simp at hl
 | cons c cards ih=>cases vals with
  |nil=>simp at hl
  |cons v vals=>exact⟨h 0 c v rfl rfl,ih (by simpa using hl) λi c' v' h1 h2=>h (i+1) c' v' (by simpa using h1) (by simpa using h2)⟩
theorem InC.get{cards vals:List Int}(h:InC cards vals){i:Nat}{c:Int}(hc:cards[i]?=some c):∃v,vals[i]?=some v/\0<=v/\v<c:=All2.get h hc
def S.cE(cs vs:List Int)(a:Int):Int:=(cs.zip vs).foldl (λa p=>a*p.1+p.2) a
theorem uH:∀(cs vs:List Int) (a:Int),cs.length=vs.length->S.cE cs vs a=a*S.ae cs+S.ah cs vs
 |[],[],a,_=>by simp[S.cE,S.ae,S.ah]
 | c::cs,v::vs,a,h=>by show S.cE cs vs (a*c+v)=_;rw[uH cs vs _ (by simpa using h),bG];show _=_+(v*S.ae cs+S.ah cs vs);rw[Vf,Uq,Int.add_assoc]
 |[],_::_,_,h=>by simp at h
 |_::_,[],_,h=>by simp at h
end Hx
end
section
namespace Hx
open Go
noncomputable section
def hz(cs vs:List Int)(j:Nat):Int:=((cs.zip vs).take j).foldl (λa p=>a*p.1+p.2) 0
theorem InC.take{cards vals:List Int}(h:InC cards vals)(j:Nat):InC (cards.take j) (vals.take j):=All2.take h j
section
variable {d k:Nat}{m:Causal}{roots act:List Int}{V:Nat->Int}{a b w u:AV}{p1 p2 p3 p4 iu:Nat}{hid:Int}{r:Nat->Nat}
end
end
end Hx
end
section
namespace Hx
open Go
noncomputable section
theorem kP(ag:Bool)(n l sz off:Nat)(row:List AV)(g:G):rF ag n (.tptr l sz [row] 0 off) g=orV (bT ag n row off):=rfl
section
variable {d:Nat}{m:Causal}{a b:AV}
end
end
end Hx
end
section
namespace Hx
open Go
noncomputable section
theorem kG{C:Cfg}{d:Nat}{r:List SR}{t:T}{g:G}{K:AV->G->Prop}{id:Nat}(hg:g.h.get id=.dfr true)(h:xk r t (g.put id (.dfr false)) λvs=>K (jT vs) (g.put id (.dfr false))):zg C d r t [.mark id] g K:=by
 unfold zg;have:fS (I C) d [.mark id] g=some (g.put id (.dfr false)):=by simp only[fS,G.get_eq,hg]
 rw[this];exact h
def Fam(g:G)(b K:Nat)(V:Nat->AV)(W:Nat->List (List AV)):Prop :=
 (∀k,k<K->Own g b (V k) 1 (W k))/\∀k l,k<K->l<K->k≠l->∀id,vid (V k)=some id->vid (V l)≠some id
def RO(c:Nat->Int)(V:Nat->AV)(i:Nat):List AV:=[.int .i64 (c i),V (3*i+1),V (3*i+2),V (3*i+3)]
def ML(n:Nat)(c:Nat->Int)(V:Nat->AV):List (List AV):=(List.range n).map (RO c V)
structure ME where
 (n p4 q i5 p7 i9 b:Nat)
 (nv w5 w9 e7:AV)
 (gr:Int)
 (row0:List AV)
 (prow:List (List AV))
 (us:List UInt8)
structure ME.Ok (e:ME):Prop where
 ord:1<e.q/\e.q<e.p4/\e.p4<e.i5/\e.i5<e.p7/\e.p7<e.i9/\e.i9<e.b
 n1:1<=e.n/\e.n<=4
 g1:2<=e.gr/\e.gr<=12
 vn:vid e.nv=some e.q
 v5:vid e.w5=some e.i5
 v9:vid e.w9=some e.i9
 l7:SlR NoP 0 .nil e.us e.e7
structure MI (e:ME) (g:G) (V:Nat->AV) (W:Nat->List (List AV)) (c:Nat->Int) (ow:List Bool) (cap:Nat):Prop where
 h0:g.h.get 0=VG 5 [e.row0]
 h1:g.h.get 1=VG 3 [[.int .i64 0,.nils,.nils]]
 hN:Own g 0 e.nv 4 (ML e.n c V)
 h4:g.h.get e.p4=VG 3 [[.int .i64 e.gr,V 0,e.nv]]
 h5:Own g 0 e.w5 4 e.prow
 h7:∃cc:Int,0<=cc/\cc<=(cap:Int)/\g.h.get e.p7=VG 2 [[e.e7,.int .i64 cc]]
 h9:Own g 0 e.w9 1 (ow.map λx=>[.bool x])
 fam:Fam g e.b (3*e.n+1) V W
 nx:e.b<=g.nx
section
variable {e:ME}{g g':G}{V:Nat->AV}{W:Nat->List (List AV)}{c:Nat->Int}{ow:List Bool}{cap:Nat}
theorem di{v:AV}{i j:Nat}(h:vid v=some i)(h':vid v=some j):i=j:=by rw[h]at h';injection h'
structure MP (e:ME) (g:G) (V V':Nat->AV) (W:Nat->List (List AV)) (c:Nat->Int) (ow:List Bool) (cap:Nat):Prop where
 h0:g.h.get 0=VG 5 [e.row0]
 h1:g.h.get 1=VG 3 [[.int .i64 0,.nils,.nils]]
 hN:Own g 0 e.nv 4 (ML e.n c V)
 h4:g.h.get e.p4=VG 3 [[.int .i64 e.gr,V 0,e.nv]]
 h5:Own g 0 e.w5 4 e.prow
 h7:∃cc:Int,0<=cc/\cc<=(cap:Int)/\g.h.get e.p7=VG 2 [[e.e7,.int .i64 cc]]
 h9:Own g 0 e.w9 1 (ow.map λx=>[.bool x])
 fam:Fam g e.b (3*e.n+1) V' W
 nx:e.b<=g.nx
end
end
end Hx
end
section
namespace Hx
open Go
noncomputable section
structure MD (e:ME) (W:Nat->List (List AV)) (R:List (List Int)) (F N O:Nat->List Int):Prop where
 r:All2 (Rp.rp NoP 0 .nil) R (W 0)
 f:∀i,i<e.n->W (3*i+1)=(F i).map ci
 n:∀i,i<e.n->W (3*i+2)=(N i).map ci
 o:∀i,i<e.n->W (3*i+3)=(O i).map ci
theorem wJ{α β γ:Type}{R:β->γ->Prop}{f:α->β}{h:α->γ}:∀{l:List α},(∀x∈l,R (f x) (h x))->All2 R (l.map f) (l.map h)
 |[],_=>trivial
 |a::l,hl=>⟨hl a (by simp),wJ λx hx=>hl x (by simp[hx])⟩
theorem SlR.wide{α:Type} [Rp α]{P:Nat->Prop}{k k':Nat}{h h':H}{l:List α}{v:AV}(r:SlR NoP k h l v)(hk:k<=k'):SlR P k' h' l v:=by obtain⟨w,hw,q⟩:=Rp.tree (P:=P) (k':=k') (h':=h') (show Rp.rp NoP k h l [v] from ⟨v,rfl,r⟩) hk;injection hw with hw;subst hw;exact q
structure M0 (n p4 q i5 p7:Nat) (nv w5 cl:AV) (row0:List AV) (prow:List (List AV)) (gr:Int) (g:G) (cf:Nat->Int):Prop where
 h0:g.h.get 0=VG 5 [row0]
 h1:g.h.get 1=VG 3 [[.int .i64 0,.nils,.nils]]
 hN:Own g 2 nv 4 (ML n cf λ_=>.nils)
 h4:g.h.get p4=VG 3 [[.int .i64 gr,.nils,nv]]
 h5:Own g 2 w5 4 prow
 h7:g.h.get p7=VG 2 [[cl,.int .i64 0]]
 nx:p7<g.nx
section
variable {n p4 q i5 p7:Nat}{nv w5 cl:AV}{row0:List AV}{prow:List (List AV)}{gr:Int}{g g':G}{cf cf':Nat->Int}
end
end
end Hx
end
section
namespace Hx
open Go
noncomputable section
def eid:AV->Option Nat
 |.hsl id _ _ _ _=>some id
 |.hptr id _ _ _=>some id
 |_=>none
def Bx(g:G)(b:Nat)(v:AV)(row:List AV):Prop:=∃id,b<=id/\id<g.nx/\v=.hptr id 0 0 0/\g.h.get id=VG row.length [row]
inductive En where
 |sl (sz:Nat) (rows:List (List AV))
 |bx (row:List AV)
def En.ok(g:G)(b:Nat)(v:AV):En->Prop
 |.sl sz rows=>Own g b v sz rows
 |.bx row=>Bx g b v row
theorem jB{g:G}{b:Nat}{v:AV}{sz:Nat}{rows:List (List AV)}(h:Own g b v sz rows):eid v=vid v:=by rcases h with⟨rfl,-⟩|⟨id,ep,lo,h1,h2,rfl,h3⟩<;>rfl
theorem En.lt{g:G}{b:Nat}{v:AV}{e:En}(h:e.ok g b v){i:Nat}(hi:eid v=some i):b<=i/\i<g.nx:=by
 cases e with
 | sl sz rows =>
  have h:Own g b v sz rows:=h;rw[jB h]at hi;exact h.lt hi
 | bx row =>
  obtain⟨id,h1,h2,rfl,h3⟩:=h;injection hi with hi;subst hi;exact⟨h1,h2⟩
theorem En.fr{g g':G}{b:Nat}{v:AV}{e:En}(h:e.ok g b v)(hn:g.nx<=g'.nx)(hf:∀i,eid v=some i->g'.h.get i=g.h.get i):e.ok g' b v:=by
 cases e with
 | sl sz rows =>
  have h:Own g b v sz rows:=h;exact h.fr hn λi hi=>hf i (by rw[jB h];exact hi)
 | bx row =>
  obtain⟨id,h1,h2,rfl,h3⟩:=h;exact⟨id,h1,by omega,rfl,by rw[hf id rfl,h3]⟩
section
variable {κ:Type}
structure Hp (g:G) (b:Nat) (L:κ->Prop) (V:κ->AV) (E:κ->En):Prop where
 ok:∀k,L k->(E k).ok g b (V k)
 sep:∀k l,L k->L l->k≠l->∀id,eid (V k)=some id->eid (V l)≠some id
 nx:b<=g.nx
variable {g g':G}{b:Nat}{L L':κ->Prop}{V:κ->AV}{E:κ->En}{k:κ}
theorem Hp.sub(h:Hp g b L V E)(hl:∀k,L' k->L k):Hp g b L' V E:=⟨λk hk=>h.ok k (hl k hk),λk l hk hl2=>h.sep k l (hl k hk) (hl l hl2),h.nx⟩
theorem Hp.step(h:Hp g b L V E)(hn:g.nx<=g'.nx)(hf:∀i,b<=i->i<g.nx->g'.h.get i=g.h.get i):Hp g' b L V E :=
 ⟨λk hk=>En.fr (h.ok k hk) hn λi hi=>hf i (En.lt (h.ok k hk) hi).1 (En.lt (h.ok k hk) hi).2,h.sep,Sz h.nx hn⟩
theorem Hp.same(h:Hp g b L V E)(hf:g'.h=g.h)(hn:g.nx<=g'.nx):Hp g' b L V E:=h.step hn λi _ _=>by rw[hf]
theorem Hp.own(h:Hp g b L V E)(hk:L k){sz:Nat}{rows:List (List AV)}(he:E k=.sl sz rows):Own g b (V k) sz rows:=by have:=h.ok k hk;rw[he]at this;exact this
theorem Hp.box(h:Hp g b L V E)(hk:L k){row:List AV}(he:E k=.bx row):Bx g b (V k) row:=by have:=h.ok k hk;rw[he]at this;exact this
end
section
variable {κ:Type} [DecidableEq κ]
def ups{α:Type}(f:κ->α)(k:κ)(x:α):κ->α:=λj=>if j=k then x else f j
theorem aM{α:Type}(f:κ->α)(k:κ)(x:α):ups f k x k=x:=Sb rfl
theorem aw{α:Type}(f:κ->α){k j:κ}(x:α)(h:j≠k):ups f k x j=f j:=Sa h
theorem QW{α:Type}{f:κ->α}{k:κ}{x:α}(h:f k=x):ups f k x=f:=by
 funext j;by_cases e:j=k
 ·subst e;rw[aM,h]
 ·exact aw _ _ e
variable {g g':G}{b:Nat}{L L':κ->Prop}{V:κ->AV}{E:κ->En}{k:κ}
theorem Hp.set(h:Hp g b L V E){v':AV}{e':En}(hk:L k)(ho:e'.ok g' b v')(hn:g.nx<=g'.nx)(hf:∀i,b<=i->i<g.nx->eid (V k)≠some i->g'.h.get i=g.h.get i)
  (hv:eid v'=eid (V k)\/∃i,eid v'=some i/\g.nx<=i):Hp g' b L (ups V k v') (ups E k e'):=by
 refine⟨λj hj=>?_,λj l hj hl hne id e1 e2=>?_,Sz h.nx hn⟩
 ·by_cases e:j=k
  ·subst e;rw[aM,aM];exact ho
  ·rw[aw _ _ e,aw _ _ e];exact En.fr (h.ok j hj) hn λi hi=>hf i (En.lt (h.ok j hj) hi).1 (En.lt (h.ok j hj) hi).2 λe2=>h.sep j k hj hk e i hi e2
 ·have key:∀j,L j->j≠k->∀id,eid (V j)=some id->eid v'≠some id:=λj hj hne id e1 e2=>by
   rcases hv with hv|⟨i,hv,hi⟩
   ·exact h.sep j k hj hk hne id e1 (hv ▸ e2)
   ·rw[hv]at e2;injection e2 with e2;have:=(En.lt (h.ok j hj) e1).2;omega
  by_cases a:j=k
  ·subst a;rw[aM]at e1;rw[aw _ _ (To hne)]at e2;exact key l hl (To hne) id e2 e1
  ·rw[aw _ _ a]at e1
   by_cases c:l=k
   ·subst c;rw[aM]at e2;exact key j hj a id e1 e2
   ·rw[aw _ _ c]at e2;exact h.sep j l hj hl hne id e1 e2
theorem Hp.add(h:Hp g b L V E){v':AV}{e':En}(hk:¬L k)(ho:e'.ok g' b v')(hn:g.nx<=g'.nx)(hf:∀i,b<=i->i<g.nx->g'.h.get i=g.h.get i)
  (hv:∀i,eid v'=some i->g.nx<=i) (hl:∀j,L' j->L j\/j=k):Hp g' b L' (ups V k v') (ups E k e'):=by
 refine⟨λj hj=>?_,λj l hj hl2 hne id e1 e2=>?_,Sz h.nx hn⟩
 ·rcases hl j hj with hj|rfl
  ·have e:j≠k:=λe=>hk (e ▸ hj);rw[aw _ _ e,aw _ _ e];exact En.fr (h.ok j hj) hn λi hi=>hf i (En.lt (h.ok j hj) hi).1 (En.lt (h.ok j hj) hi).2
  ·rw[aM,aM];exact ho
 ·have key:∀j,L j->∀id,eid (V j)=some id->eid v'≠some id:=λj hj id e1 e2=>by have:=hv id e2;have:=(En.lt (h.ok j hj) e1).2;omega
  rcases hl j hj with hj|rfl
  ·have e:j≠k:=λe=>hk (e ▸ hj);rw[aw _ _ e]at e1;rcases hl l hl2 with hl2|rfl
   ·have e':l≠k:=λe=>hk (e ▸ hl2);rw[aw _ _ e']at e2;exact h.sep j l hj hl2 hne id e1 e2
   ·rw[aM]at e2;exact key j hj id e1 e2
  ·rw[aM]at e1;rcases hl l hl2 with hl2|rfl
   ·have e':l≠j:=λe=>hne e.symm;rw[aw _ _ e']at e2;exact key l hl2 id e2 e1
   ·exact hne rfl
theorem Hp.put(h:Hp g b L V E)(hk:L k){sz n i off:Nat}{rows:List (List AV)}{row row':List AV}(he:E k=.sl sz rows){x:AV}{K:AV->G->Prop}{D:ADf->Prop}(hr:rows[i]?=some row)
  (hl:x.cells.length=n) (ht:x.isTup=false) (hp:bw row off x.cells=some row')
  (kk:∀g',Hp g' b L V (ups E k (.sl sz (rows.set i row')))->g'.nx=g.nx->(∀i,i<b->g'.h.get i=g.h.get i)->(∀i,eid (V k)≠some i->g'.h.get i=g.h.get i)->K .undef g'):(kW n (jV sz (V k) i off) x g).sat K g D:=by
 have ho:=h.own hk he;refine cQ ho hr hl ht hp λg' hv' hn hf=>?_;have:=h.set hk (e':=.sl sz (rows.set i row')) hv' (by omega) (λi _ hi hne=>hf i (by rw[<-jB ho];exact hne)) (.inl rfl);rw[QW (f:=V) rfl]at this;exact kk g' this hn (λi hi=>hf i λe=>by have:=(ho.lt e).1;omega) λi hne=>hf i (by rw[<-jB ho];exact hne)
end
end
end Hx
end
section
namespace Hx
open Go
noncomputable section
theorem be{C:Cfg}{d:Nat}{rd:Option Nat}{l:List SI}{b:SC}{Q:QT}{t:T}{df:List ADf}{g:G}{P:PT}(h1:wpO C d rd l P t df g)(h2:∀t df g,P t df g->wp C d rd b Q t df g):wp C d rd (.seq (.ops l) b) Q t df g:=by
 rw[eM];have:wp C d rd (.ops l) (λe t df g=>e=.norm/\P t df g) t df g:=by rw[C6];simpa using h1
 refine cw _ this ?_;rintro e t df g ⟨rfl,h⟩;exact h2 t df g h
structure Bnd (K:Nat) (m:Causal):Prop where
 r:m.roots.length<=K
 rr:∀x∈m.roots,x.length<=K
 n:m.nodes.length<=K
 f:∀x∈m.nodes,x.frm.length<=K/\x.noise.length<=K/\x.out.length<=K
abbrev Ky:Type:=Nat×Nat
structure BD (K R n:Nat) (V:Ky->AV) (E:Ky->En) (Rt:Nat->List Int) (c:Nat->Int) (F:Nat->Nat->List Int):Prop where
 r:∀i,i<R->E (0,i)=.sl 1 ((Rt i).map ci)/\(Rt i).length<=K
 f:∀q i,1<=q->q<=3->i<n->E (q,i)=.sl 1 ((F q i).map ci)/\(F q i).length<=K
 rs:E (4,0)=.sl 1 ((List.range R).map λi=>[V (0,i)])
 ns:E (4,1)=.sl 4 ((List.range n).map λi=>[.int .i64 (c i),V (1,i),V (2,i),V (3,i)])
structure TI (g:G) (q:Nat) (m:Causal) (k1 k2 act u1 u2 u3:AV) (A B W:List Int):Prop where
 a1:g.h.get 1=VG 1 [[act]]
 a2:g.h.get 2=VG 3 [[.nils,.nils,.nils]]
 a4:g.h.get 4=VG 4 [[.int .i64 m.grain,k1,k2,.int .i64 (S.cZ m)]]
 bq:g.h.get q=VG 3 [[u1,u2,u3]]
 o1:Own g 5 u1 1 (A.map ci)
 o2:Own g 5 u2 1 (B.map ci)
 o3:Own g 5 u3 1 (W.map ci)
 q5:5<=q/\q<g.nx
 n1:∀i,vid u1=some i->i≠q/\vid u2≠some i/\vid u3≠some i
 n2:∀i,vid u2=some i->i≠q/\vid u3≠some i
 n3:∀i,vid u3=some i->i≠q
section
variable {g g':G}{q:Nat}{m:Causal}{k1 k2 act u1 u2 u3:AV}{A B W:List Int}
end
end
end Hx
end
section
namespace Hx
open Go
noncomputable section
theorem bI{C:Cfg}{d:Nat}{rd:Option Nat}{a b:SC}{Q:QT}{t:T}{df:List ADf}{g:G}{P:PT}(h1:wp C d rd a (λe t df g=>e=.norm/\P t df g) t df g)(h2:∀t df g,P t df g->wp C d rd b Q t df g):wp C d rd (.seq a b) Q t df g:=by rw[eM];refine cw _ h1 ?_;rintro e t df g ⟨rfl,h⟩;exact h2 t df g h
abbrev QI:=Int×Int
theorem nX{x:QI}{P:Nat->Prop}{k:Nat}{h:H}{v:AV}:Agg x P k h v↔v=.agg [.int .i64 x.1,.int .i64 x.2]:=by
 constructor
 ·rintro⟨cs,rfl,hc⟩;obtain⟨a,b,rfl,h1,h2⟩:=wx.1 hc;rw[aI.1 h1,aI.1 h2];rfl
 ·rintro rfl;exact⟨_,rfl,wx.2 ⟨[.int .i64 x.1],[.int .i64 x.2],rfl,aI.2 rfl,aI.2 rfl⟩⟩
def S.a_(n d:Nat):QI:=(((n / Nat.gcd n d:Nat):Int),((d / Nat.gcd n d:Nat):Int))
theorem OU(a:ADf)(K:AV->G->Prop)(g:G)(D:ADf->Prop):(OR.dfr a).sat K g D=D a:=rfl
theorem Oc(W:PT)(t:T)(df:List ADf)(g:G)(a:ADf):kD W none t df g a=W t (a::df) g:=rfl
theorem JS{C:Cfg}{d n:Nat}{t:T}{g:G}{f:Nat}{first cap:List AV}(h:tat t n=.clo f first cap):SO.run C d none t g (.raw (.defer ⟨.value (.tmp n),#[],#[]⟩))=.dfr (.call (.clo f [] cap) (first++[])):=by
 have:(gp AV.undef n).run t=.clo f first cap:=by rw[gp_run];exact h
 simp only[SO.run,dj,cOp,aT,bV,this]
theorem GE{C:Cfg}{d n:Nat}{t:T}{g:G}{f:Nat}{first cap:List AV}(h:tat t n=.clo f first cap):(dj C (.defer ⟨.value (.tmp n),#[],#[]⟩)).run (I C) d none t g=.dfr (.call (.clo f [] cap) (first++[])):=JS h
theorem I3{C:Cfg}{d:Nat}{r:List SR}{t:T}{g g':G}{K:AV->G->Prop}{f:Nat}{cap:List AV}{v:AV}(hc:(I C).call d f cap g=.ok v g')(h:xk r t g' λvs=>K (jT vs) g'):zg C d r t [.call (.clo f [] cap) []] g K:=by
 unfold zg;have:fS (I C) d [.call (.clo f [] cap) []] g=some g':=by simp only[fS,Sf,hc]
 rw[this];exact h
theorem EX{C:Cfg}{d:Nat}{rd:Option Nat}{t:T}{g:G}:SO.run C d rd t g (.raw (.call ⟨.builtin .recover,#[],#[]⟩))=.val .nili:=rfl
theorem E_{h:H}{id:Nat}{n:Int}(d k:Nat)(hg:h.get id=VG 1 [[.int .i64 n]]):Hx.snap h d (k+3) (.hptr id 0 0 0)=some (.tptr (Nat.max d 0) 1 [[.int .i64 n]] 0 0):=by
 simp only[Hx.snap,hg,show Nat.beq 0 0=true from rfl,aJ]
 rfl
theorem JY{h:H}{d f:Nat}{a b a' b':AV}(ha:Hx.snap h d 23 a=some a')(hb:Hx.snap h d 23 b=some b'):Hx.snap h d aE (.clo f [] [a,b])=some (.clo f [] [a',b']):=by show (match aJ (Hx.snap h d 23) [],aJ (Hx.snap h d 23) [a,b] with|some as',some cs=>some (AV.clo f as' cs)|_,_=>none)=_;simp only[aJ,ha,hb]
theorem Q_:yc true .bool (.bool false) (.bool false)=.val (.bool false):=rfl
theorem Lz{d f:Nat}{xs:List AV}{g:G}{K K':AV->G->Prop}{D D2:ADf->Prop}(h0:xs.flatMap (aC g.h aE)=[])(hs:(orF ((I Fn).call d f xs ⟨.nil,g.nx,[]⟩)).sat K' ⟨.nil,g.nx,[]⟩ D2)
  (hk:∀v g'' g',K' v g''->Fr g g'->g'.nx=g''.nx->(∀k,g''.h.get k≠.none->g'.h.get k=g''.h.get k)->(∀k∈g'.lg,k∈g.lg\/g.nx<=k)->K v g'):(zF Fn f d xs g).sat K g D:=by
 refine HF Kc (K':=K') (D2:=D2) (by rw[h0];simp) (by rw[h0];exact hs) λv g'' hv hn hl ho=>?_;rw[h0]at hl ho;have hl2:∀k∈g''.lg,g.nx<=k:=λk hk=>by have:=(hl k hk).2;simp at this;omega
 refine hk v g'' _ hv ⟨hn,λi hi=>?_⟩ rfl (λk hk=>?_) λk hk=>?_
 ·show (eX _ _ _).get i=_;rw[cX,Sa];intro h;have:=hl2 i h;omega
 ·show (eX _ _ _).get k=_;rw[cX,Sb]
  by_cases h:k∈g''.lg
  ·exact h
  ·exact absurd (by rw[ho k h];exact CF k) hk
 ·rcases SG.1 hk with h|h
  ·exact .inr (hl2 k h)
  ·exact .inl h
def S.cP(vals e:List Int)(i:Nat):Bool:=decide (e[i]?.getD 0<0) || decide (e[i]?.getD 0=vals[i]?.getD 0)
def S.bO(vals e:List Int):Bool:=(List.range e.length).all (S.cP vals e)
theorem SlR.far8{α:Type} [Rp α]{P:Nat->Prop}{k:Nat}{h h':H}{l:List α}{v:AV}(r:SlR P k h l v)(hf:∀i,P i->h'.get i=h.get i):SlR P k h' l v:=by obtain⟨w,e,q⟩:=Rp.mono (P':=P) (k':=k) (h':=h') (show Rp.rp P k h l [v] from ⟨v,rfl,r⟩) (λi hi=>⟨hi,hf i hi⟩) (R5 _);injection e with e;subst e;exact q
def S.di(s a:List Int):List Int:=(List.range s.length).map λi=>if a[i]?.getD 0<0 then -1 else s[i]?.getD 0
theorem lj{α:Type}{C:α->Prop}{S:α->VS}{j:Nat}(h:∀a,Snb (S a) j):Snb (λP k h v=>∃a,C a/\S a P k h v) j :=
 ⟨λ{P k hh v n} d r hn=>by
  obtain⟨a,c,r⟩:=r;obtain⟨v',e,r'⟩:=(h a).snap d r hn;exact⟨v',e,a,c,r'⟩,λ{k hh v n} r hn=>by
  obtain⟨a,c,r⟩:=r;exact (h a).tag r hn⟩
theorem tH:∀{A L:List Nat},A.Nodup->(∀v∈A,v∈L)->A.length<=L.length
 |[],_,_,_=>S2 _
 | a::A,L,hA,h=>by rw[U7]at hA;have ha:=h a (by simp);have:=tH (A:=A) (L:=L.erase a) hA.2 λv hv=>(List.mem_erase_of_ne (λe=>hA.1 (by rw[<-e];exact hv))).2 (h v (by simp[hv]));rw[List.length_erase_of_mem ha]at this;have:=List.length_pos_of_mem ha;simp only[SJ];omega
def Ord(p:List Nat)(L:List Nat):Prop:=(∀v,v<p.length->v∈L)/\∀(i v:Nat),L[i]?=some v->v<p.length/\∀q,(Par p v).testBit q=true->q∈L.take i
def ID(p:List Nat)(L:List Nat):Prop:=L.Nodup/\∀(i v:Nat),L[i]?=some v->v<p.length/\∀q,(Par p v).testBit q=true->q∈L.take i
theorem Mt{p L:List Nat}(h:ID p L):L.length<=p.length:=by
 have:=tH (L:=List.range p.length) h.1 λv hv=>by obtain⟨i,hi,rfl⟩:=Tl.1 hv;exact Sm.2 (h.2 i _ (R4 hi)).1
 simpa using this
theorem JC{p L:List Nat}(h:ID p L){v:Nat}(hv:v ∉ L)(hl:v<p.length)(hp:∀q,(Par p v).testBit q=true->q∈L):ID p (L++[v]):=by
 refine⟨?_,λi u hu=>?_⟩
 ·rw[List.nodup_append];exact⟨h.1,by simp,λa ha b hb=>by simp at hb;subst hb;exact λe=>hv (e ▸ ha)⟩
 ·rcases TW i L.length with hi|hi
  ·rw[So hi]at hu;obtain⟨h1,h2⟩:=h.2 i u hu;exact⟨h1,λq hq=>by rw[List.take_append_of_le_length (by omega)];exact h2 q hq⟩
  ·rw[Sj hi]at hu;have:i=L.length:=by have:=(R6.1 hu).1;simp at this;omega
   subst this;simp at hu;subst hu;exact⟨hl,λq hq=>by rw[List.take_left];exact hp q hq⟩
theorem JB{p L:List Nat}(h:ID p L)(hl:p.length<=L.length):Ord p L:=by
 refine⟨λv hv=>?_,h.2⟩
 by_cases hm:v∈L
 ·exact hm
 ·have:=tH (A:=v::L) (L:=List.range p.length) (U7.2 ⟨hm,h.1⟩) λu hu=>by
   rcases Sq.1 hu with rfl|hu
   ·exact Sm.2 hv
   ·obtain⟨i,hi,rfl⟩:=Tl.1 hu;exact Sm.2 (h.2 i _ (R4 hi)).1
  simp at this;omega
theorem Ow{p L:List Nat}(h:ID p L)(hl:L.length<p.length):∃v,v<p.length/\v ∉ L:=by
 by_cases hh:∃v,v<p.length/\v ∉ L
 ·exact hh
 ·exfalso;have:=tH (A:=List.range p.length) (L:=L) Vk λv hv=>by
   by_cases h':v∈L
   ·exact h'
   ·exact absurd ⟨v,Sm.1 hv,h'⟩ hh
  simp at this;omega
def PW(D:Nat)(L:List Nat):Prop:=D<18446744073709551616/\∀v,D.testBit v=true↔v∈L
theorem JV{D:Nat}{L:List Nat}(h:PW D L){v:Nat}(hv:v<64):PW (D ||| S.aG v) (L++[v]):=by
 refine⟨Ms h.1 (oJ v),λu=>?_⟩;rw[dQ,wN hv,SY,h.2,Sg,SG,SK];constructor
 ·rintro (h|h)
  ·exact .inl h
  ·exact .inr h.symm
 ·rintro (h|h)
  ·exact .inl h
  ·exact .inr h.symm
theorem Pn{g g':G}(hn:g.nx<=g'.nx)(h:∀i,i<g.nx->g'.h.get i=g.h.get i):Fr g g':=⟨hn,h⟩
theorem xU{C:Cfg}{d:Nat}{rd:Option Nat}{body:SC}{c ti k B b:Nat}{Q:QT}{m:Nat}{lim:Int}(hlim:lim=(m:Int))(hm:m<9223372036854775808)(J:Nat->PT){t:T}{df:List ADf}{g:G}
  (h0:J 0 t df g) (hi:tat t ti=.int .i64 0) (hc:c≠ti/\b≠B)
  (hJ:∀j t df g v s,s=c\/s=ti\/s=k->J j t df g->J j (fq t s v) df g)
  (step:∀j t df g,j<m->J j t df g->tat t ti=.int .i64 (j:Int)->wp C d rd body (kR (λt df g=>J (j+1) t df g/\tat t ti=.int .i64 (j:Int)) b Q) t df g)
  (fin:∀t df g,J m t df g->Q (.exit B) t df g) :
  wpL (wp C d rd (.seq (.ops [o c (.bin .lss (.t ti) (.k (.int .i64 lim)))]) (.seq (.cond (.t c) .skip (.exit B)) (.seq (.blk b body) (.ops [o k (.bin .add (.t ti) (.k (.int .i64 1))),o ti (.mv (.t k))]))))) Q t df g:=by
 subst hlim;obtain⟨c1,c5⟩:=hc;refine jZ (λn t df g=>∃j:Nat,n=m - j/\j<=m/\J j t df g/\tat t ti=.int .i64 (j:Int)) m ⟨0,by omega,by omega,h0,hi⟩ ?_;rintro n t df g ⟨j,rfl,hj,hjj,h1⟩;simp only[sz,simprocAttr,h1];refine⟨λhq=>?_,λhq=>?_⟩
 ·have hlt:j<m:=by simpa using hq
  simp only[sx];refine cw _ (step j _ df g hlt (hJ _ _ _ _ _ _ (.inl rfl) hjj) (by simp only[lJ];rw[Sa (To c1),h1])) λe t df g h=>?_;have key:J (j+1) t df g/\tat t ti=.int .i64 (j:Int)->wp C d rd (.ops [o k (.bin .add (.t ti) (.k (.int .i64 1))),o ti (.mv (.t k))])
    (kL (λn t df g=>∃j:Nat,n=m - j/\j<=m/\J j t df g/\tat t ti=.int .i64 (j:Int)) (m - j) Q) t df g:=by
   rintro⟨a1,a2⟩;simp only[sz,simprocAttr,a2];refine⟨_,?_,j+1,rfl,by omega,hJ _ _ _ _ _ _ (.inr (.inl rfl)) (hJ _ _ _ _ _ _ (.inr (.inr rfl)) a1),?_⟩
   ·omega
   ·rw[ax (by omega) (by omega)];rfl
  cases e with
  |norm=>exact key h
  |ret=>exact h
  | exit x =>
   rw[ox]at h;rw[qK]
   split at h
   ·rename_i e;rw[Sb e];exact key h
   ·rename_i e;rw[Sa e];exact h
 ·have:j=m:=by simp at hq;omega
  subst this;simp only[sx];exact fin _ _ _ (hJ _ _ _ _ _ _ (.inl rfl) hjj)
section
variable {m:Causal}{c1 c2 l w c9 v35 ls v48:AV}{al:List Int}{hid kk:Int}{p:Nat}
end
end
end Hx
end
section
namespace Hx
open Go
noncomputable section
theorem Gb(l:List Int)(j:Nat)(x:Int):(l.map ci).set j (ci x)=(l.set j x).map ci:=by rw[TQ]
theorem CN{x y:Nat}(hy:0<y):bU .rem (.int .i64 (x:Int)) (.int .i64 (y:Int))=.val (.int .i64 ((x % y:Nat):Int)):=by rw[eP .i64 (UJ x) (by omega),<-Int.natCast_emod]
theorem Oz{x:Nat}(h:x<9223372036854775808):unV .neg (.int .i64 (x:Int))=.val (.int .i64 (-(x:Int))):=by
 have e:unV .neg (.int .i64 (x:Int))=.val (.int .i64 (IntKind.wrap .i64 (-(x:Int)))):=by
  cases x with
  |zero=>rfl
  | succ n =>
   show orV (qi (Op.unary .neg (.int .i64 (.ofNat (n+1)))))=_;unfold qi Op.unary
   rfl
 rw[e,ax (by omega) (by omega)]
theorem yE{x y:Nat}(hx:x<9223372036854775808)(hy:0<y):bU .quo (.int .i64 (x:Int)) (.int .i64 (y:Int))=.val (.int .i64 ((x / y:Nat):Int)):=by have hle:x / y<=x:=T9 _ _;rw[BY .i64 (UJ x) (by omega),<-Int.natCast_ediv];generalize x / y=z at hle;rw[ax (by omega) (by omega)]
def S.bX:List Int->Int
 |[]=>0
 |x::l=>x+10000*S.bX l
structure S.tI (bl:List Int) (n i:Nat) (V ai:Int) (k:Nat) (c:Int) (L:List Int):Prop where
 len:L.length=n
 rng:∀x∈L,0<=x/\x<10000
 zer:∀j,i+bl.length<=j->i+k<=j->L[j]?.getD 0=0
 kle:k<=bl.length+1
 c0:0<=c
 c1:c<10000
 ce:k=bl.length+1->c=0
 cs:k=0->c=0
 eq:S.bX L+c*10000 ^ (i+k)=V+ai*10000 ^ i*S.bX (bl.take k)
structure S.tO (al bl:List Int) (i:Nat) (L:List Int):Prop where
 len:L.length=al.length+bl.length
 rng:∀x∈L,0<=x/\x<10000
 zer:∀j,i+bl.length<=j->L[j]?.getD 0=0
 eq:S.bX L=S.bX (al.take i)*S.bX bl
structure S.mI (al bl:List Int) (i:Nat) (r:Int) (L:List Int):Prop where
 len:L.length=i
 rng:∀x∈L,0<=x/\x<10000
 r01:r=0\/r=1
 eq:S.bX L=S.bX (al.take i) - S.bX (bl.take i)+r*10000 ^ i
theorem Kp{x y:Int}(h0:0<=x)(h1:x<9223372036854775808)(hy:0<y):bU .quo (.int .i64 x) (.int .i64 y)=.val (.int .i64 (x / y)):=by obtain⟨n,rfl⟩:=R8 h0;obtain⟨m,rfl⟩:=R8 (by omega:0<=y);have:=yE (x:=n) (y:=m) (by omega) (by omega);rw[this,Int.natCast_ediv]
structure S.qI (x b n:Nat) (i:Nat) (L:List Int):Prop where
 len:L.length=n
 rng:∀z∈L,0<=z/\z<10000
 eq:S.bX (L.drop i)=((x / 10000 ^ i / b:Nat):Int)
theorem SlR.wd{α:Type} [Rp α]{P P':Nat->Prop}{k:Nat}{h h':H}{l:List α}{v:AV}(r:SlR P k h l v)(hf:∀i,P i->P' i/\h'.get i=h.get i):SlR P' k h' l v:=by obtain⟨w,hw,q⟩:=Rp.mono (k':=k) (P':=P') (h':=h') (show Rp.rp P k h l [v] from ⟨v,rfl,r⟩) hf (R5 _);injection hw with hw;subst hw;exact q
theorem Ji{x y:Nat}(hy:0<y):0<Nat.gcd x y/\Nat.gcd x y<=y/\x / Nat.gcd x y<=x/\y / Nat.gcd x y<=y :=
 ⟨Nat.gcd_pos_of_pos_right x hy,Nat.le_of_dvd hy (Nat.gcd_dvd_right x y),T9 _ _,T9 _ _⟩
structure HS (m:Causal) (c1 c2 la lb lc:AV) (p q:Nat) (gb g:G):Prop where
 fr:Fr gb g
 mp:g.h.get p=VG 3 [[.int .i64 m.grain,c1,c2]]
 ml:g.h.get q=VG 3 [[la,lb,lc]]
 pn:p<gb.nx
 q0:gb.nx<=q
 qn:q<g.nx
section
variable {m:Causal}{c1 c2 la lb lc w c28 vi c90 vj:AV}{A B Z:List Int}{p q:Nat}
end
end
end Hx
end
end
section
namespace Hx
open Go
section
variable {p:List Nat}
theorem Bq:IB p 0:=⟨λv _ hb=>by simp at hb,λv _ hb=>by simp at hb⟩
theorem D8{q:Nat}(ih:IB p q){j:Nat}(hj:j<64)(hd:Sub (Par p j) q):IB p (q ||| S.aG j):=by
 refine⟨λv hv hb=>?_,λv hv hb=>?_⟩
 ·intro u hu;rw[dQ,wN hj,SY,Sg]at hb;rw[dQ,SY];rcases hb with hb|hb
  ·exact .inl (ih.1 v hv hb u hu)
  ·subst hb;exact .inl (hd u hu)
 ·rw[dQ,wN hj,SY,Sg]at hb;cases hq:q.testBit v
  ·rw[hq]at hb;simp at hb;subst hb;rw[<-Ub];intro hu;have:=GS ih.1 hd p.length j hu;rw[hq]at this;cases this
  ·exact ih.2 v hv hq
theorem uY{q:Nat}(h:IB p q)(hf:∀v,v<p.length->q.testBit v=true):S.bW p=true :=
 uX.2 λv hv=>h.2 v hv (hf v hv)
theorem BV(hp:∀x∈p,x<2 ^ p.length)(h:S.bW p=true){T:Nat}(hst:∀v,v<p.length->T.testBit v=false->¬Sub (Par p v) T):∀v,v<p.length->T.testBit v=true:=by
 rw[uX]at h;have none:∀r v,v<p.length->T.testBit v=false->S.up p (Par p v) p.length=r->False:=by
  intro r
  induction r using Nat.strongRecOn with
  | _ r ih =>
   intro v hv hb hr;have hns:=hst v hv hb;have:∃u,(Par p v).testBit u=true/\T.testBit u=false:=by
    apply Tn;intro hno;apply hns;intro u hu;cases hc:T.testBit u
    ·exact absurd ⟨u,hu,hc⟩ hno
    ·rfl
   obtain⟨u,hu,hub⟩:=this;have hul:u<p.length:=Fg (Gq hp) hu;have hcl:=J6 hp (s:=Par p v) (Gq hp);have hin:(S.up p (Par p v) p.length).testBit u=true:=yJ _ u hu;have hsub:Sub (S.up p (Par p u) p.length) (S.up p (Par p v) p.length):=GS hcl (hcl u hul hin) _;have hlt:S.up p (Par p u) p.length<S.up p (Par p v) p.length:=by refine Nat.lt_of_le_of_ne (QV hsub) λe=>?_;have:=h u hul;rw[e,hin]at this;cases this
   exact ih _ (by omega) u hul hub rfl
 intro v hv;cases hc:T.testBit v
 ·exact (none _ v hv hc rfl).elim
 ·rfl
end
end Hx
end
section
namespace Hx
open Go
theorem qh:∀a b:List Int,S.ae (a++b)=S.ae a*S.ae b
 |[],b=>by simp[S.ae]
 |x::a,b=>by rw[Sd,bG,bG,qh a b,Uq]
theorem tF:∀{a va:List Int} (b vb:List Int),a.length=va.length->S.ah (a++b) (va++vb)=S.ah a va*S.ae b+S.ah b vb
 |[],[],b,vb,_=>by simp[S.ah]
 |[],_::_,_,_,h=>by simp at h
 |_::_,[],_,_,h=>by simp at h
 | c::a,v::va,b,vb,h=>by rw[Sd,Sd,S.ah,S.ah,tF b vb (by simpa using h),qh,Vf,Uq];omega
theorem EO:∀{cs vs:List Int} (a:Int),(∀c∈cs,1<=c)->InC cs vs->S.cL cs (a*S.ae cs+S.ah cs vs)=a
 |[],[],a,_,_=>by simp[S.cL,S.ae,S.ah]
 |[],_::_,_,_,h=>by cases h
 |_::_,[],_,_,h=>by cases h
 | c::cs,v::vs,a,hc,h=>by
  obtain⟨⟨h1,h2⟩,h3⟩:=h;have ih:=EO (cs:=cs) (vs:=vs) (a*c+v) (λx hx=>hc x (by simp[hx])) h3;have e:a*S.ae (c::cs)+S.ah (c::cs) (v::vs)=(a*c+v)*S.ae cs+S.ah cs vs:=by rw[bG,S.ah,Vf,Uq];omega
  rw[e];show S.cL cs _ / c=a;rw[ih,Int.add_comm,Int.add_mul_ediv_right _ _ (by omega),Int.ediv_eq_zero_of_lt h1 h2];omega
theorem Bj:∀{cs vs:List Int} (a:Int) (i:Nat),(∀c∈cs,1<=c)->InC cs vs->i<cs.length->S.cO cs (a*S.ae cs+S.ah cs vs) i=vs[i]?.getD 0
 |[],_,_,_,_,_,hi=>by simp at hi
 |_::_,[],_,_,_,h,_=>by cases h
 | c::cs,v::vs,a,i,hc,h,hi=>by
  obtain⟨⟨h1,h2⟩,h3⟩:=h;have hc':∀x∈cs,1<=x:=λx hx=>hc x (by simp[hx]);have e:a*S.ae (c::cs)+S.ah (c::cs) (v::vs)=(a*c+v)*S.ae cs+S.ah cs vs:=by rw[bG,S.ah,Vf,Uq];omega
  rw[e];cases i with
  | zero =>
   show S.cL cs _ % c=v;rw[EO _ hc' h3,Int.add_comm,Int.add_mul_emod_self_right,Vd h1 h2]
  | succ i =>
   have:=Bj (a*c+v) i hc' h3 (by simpa using hi);simpa [S.cO] using this
theorem uV{cs vs:List Int}(hc:∀c∈cs,1<=c)(h:InC cs vs):S.aD cs (S.ah cs vs)=vs:=by
 have hl:=h.len;refine Vj (by simp[S.aD,hl]) λi h1 h2=>?_;have hi:i<cs.length:=by simpa [S.aD] using h1
 have:=Bj 0 i hc h hi;rw[Int.zero_mul,Int.zero_add,R4 h2,Se]at this;simp[S.aD,this]
theorem AA{cs:List Int}(hc:∀c∈cs,1<=c)(h:Int):InC cs (S.aD cs h):=by refine zE (by simp[S.aD]) λi c v h1 h2=>?_;have hi:=(R6.1 h1).1;rw[S.aD,R_,UU hi,TY,S9]at h2;have hcc:=hc c (R9 h1);rw[<-h2,S.cO,h1,Se];exact⟨Int.emod_nonneg _ (by omega),Vt _ (by omega)⟩
theorem GU(cs:List Int)(h:Int):(S.aD cs h).length=cs.length:=by simp[S.aD]
theorem gT:∀{cs:List Int},(∀c∈cs,1<=c)->1<=S.ae cs
 |[],_=>by decide
 | c::cs,h=>by rw[bG];have h1:=h c (by simp);have h2:=gT (cs:=cs) λx hx=>h x (by simp[hx]);exact Int.le_trans h1 (by have:=Int.mul_le_mul_of_nonneg_left h2 (show 0<=c by omega);omega)
theorem vP:∀(cs:List Int) (n:Nat),S.ah cs (List.replicate n 0)=0
 |[],n=>by cases n<;>rfl
 |_::_,0=>rfl
 |c::cs,n+1=>by rw[Ue,S.ah,vP cs n];simp
theorem yx:∀{cs vs:List Int},cs.length=vs.length->(∀(i:Nat) (c:Int),cs[i]?=some c->vs[i]?.getD 0=c - 1)->S.ah cs vs=S.ae cs - 1
 |[],[],_,_=>by decide
 |[],_::_,h,_=>by simp at h
 |_::_,[],h,_=>by simp at h
 | c::cs,v::vs,hl,h=>by
  have h0:=h 0 c rfl;have ih:=yx (cs:=cs) (vs:=vs) (by simpa using hl) λi x hx=>by have:=h (i+1) x (by simpa using hx);simpa using this
  simp at h0;rw[S.ah,ih,bG,h0,Int.sub_mul];omega
theorem D9{cs vs:List Int}(hl:cs.length=vs.length){i:Nat}{x:Int}(hi:vs[i]?=some x)(hm:∀(j:Nat) (c:Int),i<j->cs[j]?=some c->vs[j]?.getD 0=c - 1) :
  S.ah cs (vs.take i++(x+1)::List.replicate (vs.length - (i+1)) 0)=S.ah cs vs+1:=by
 have hil:=(R6.1 hi).1;obtain⟨c,hc⟩:∃c,cs[i]?=some c:=⟨_,R4 (by omega)⟩;have e1:cs=cs.take i++c::cs.drop (i+1):=by have:=Tf (l:=cs) (i:=i) (by omega);rw[R4 (by omega),S9]at hc;rw[<-hc,<-this,SW]
 have e2:vs=vs.take i++x::vs.drop (i+1):=by have:=Tf (l:=vs) (i:=i) hil;rw[R4 hil,S9]at hi;rw[<-hi,<-this,SW]
 have hlt:(cs.take i).length=(vs.take i).length:=by simp[hl]
 have hmx:S.ah (cs.drop (i+1)) (vs.drop (i+1))=S.ae (cs.drop (i+1)) - 1:=by refine yx (by simp[hl]) λj d hj=>?_;rw[ST]at hj ⊢;exact hm _ d (by omega) hj
 have h1:S.ah cs vs=S.ah (cs.take i) (vs.take i)*S.ae (c::cs.drop (i+1))+(x*S.ae (cs.drop (i+1))+S.ah (cs.drop (i+1)) (vs.drop (i+1))):=by
  conv=>lhs;rw[e1,e2,tF _ _ hlt,S.ah]
 have h2:S.ah cs (vs.take i++(x+1)::List.replicate (vs.length - (i+1)) 0)=S.ah (cs.take i) (vs.take i)*S.ae (c::cs.drop (i+1))+((x+1)*S.ae (cs.drop (i+1))+0):=by
  conv=>lhs;rw[e1,tF _ _ hlt,S.ah,vP]
 rw[h2,h1,hmx,Vf];omega
end Hx
end
section
namespace Hx
open Go
def S.aa(n:Net):List Int:=n.nodes.map (·.card)
def S.ac(cs ps:List Int):List Int:=ps.map λp=>cs[p.toNat]?.getD 0
def S.ak(n:Net):List Nat:=n.nodes.map λx=>S.aw x.parents
def S.bA(gr card:Int)(r:List Int):Bool:=decide ((r.length:Int)=card)&&r.all (λx=>decide (0<=x)&&decide (x<=gr))&&decide (r.sum=gr)
def S.cR(k:Int)(x:Node):Bool:=decide (1<=x.card)&&decide (x.card<=4)&&S.bP x.parents k
def S.cS(n:Net)(x:Node):Bool:=decide ((x.rows.length:Int)=S.ae (S.ac (S.aa n) x.parents))&&x.rows.all (S.bA n.grain x.card)
def S.aM(n:Net):Bool:=decide (1<=n.grain)&&decide (n.grain<=60)&&decide (1<=n.nodes.length)&&decide (n.nodes.length<=8)&&n.nodes.all (S.cR n.nodes.length)&&decide (S.ae (S.aa n)<=1024)&&S.bW (S.ak n)&&n.nodes.all (S.cS n)
structure NR (n:Net):Prop where
 g1:1<=n.grain
 g2:n.grain<=60
 l1:1<=n.nodes.length
 l2:n.nodes.length<=8
 card:∀x∈n.nodes,1<=x.card/\x.card<=4
 places:∀x∈n.nodes,S.bP x.parents n.nodes.length=true
 worlds:S.ae (S.aa n)<=1024
 acyc:S.bW (S.ak n)=true
 rows:∀x∈n.nodes,(x.rows.length:Int)=S.ae (S.ac (S.aa n) x.parents)
 row:∀x∈n.nodes,∀r∈x.rows,(r.length:Int)=x.card/\(∀y∈r,0<=y/\y<=n.grain)/\r.sum=n.grain
theorem cY{n:Net}:S.aM n=true↔NR n:=by
 simp only[S.aM,S.cR,S.cS,S.bA,R7,Sg,Sy];constructor
 ·rintro⟨⟨⟨⟨⟨⟨⟨a,b⟩,c⟩,d⟩,e⟩,f⟩,g⟩,h⟩;exact⟨a,b,c,d,λx hx=>(e x hx).1,λx hx=>(e x hx).2,f,g,λx hx=>(h x hx).1,λx hx r hr=>⟨((h x hx).2 r hr).1.1,((h x hx).2 r hr).1.2,((h x hx).2 r hr).2⟩⟩
 ·rintro⟨a,b,c,d,e1,e2,f,g,h1,h2⟩;exact⟨⟨⟨⟨⟨⟨⟨a,b⟩,c⟩,d⟩,λx hx=>⟨e1 x hx,e2 x hx⟩⟩,f⟩,g⟩,λx hx=>⟨h1 x hx,λr hr=>⟨⟨(h2 x hx r hr).1,(h2 x hx r hr).2.1⟩,(h2 x hx r hr).2.2⟩⟩⟩
theorem gR{l:List Int}{k:Int}(h:S.bP l k=true):∀x∈l,0<=x/\x<k:=by
 intro x hx;obtain⟨i,hi,he⟩:=Tl.1 hx;have:=Sy.1 h i (Sm.2 hi);have e:l[i]?.getD 0=x:=by rw[R4 hi,he];rfl
 simp only[S.cH,R7,Sg,e]at this;omega
theorem uP{l:List Int}{k:Int}(h:S.bP l k=true){i:Nat}{x y:Int}(hx:l[i]?=some x)(hy:l[i+1]?=some y):x<y:=by have hi:=(R6.1 hy).1;have:=Sy.1 h (i+1) (Sm.2 hi);simp only[S.cH,R7,Sg,hy,Se,U5,hx]at this;simp at this;omega
theorem JE{l:List Int}{k:Int}(h:S.bP l k=true):∀{i j:Nat} {x y:Int},l[i]?=some x->l[j]?=some y->i<j->x<y:=by
 intro i j
 induction j with
 |zero=>intro x y _ _ h;omega
 | succ j ih =>
  intro x y hx hy hij;have hj:=(R6.1 hy).1;have hz:l[j]?=some l[j]:=R4 (by omega);have h1:=uP h hz hy
  by_cases e:i=j
  ·subst e;rw[hx]at hz;injection hz with hz;omega
  ·have:=ih hx hz (by omega);omega
theorem gH{l:List Int}{k:Int}(h:S.bP l k=true)(hk:0<=k):(l.length:Int)<=k:=by
 have key:∀(i:Nat) (x:Int),l[i]?=some x->(i:Int)<=x:=by
  intro i
  induction i with
  |zero=>intro x hx;have:=gR h x (R9 hx);omega
  | succ i ih =>
   intro x hx;have hi:=(R6.1 hx).1;have h1:=ih l[i] (R4 (by omega));have:=uP h (R4 (show i<l.length by omega)) hx;omega
 by_cases hl:l.length=0
 ·omega
 ·have h1:=key (l.length - 1) l[l.length - 1] (R4 (by omega));have h2:=gR h _ (Ta (show l.length - 1<l.length by omega));omega
theorem NR.cs{n:Net}(h:NR n):∀c∈S.aa n,1<=c/\c<=4:=λc hc=>by obtain⟨x,hx,rfl⟩:=SX.1 hc;exact h.card x hx
theorem aX(n:Net):(S.aa n).length=n.nodes.length:=by simp[S.aa]
theorem bM{cs ps:List Int}(hc:∀c∈cs,1<=c/\c<=4)(hp:∀p∈ps,0<=p/\p<cs.length):∀c∈S.ac cs ps,1<=c/\c<=4:=λc h=>by obtain⟨p,h1,rfl⟩:=SX.1 h;have h2:=hp p h1;rw[R4 (by omega),Se];exact hc _ (Ta _)
theorem nF{cs ps vals:List Int}(h:InC cs vals)(hp:∀p∈ps,0<=p/\p<cs.length):InC (S.ac cs ps) (S.ac vals ps):=by refine zE (by simp[S.ac]) λi c v h1 h2=>?_;simp only[S.ac,R_,Option.map_eq_some_iff]at h1 h2;obtain⟨p,h3,rfl⟩:=h1;obtain⟨p',h4,rfl⟩:=h2;rw[h3]at h4;injection h4 with h4;subst h4;have h5:=hp p (R9 h3);have h6:cs[p.toNat]?=some cs[p.toNat]:=R4 (by omega);obtain⟨v,h7,h8⟩:=h.get h6;rw[h6,h7,Se,Se];exact h8
theorem eZ(cs a b:List Int):S.ac cs (a++b)=S.ac cs a++S.ac cs b:=by simp[S.ac]
def S.aC(n:Net)(vals:List Int)(v:Nat):Int:=match n.nodes[v]? with
 |none=>1
 |some x=>(x.rows[(S.ah (S.ac (S.aa n) x.parents) (S.ac vals x.parents)).toNat]?.getD [])[(vals[v]?.getD 0).toNat]?.getD 0
def S.bo(n:Net)(vals:List Int):Int:=S.ae ((List.range n.nodes.length).map (S.aC n vals))
theorem NR.pin{n:Net}(h:NR n){x:Node}(hx:x∈n.nodes):∀p∈x.parents,0<=p/\p<(S.aa n).length:=λp hp=>by rw[aX];exact gR (h.places x hx) p hp
theorem DM{n:Net}(h:NR n){vals:List Int}(hv:InC (S.aa n) vals){v:Nat}{x:Node}(hx:n.nodes[v]?=some x) :
  ∃(i:Nat) (r:List Int) (c y:Int),S.ah (S.ac (S.aa n) x.parents) (S.ac vals x.parents)=(i:Int)/\i<x.rows.length/\x.rows[i]?=some r/\vals[v]?=some c/\0<=c/\c<x.card/\r[c.toNat]?=some y/\S.aC n vals v=y/\0<=y/\y<=n.grain:=by
 have hm:=R9 hx;have hi:=dB (bM h.cs (h.pin hm)) (nF hv (h.pin hm));rw[<-h.rows x hm]at hi;obtain⟨i,he⟩:=R8 hi.1;have hil:i<x.rows.length:=by omega
 have hc:(S.aa n)[v]?=some x.card:=by simp[S.aa,hx]
 obtain⟨c,h1,h2,h3⟩:=hv.get hc;obtain⟨r1,r2,-⟩:=h.row x hm x.rows[i] (Ta hil);have hcl:c.toNat<(x.rows[i]).length:=by omega
 refine⟨i,x.rows[i],c,(x.rows[i])[c.toNat],he,hil,R4 hil,h1,h2,h3,R4 hcl,?_,r2 _ (Ta hcl)⟩;simp only[S.aC,hx,he,h1,Sx,R4 hil,Se,R4 hcl]
theorem mu:∀{l:List Int},(∀x∈l,0<=x/\x<=60)->0<=S.ae l/\S.ae l<=60 ^ l.length
 |[],_=>by decide
 | x::l,h=>by have h1:=mu (l:=l) λy hy=>h y (by simp[hy]);have h2:=h x (by simp);rw[bG,SJ,Int.pow_succ,Vh x];refine⟨UI h1.1 h2.1,Int.le_trans (Int.mul_le_mul_of_nonneg_left h2.2 h1.1) (Int.mul_le_mul_of_nonneg_right h1.2 (by decide))⟩
theorem MF{k:Nat}(h:k<=8):(60:Int) ^ k<=167961600000000:=by
 have hk:k=0\/k=1\/k=2\/k=3\/k=4\/k=5\/k=6\/k=7\/k=8:=by omega
 rcases hk with rfl|rfl|rfl|rfl|rfl|rfl|rfl|rfl|rfl<;>decide
theorem I8{n:Net}(h:NR n){vals:List Int}(hv:InC (S.aa n) vals){v:Nat}(hi:v<n.nodes.length):0<=S.aC n vals v/\S.aC n vals v<=60:=by obtain⟨i,r,c,y,-,-,-,-,-,-,-,e,a,b⟩:=DM h hv (R4 hi);have:=h.g2;omega
theorem uo{n:Net}(h:NR n){vals:List Int}(hv:InC (S.aa n) vals){j:Nat}(hj:j<=n.nodes.length):0<=S.ae ((List.range j).map (S.aC n vals))/\S.ae ((List.range j).map (S.aC n vals))<=167961600000000:=by
 have h1:=mu (l:=(List.range j).map (S.aC n vals)) λx hx=>by obtain⟨i,hi,rfl⟩:=SX.1 hx;exact I8 h hv (by have:=Sm.1 hi;omega)
 have h2:=MF (k:=((List.range j).map (S.aC n vals)).length) (by have:=h.l2;simp;omega);omega
theorem GW(n:Net)(vals:List Int)(j:Nat):S.ae ((List.range (j+1)).map (S.aC n vals))=S.ae ((List.range j).map (S.aC n vals))*S.aC n vals j:=by rw[Tw,TA,List.map_singleton,mF]
def S.bc(n:Net)(p:Nat->Bool):Nat->Int
 |0=>0
 |j+1=>S.bc n p j+if p j then S.bo n (S.aD (S.aa n) (j:Int)) else 0
theorem AW{n:Net}(h:NR n){vals:List Int}(hv:InC (S.aa n) vals):0<=S.bo n vals/\S.bo n vals<=167961600000000:=uo h hv (R5 _)
theorem uS{n:Net}(h:NR n)(p:Nat->Bool):∀j:Nat,0<=S.bc n p j/\S.bc n p j<=167961600000000*j
 |0=>by simp[S.bc]
 | j+1=>by
  have ih:=uS h p j;have hw:=AW h (AA (λc hc=>(h.cs c hc).1) (j:Int));rw[S.bc]
  split<;>omega
def S.ba(n:Net):Nat:=(S.ae (S.aa n)).toNat
def S.bF(n:Net)(e:List Int):Int:=S.bc n (λw=>S.bO (S.aD (S.aa n) (w:Int)) e) (S.ba n)
theorem NR.wl{n:Net}(h:NR n):1<=S.ba n/\S.ba n<=1024/\((S.ba n:Nat):Int)=S.ae (S.aa n):=by have h1:=gT λc hc=>(h.cs c hc).1;have h2:=h.worlds;unfold S.ba;omega
theorem th{n:Net}(h:NR n)(e:List Int):0<=S.bF n e/\S.bF n e<=171992678400000000:=by have h1:=uS h (λw=>S.bO (S.aD (S.aa n) (w:Int)) e) (S.ba n);have h2:=h.wl;unfold S.bF;omega
def S.bE(n:Net):Int:=S.ae (List.replicate n.nodes.length n.grain)
def S.aJ(n:Net)(e:List Int):Bool:=decide (e.length=n.nodes.length)&&(List.range e.length).all λv=>decide (-1<=e[v]?.getD 0)&&decide (e[v]?.getD 0<(S.aa n)[v]?.getD 0)
def S.aN(n:Net)(e:List Int):Int:=if S.aM n then (if S.aJ n e then 0 else 2) else 50
end Hx
end
section
namespace Hx
open Go
section
variable {b card:Nat}
def S.aL(b card i x:Nat):Nat:=(i / b*card+x)*b+i % b
def S.bj(b card p:Nat):Nat:=p / (b*card)*b+p % b
def S.bN(b card p:Nat):Nat:=p / b % card
theorem H9(hb:0<b){i x:Nat}(hx:x<card):S.bj b card (S.aL b card i x)=i/\S.bN b card (S.aL b card i x)=x:=by
 have hm:=TD i hb;have h1:S.aL b card i x / b=i / b*card+x:=by unfold S.aL;rw[Uc,Uh _ _ hb,Ux hm,SU]
 have h2:S.aL b card i x % b=i % b:=by unfold S.aL;rw[Uc,Us,Nat.mod_mod]
 have h3:(i / b*card+x) / card=i / b:=by rw[Uc,Uh _ _ (by omega),Ux hx,SU]
 have h4:(i / b*card+x) % card=x:=by rw[Uc,Us,TK hx]
 refine⟨?_,?_⟩
 ·unfold S.bj;rw[<-Nat.div_div_eq_div_mul,h1,h2,h3,Uj];exact UO i b
 ·unfold S.bN;rw[h1,h4]
theorem QG(hb:0<b)(p:Nat):S.aL b card (S.bj b card p) (S.bN b card p)=p:=by
 have hm:=TD p hb;have h1:S.bj b card p / b=p / (b*card):=by unfold S.bj;rw[Uc,Uh _ _ hb,Ux hm,SU]
 have h2:S.bj b card p % b=p % b:=by unfold S.bj;rw[Uc,Us,Nat.mod_mod]
 unfold S.aL S.bN;rw[h1,h2,<-Nat.div_div_eq_div_mul,Uj (p / b / card) card,UO,Uj];exact UO p b
theorem HC(hc:0<card)(p:Nat):S.bN b card p<card:=TD _ hc
theorem N5{A p:Nat}(hb:0<b)(hp:p<A*b*card):S.bj b card p<A*b:=by have h1:p / (b*card)<A:=Nat.div_lt_of_lt_mul (by rw[Uj (b*card),<-U8];exact hp);have hm:=TD p hb;unfold S.bj;have:(p / (b*card)+1)*b<=A*b:=Sw _ h1;rw[SA,Tq]at this;omega
theorem Cj{A i x:Nat}(hb:0<b)(hi:i<A*b)(hx:x<card):S.aL b card i x<A*b*card:=by have h1:i / b<A:=Nat.div_lt_of_lt_mul (by rw[Uj];exact hi);have hm:=TD i hb;unfold S.aL;have h2:(i / b+1)*card<=A*card:=Sw _ h1;rw[SA,Tq]at h2;have h3:(i / b*card+x+1)*b<=A*card*b:=Sw _ (by omega);rw[SA (i / b*card+x),Tq,U8 A,Uj card b,<-U8]at h3;omega
def S.aY(rows:List (List Int))(b card t:Nat):List Int:=(List.range (rows.length*card)).map λp=>if S.bj b card p*card+S.bN b card p<t then (rows[S.bj b card p]?.getD [])[S.bN b card p]?.getD 0 else 0
def S.cw(rows:List (List Int))(b card:Nat):List Int:=(List.range (rows.length*card)).map λp=>(rows[S.bj b card p]?.getD [])[S.bN b card p]?.getD 0
theorem DO(rows:List (List Int))(b card t:Nat):(S.aY rows b card t).length=rows.length*card:=by simp[S.aY]
theorem I_(rows:List (List Int))(b card:Nat):S.aY rows b card 0=List.replicate (rows.length*card) 0:=by refine Vj (by simp[S.aY]) λi h1 h2=>?_;simp[S.aY]
theorem I9{rows:List (List Int)}{A i x:Nat}{r:List Int}{w:Int}(hb:0<b)(hA:rows.length=A*b)(hr:rows[i]?=some r)(hx:x<card)(hw:r[x]?=some w) :
  (S.aY rows b card (i*card+x)).set (S.aL b card i x) w=S.aY rows b card (i*card+x+1):=by
 have hi:=(R6.1 hr).1;refine Vj (by simp[S.aY]) λp h1 h2=>?_;have hp:p<rows.length*card:=by simpa [S.aY] using h2
 obtain⟨q1,q2⟩:=H9 hb (i:=i) hx;rw[List.getElem_set]
 by_cases e:S.aL b card i x=p
 ·subst e;rw[Sb rfl];simp only[S.aY,UX,List.getElem_range,q1,q2];rw[Sb (by omega),hr,Se,hw,Se]
 ·rw[Sa e];simp only[S.aY,UX,List.getElem_range];have hf:=HC (b:=b) (card:=card) (by omega) p;have hne:S.bj b card p*card+S.bN b card p≠i*card+x:=λh=>e (by
   have e1:S.bj b card p=i:=by
    have h1:(S.bj b card p*card+S.bN b card p) / card=S.bj b card p:=by rw[Uc,Uh _ _ (by omega),Ux hf,SU]
    have h2:(i*card+x) / card=i:=by rw[Uc,Uh _ _ (by omega),Ux hx,SU]
    rw[<-h1,h,h2]
   have e2:S.bN b card p=x:=by rw[e1]at h;omega
   rw[<-QG hb p (card:=card),e1,e2])
  by_cases h:S.bj b card p*card+S.bN b card p<i*card+x
  ·rw[Sb h,Sb (by omega)]
  ·rw[Sa h,Sa (by omega)]
theorem KY{rows:List (List Int)}{A:Nat}(hb:0<b)(hA:rows.length=A*b):S.aY rows b card (rows.length*card)=S.cw rows b card:=by
 unfold S.aY S.cw;refine Ti λp hp=>?_;have hp:=Sm.1 hp;have hc:0<card:=Nat.pos_of_ne_zero λe=>by subst e;simp at hp
 have h1:=N5 (A:=A) hb (by rw[<-hA];exact hp);have h2:=HC (b:=b) hc p;rw[Sb];rw[<-hA]at h1;have:(S.bj b card p+1)*card<=rows.length*card:=Sw _ h1;rw[SA,Tq]at this;omega
theorem NY{rows:List (List Int)}{A i x:Nat}(hb:0<b)(hA:rows.length=A*b)(hi:i<rows.length)(hx:x<card):(S.cw rows b card)[S.aL b card i x]?=some ((rows[i]?.getD [])[x]?.getD 0):=by obtain⟨q1,q2⟩:=H9 hb (i:=i) hx;have hp:=Cj (A:=A) (i:=i) hb (by rw[<-hA];exact hi) hx;simp only[S.cw,R_];rw[UU (by rw[hA];exact hp)];simp only[TY,q1,q2]
end
def S.aH(ps:List Int)(k:Nat)(v:Int):List Int:=ps.take k++v::ps.drop k
theorem Qc{n:Net}(h:NR n){vals:List Int}(hv:InC (S.aa n) vals){v:Nat}{x:Node}(hx:n.nodes[v]?=some x)(k:Nat) :
  ∃p:Nat,S.ah (S.ac (S.aa n) (S.aH x.parents k (v:Int))) (S.ac vals (S.aH x.parents k (v:Int)))=(p:Int)/\p<x.rows.length*x.card.toNat /\
   (S.cw x.rows (S.ae (S.ac (S.aa n) (x.parents.drop k))).toNat x.card.toNat)[p]?=some (S.aC n vals v):=by
 have hm:=R9 hx;obtain⟨i,r,c,y,e1,e2,e3,e4,e5,e6,e7,e8,-,-⟩:=DM h hv hx;have hpin:=h.pin hm;have hcb:=bM h.cs hpin;have hin:=nF hv hpin;have hcx:(S.aa n)[v]?=some x.card:=by simp[S.aa,hx]
 have ps:x.parents=x.parents.take k++x.parents.drop k:=(SW k _).symm;have hd1:∀c∈S.ac (S.aa n) (x.parents.drop k),1<=c/\c<=4:=bM h.cs λp hp=>hpin p (Tv hp);have hd2:InC (S.ac (S.aa n) (x.parents.drop k)) (S.ac vals (x.parents.drop k)):=nF hv λp hp=>hpin p (Tv hp);have ht1:∀c∈S.ac (S.aa n) (x.parents.take k),1<=c/\c<=4:=bM h.cs λp hp=>hpin p (SM hp);have ht2:InC (S.ac (S.aa n) (x.parents.take k)) (S.ac vals (x.parents.take k)):=nF hv λp hp=>hpin p (SM hp);obtain⟨b1,b2⟩:=dB hd1 hd2;obtain⟨a1,a2⟩:=dB ht1 ht2;have hlt:(S.ac (S.aa n) (x.parents.take k)).length=(S.ac vals (x.parents.take k)).length:=by simp[S.ac]
 have ei:S.ah (S.ac (S.aa n) x.parents) (S.ac vals x.parents)=S.ah (S.ac (S.aa n) (x.parents.take k)) (S.ac vals (x.parents.take k))*S.ae (S.ac (S.aa n) (x.parents.drop k))+S.ah (S.ac (S.aa n) (x.parents.drop k)) (S.ac vals (x.parents.drop k)):=by
  conv=>lhs;rw[ps,eZ,eZ,tF _ _ hlt]
 have er:(x.rows.length:Int)=S.ae (S.ac (S.aa n) (x.parents.take k))*S.ae (S.ac (S.aa n) (x.parents.drop k)):=by
  rw[h.rows x hm]
  conv=>lhs;rw[ps,eZ,qh]
 have ef:S.ah (S.ac (S.aa n) (S.aH x.parents k (v:Int))) (S.ac vals (S.aH x.parents k (v:Int))) =
   S.ah (S.ac (S.aa n) (x.parents.take k)) (S.ac vals (x.parents.take k))*(x.card*S.ae (S.ac (S.aa n) (x.parents.drop k)))+(c*S.ae (S.ac (S.aa n) (x.parents.drop k))+S.ah (S.ac (S.aa n) (x.parents.drop k)) (S.ac vals (x.parents.drop k))):=by
  rw[S.aH,eZ,eZ,tF _ _ hlt];have:S.ac (S.aa n) ((v:Int)::x.parents.drop k)=x.card::S.ac (S.aa n) (x.parents.drop k):=by simp[S.ac,hcx]
  have h2:S.ac vals ((v:Int)::x.parents.drop k)=c::S.ac vals (x.parents.drop k):=by simp[S.ac,e4]
  rw[this,h2,bG,S.ah]
 have hpp:=gT λc hc=>(hd1 c hc).1;generalize S.ae (S.ac (S.aa n) (x.parents.drop k))=B at *;generalize S.ae (S.ac (S.aa n) (x.parents.take k))=A at *;generalize S.ah (S.ac (S.aa n) (x.parents.drop k)) (S.ac vals (x.parents.drop k))=q at *;generalize S.ah (S.ac (S.aa n) (x.parents.take k)) (S.ac vals (x.parents.take k))=a at *;obtain⟨B,rfl⟩:=R8 (show 0<=B by omega);obtain⟨A,rfl⟩:=R8 (show 0<=A by omega);obtain⟨q,rfl⟩:=R8 b1;obtain⟨a,rfl⟩:=R8 a1;obtain⟨c,rfl⟩:=R8 e5;obtain⟨C,hC⟩:=R8 (show 0<=x.card by omega);rw[hC]at ef e6 ⊢;have hB:0<B:=by omega
 have hq:q<B:=by omega
 have hc:c<C:=by omega
 rw[e1]at ei;have hi:i=a*B+q:=by
  have:(i:Int)=((a*B+q:Nat):Int):=by rw[ei,U6,Tt]
  omega
 have hiB:i / B=a:=by rw[hi,Uc,Uh _ _ hB,Ux hq,SU]
 have hiM:i % B=q:=by rw[hi,Uc,Us,TK hq]
 have hrl:x.rows.length=A*B:=by
  have:((x.rows.length:Nat):Int)=((A*B:Nat):Int):=by rw[er,Tt]
  omega
 refine⟨S.aL B C i c,?_,?_,?_⟩
 ·rw[ef,S.aL,hiB,hiM,SA,U6,U6,Tt,Tt,Tt,Uq];omega
 ·rw[Sx,hrl];exact Cj hB (by rw[<-hrl];exact e2) hc
 ·rw[Sx,Sx,NY hB hrl e2 hc,e3,Se];rw[Sx]at e7;rw[e7,e8];rfl
end Hx
end
section
namespace Hx
open Go
theorem HV{vals e:List Int}:S.bO vals e=true↔∀i,i<e.length->e[i]?.getD 0<0\/e[i]?.getD 0=vals[i]?.getD 0:=by simp only[S.bO,Sy,Sm,S.cP,SY,Sg]
end Hx
end
section
namespace Hx
open Go
def S.sm(F:Nat->Int):Nat->Int
 |0=>0
 |j+1=>S.sm F j+F j
theorem c_{F G:Nat->Int}:∀{k:Nat},(∀i,i<k->F i=G i)->S.sm F k=S.sm G k
 |0,_=>rfl
 |k+1,h=>by rw[S.sm,S.sm,c_ λi hi=>h i (by omega),h k (by omega)]
theorem MY(F G:Nat->Int):∀k,S.sm (λi=>F i+G i) k=S.sm F k+S.sm G k
 |0=>rfl
 |k+1=>by rw[S.sm,S.sm,S.sm,MY F G k];omega
theorem GJ(c:Int)(F:Nat->Int):∀k,S.sm (λi=>c*F i) k=c*S.sm F k
 |0=>by simp[S.sm]
 |k+1=>by rw[S.sm,S.sm,GJ c F k,Int.mul_add]
theorem yG:∀k:Nat,S.sm (λ_=>0) k=0
 |0=>rfl
 |k+1=>by rw[S.sm,yG k];rfl
theorem MZ(F:Nat->Int)(a:Nat):∀b,S.sm F (a+b)=S.sm F a+S.sm (λj=>F (a+j)) b
 |0=>by simp[S.sm]
 |b+1=>by rw[<-TZ,S.sm,S.sm,MZ F a b];omega
theorem E9(F:Nat->Int)(b:Nat):∀a,S.sm F (a*b)=S.sm (λi=>S.sm (λj=>F (i*b+j)) b) a
 |0=>by simp[S.sm]
 |a+1=>by rw[SA,Tq,MZ,S.sm,E9 F b a]
def S.bH:List Int->(List Int->Int)->Int
 |[],F=>F []
 |c::cs,F=>S.sm (λx=>S.bH cs λvs=>F ((x:Int)::vs)) c.toNat
theorem qm:∀{cs:List Int} {F G:List Int->Int},(∀vs,InC cs vs->F vs=G vs)->S.bH cs F=S.bH cs G
 |[],_,_,h=>h [] trivial
 | c::cs,F,G,h=>by rw[S.bH,S.bH];exact c_ λi hi=>qm λvs hv=>h _ ⟨⟨by omega,by omega⟩,hv⟩
theorem HD:∀{a va b vb:List Int},InC a va->InC b vb->InC (a++b) (va++vb)
 |[],[],_,_,_,h=>h
 |_::_,_::_,_,_,h1,h2=>⟨h1.1,HD h1.2 h2⟩
theorem uU:∀{cs pre pv:List Int} (F:List Int->Int),(∀c∈pre++cs,1<=c)->InC pre pv ->
  S.sm (λj=>F (S.aD (pre++cs) (S.ah pre pv*S.ae cs+(j:Int)))) (S.ae cs).toNat=S.bH cs λvs=>F (pv++vs)
 | [],pre,pv,F,hc,hp=>by
  have e:S.aD pre (S.ah pre pv*S.ae []+((0:Nat):Int))=pv:=by
   have:S.ah pre pv*S.ae []+((0:Nat):Int)=S.ah pre pv:=by simp[S.ae]
   rw[this];exact uV (λc h=>hc c (by simp[h])) hp
  show S.sm _ 1=F (pv++[]);rw[S.sm,S.sm,Su,Su,e];omega
 | c::cs,pre,pv,F,hc,hp=>by
  have hcc:=hc c (by simp);have hP:1<=S.ae cs:=gT λx hx=>hc x (by simp[hx]);obtain⟨P,hPe⟩:=R8 (show 0<=S.ae cs by omega);obtain⟨C,hCe⟩:=R8 (show 0<=c by omega);have e1:(S.ae (c::cs)).toNat=C*P:=by rw[bG,hPe,hCe,<-Tt,Sx]
  rw[e1,E9,S.bH,hCe,Sx];refine c_ λi hi=>?_;have ih:=uU (cs:=cs) (pre:=pre++[(C:Int)]) (pv:=pv++[(i:Int)]) F (by rw[<-hCe];simpa using hc) (HD hp ⟨⟨by omega,by omega⟩,trivial⟩);rw[hPe,Sx]at ih;have el:=hp.len;rw[tF _ _ el.symm]at ih;have e2:∀vs,pv++[(i:Int)]++vs=pv++(i:Int)::vs:=λvs=>by simp
  simp only[e2]at ih;rw[<-ih];refine c_ λj _=>?_;have e3:pre++[(C:Int)]++cs=pre++(C:Int)::cs:=by simp
  rw[e3];congr 2;have e4:S.ah [(C:Int)] [(i:Int)]=(i:Int):=by simp[S.ah,S.ae]
  have e5:S.ae [(C:Int)]=(C:Int):=by simp[S.ae]
  rw[e4,e5,bG,hPe,Vf,U6,Tt,Uq];omega
def S.aE:List Int->List Nat->List Int->List Int
 |w,v::r,x::xs=>S.aE (w.set v x) r xs
 |w,_,_=>w
def S.am(cs:List Int):List Nat->(List Int->Int)->List Int->Int
 |[],F,w=>F w
 |v::r,F,w=>S.sm (λx=>S.am cs r F (w.set v (x:Int))) (cs[v]?.getD 0).toNat
theorem tk:∀(w:List Int) (l:List Nat) (xs:List Int),(S.aE w l xs).length=w.length
 |w,[],_=>by simp[S.aE]
 |w,v::r,[]=>by simp[S.aE]
 |w,v::r,x::xs=>by rw[S.aE,tk];simp
theorem yq{cs:List Int}{F:List Int->Int}:∀{l:List Nat} {w:List Int},S.am cs l F w=S.bH (l.map λv=>cs[v]?.getD 0) λxs=>F (S.aE w l xs)
 |[],w=>by simp[S.am,S.bH,S.aE]
 | v::r,w=>by
  rw[S.am,Te,S.bH];refine c_ λi _=>?_;rw[yq]
  rfl
theorem Fs{cs:List Int}{F:List Int->Int}{l:List Nat}{w:List Int}(hc:∀v∈l,1<=cs[v]?.getD 0) :
  S.sm (λj=>F (S.aE w l (S.aD (l.map λv=>cs[v]?.getD 0) (j:Int)))) (S.ae (l.map λv=>cs[v]?.getD 0)).toNat=S.am cs l F w:=by
 have h:=uU (cs:=l.map λv=>cs[v]?.getD 0) (pre:=[]) (pv:=[]) (λxs=>F (S.aE w l xs)) (by simpa using hc) trivial;have e:∀j:Nat,S.ah [] []*S.ae (l.map λv=>cs[v]?.getD 0)+(j:Int)=(j:Int):=λj=>by simp[S.ah]
 simp only[Sf,e]at h;rw[h,yq]
theorem Km{cs:List Int}:∀{l:List Nat} {G:Nat->List Int->Int} {w:List Int} (k:Nat),S.am cs l (λw=>S.sm (λx=>G x w) k) w=S.sm (λx=>S.am cs l (G x) w) k
 |[],_,_,_=>rfl
 | v::r,G,w,k=>by
  have key:∀m:Nat,S.sm (λi=>S.sm (λx=>S.am cs r (G x) (w.set v (i:Int))) k) m=S.sm (λx=>S.sm (λi=>S.am cs r (G x) (w.set v (i:Int))) m) k:=by
   intro m
   induction m with
   |zero=>simp only[S.sm];rw[yG]
   |succ m ih=>simp only[S.sm];rw[ih,<-MY]
  rw[S.am,c_ λi _=>Km k,key];exact c_ λx _=>rfl
theorem BX{cs:List Int}{v:Nat}{x:Int}:∀{l:List Nat} {F:List Int->Int} {w:List Int},v ∉ l->S.am cs l F (w.set v x)=S.am cs l (λw=>F (w.set v x)) w
 |[],_,_,_=>rfl
 | u::r,F,w,h=>by rw[S.am,S.am];refine c_ λi _=>?_;simp only[Sq,not_or]at h;rw[List.set_comm _ _ h.1,BX h.2]
theorem yP{cs:List Int}{p q:Nat->Bool}(hpq:∀v,p v=true->q v=false):∀{L:List Nat} {F:List Int->Int} {w:List Int},L.Nodup->S.am cs (L.filter λv=>p v || q v) F w=S.am cs (L.filter p) (λw=>S.am cs (L.filter q) F w) w
 |[],_,_,_=>rfl
 | v::r,F,w,h=>by
  rw[U7]at h;cases hp:p v with
  | true =>
   have hq:=hpq v hp;rw[Tm (by simp[hp]),Tm hp,Tb (by simp[hq]),S.am,S.am];exact c_ λi _=>yP hpq h.2
  | false =>
   cases hq:q v with
   | true =>
    rw[Tm (by simp[hq]),Tb (by simp[hp]),Tm hq,S.am];rw[c_ (G:=λi=>S.am cs (r.filter p) (λw=>S.am cs (r.filter q) F (w.set v (i:Int))) w) λi _=>?_,<-Km]
    ·rfl
    ·rw[yP hpq h.2,BX (λhm=>h.1 (Tk.1 hm).1)]
   | false =>
    rw[Tb (by simp[hp,hq]),Tb (by simp[hp]),Tb (by simp[hq])];exact yP hpq h.2
def Ind(l:List Nat)(F:List Int->Int):Prop:=∀v∈l,∀(x:Int) (w:List Int),F (w.set v x)=F w
theorem NC{cs:List Int}{l:List Nat}{F:List Int->Int}{v:Nat}{x:Int}{w:List Int}(hv:v ∉ l)(hF:∀(x:Int) (w:List Int),F (w.set v x)=F w):S.am cs l F (w.set v x)=S.am cs l F w:=by rw[BX hv];congr 1;exact funext λw=>hF x w
theorem G3{cs:List Int}{G H:List Int->Int}:∀{l:List Nat} {w:List Int},Ind l G->S.am cs l (λw=>G w*H w) w=G w*S.am cs l H w
 |[],_,_=>rfl
 | v::r,w,h=>by rw[S.am,S.am,<-GJ];refine c_ λi _=>?_;rw[G3 λu hu=>h u (by simp[hu]),h v (by simp)]
theorem Kl{cs:List Int}{a b:List Nat}{G H:List Int->Int}{w:List Int}(hab:∀v∈a,v ∉ b)(hG:Ind b G)(hH:Ind a H) :
  S.am cs a (λw=>S.am cs b (λw=>G w*H w) w) w=S.am cs a G w*S.am cs b H w:=by
 have e:(λw=>S.am cs b (λw=>G w*H w) w)=λw=>G w*S.am cs b H w:=funext λw=>G3 hG;rw[e];have hb:Ind a (S.am cs b H):=λv hv x w=>NC (hab v hv) (hH v hv);have key:∀{a:List Nat} {K:List Int->Int} {w:List Int},Ind a K->S.am cs a (λw=>G w*K w) w=S.am cs a G w*K w:=by
  intro a
  induction a with
  |nil=>intro K w _;rfl
  | cons v r ih =>
   intro K w hK;rw[S.am,S.am,c_ (G:=λi=>K w*S.am cs r G (w.set v (i:Int))) λi _=>?_,GJ,Vh];rw[ih λu hu=>hK u (by simp[hu]),hK v (by simp),Vh]
 exact key hb
theorem Fj:∀cs:List Int,S.bH cs (λ_=>0)=0
 |[]=>rfl
 |c::cs=>by rw[S.bH,c_ (G:=λ_=>0) λi _=>Fj cs,yG]
theorem Ma{v y:Int}{vs e:List Int}:S.bO (v::vs) (y::e)=((decide (y<0) || decide (y=v))&&S.bO vs e):=by
 rw[Tz,R7,HV,HV,SY,Sg,Sg];constructor
 ·intro h;refine⟨by have:=h 0 (by simp);simpa using this,λi hi=>?_⟩;have:=h (i+1) (by simp;omega);simpa using this
 ·rintro⟨h1,h2⟩ i hi;cases i with
  |zero=>simpa using h1
  |succ i=>simpa using h2 i (by simpa using hi)
theorem M1{G:Nat->Int}{Y:Nat}:∀{m:Nat},(∀x,x≠Y->G x=0)->Y<m->S.sm G m=G Y
 |0,_,h=>by omega
 | m+1,hG,h=>by
  rw[S.sm]
  by_cases e1:Y=m
  ·subst e1;rw[c_ (G:=λ_=>0) λi hi=>hG i (by omega),yG];omega
  ·rw[M1 hG (by omega),hG m (λe2=>e1 e2.symm)];omega
theorem Fi{F:List Int->Int}:∀{cs e pc pv:List Int},e.length=cs.length->pv.length=pc.length->(∀(i:Nat) (x:Int),e[i]?=some x->x = -1\/0<=x/\x<cs[i]?.getD 0) ->
  S.bH cs (λvs=>if S.bO vs e then F (pv++vs) else 0) =
   S.am (pc++cs) ((List.range' pc.length cs.length).filter λv=>decide ((pv++e)[v]?.getD 0 = -1)) F (pv++e)
 | [],e,pc,pv,he,hp,hv=>by have:e=[]:=UB.1 he;subst this;simp[S.bH,S.am,S.bO]
 |c::cs,[],pc,pv,he,hp,hv=>by simp at he
 | c::cs,y::e,pc,pv,he,hp,hv=>by
  have he2:e.length=cs.length:=by simpa using he
  have hv2:∀(i:Nat) (x:Int),e[i]?=some x->x = -1\/0<=x/\x<cs[i]?.getD 0:=λi x h=>by simpa using hv (i+1) x (by simpa using h)
  have ih:=λ(z:Int)=>Fi (F:=F) (cs:=cs) (e:=e) (pc:=pc++[c]) (pv:=pv++[z]) he2 (by simp[hp]) hv2;have ea:∀(z:Int) (vs:List Int),pv++[z]++vs=pv++z::vs:=λz vs=>by simp
  have eb:pc++[c]++cs=pc++c::cs:=by simp
  simp only[ea,eb,SZ,T2]at ih;have ey:(pv++y::e)[pc.length]?.getD 0=y:=by rw[Sj (by omega)];simp[hp]
  have ec:(pc++c::cs)[pc.length]?.getD 0=c:=by simp
  have hr:List.range' pc.length (c::cs).length=pc.length::List.range' (pc.length+1) cs.length:=by rw[SJ,List.range'_succ]
  have hset:∀z:Int,(pv++y::e).set pc.length z=pv++z::e:=λz=>by rw[TE _ _ (by omega)];simp[hp]
  have hfil:∀z:Int,((List.range' (pc.length+1) cs.length).filter λv=>decide ((pv++z::e)[v]?.getD 0 = -1))=(List.range' (pc.length+1) cs.length).filter λv=>decide ((pv++y::e)[v]?.getD 0 = -1):=λz=>by refine Uf λv hv=>?_;have:pc.length+1<=v:=(List.mem_range'_1.1 hv).1;rw[Sj (by omega),Sj (by omega)];obtain⟨k,hk⟩:∃k,v - pv.length=k+1:=⟨v - pv.length - 1,by omega⟩;rw[hk];simp
  rw[S.bH,hr];simp only[Ma];rcases hv 0 y (by simp) with h|⟨h1,h2⟩
  ·rw[Tm (by rw[ey,h];rfl),S.am,ec];refine c_ λx hx=>?_;rw[hset,<-hfil (x:Int),<-ih];refine qm λvs _=>?_;rw[Tx (show y<0 by omega),U2,Td]
  ·rw[Tb (by rw[ey];simp;omega)];have h2:y<c:=by simpa using h2
   obtain⟨Y,rfl⟩:=R8 h1;rw[M1 (Y:=Y) (λx hx=>?_) (by omega),<-ih]
   ·refine qm λvs _=>?_;rw[Tx (rfl:((Y:Nat):Int)=(Y:Int)),Vx,Td]
   ·rw[qm (G:=λ_=>0) λvs _=>?_,Fj];rw[Sa];rw[S6 (show ¬((Y:Nat):Int)<0 by omega),S6 (show ¬((Y:Nat):Int)=(x:Int) by omega)];simp
end Hx
end
section
namespace Hx
open Go
abbrev Sp:Type:=Int×Int×Int
def S.sp(l:List Sp)(i:Nat):Sp:=l[i]?.getD (0,0,0)
def S.ax(l:List Sp)(i:Nat)(e:Int):Bool:=(List.range i).any λj=>decide ((S.sp l j).1 = -1)&&(decide ((S.sp l j).2.1=e) || decide ((S.sp l j).2.2=e))
def S.aT(l:List Sp)(i:Nat)(v:Int):Bool:=(List.range i).any λj=>decide ((S.sp l j).1=v)
def S.bS(l:List Sp)(i:Nat):Bool:=decide (0<=(S.sp l i).2.1)&&decide ((S.sp l i).2.1<(i:Int))&&decide (0<=(S.sp l i).2.2)&&decide ((S.sp l i).2.2<(i:Int))&&!decide ((S.sp l i).2.1=(S.sp l i).2.2)
def S.cm(l:List Sp)(n:Nat)(i:Nat):Bool:=decide (0<=(S.sp l i).1)&&decide ((S.sp l i).1<(n:Int))&&decide ((S.sp l i).2.1 = -1)&&decide ((S.sp l i).2.2 = -1)
def S.bp(l:List Sp)(n:Nat)(i:Nat):Bool:=if (S.sp l i).1 = -1 then S.bS l i&&!S.ax l i (S.sp l i).2.1&&!S.ax l i (S.sp l i).2.2 else S.cm l n i&&!S.aT l i (S.sp l i).1
def S.ck(l:List Sp)(n:Nat):Bool:=decide ((l.length:Int)=2*(n:Int) - 1)&&(List.range l.length).all (S.bp l n)&&((List.range n).all λv=>S.aT l l.length (v:Int))&&((List.range (l.length - 1)).all λe=>S.ax l l.length (e:Int))
theorem gX{l:List Sp}{i:Nat}{e:Int}:S.ax l i e=true↔∃j,j<i/\(S.sp l j).1 = -1/\((S.sp l j).2.1=e\/(S.sp l j).2.2=e):=by simp[S.ax,Vi]
theorem qM{l:List Sp}{i:Nat}{v:Int}:S.aT l i v=true↔∃j,j<i/\(S.sp l j).1=v:=by simp[S.aT,Vi]
theorem nB{l:List Sp}{i:Nat}:S.bS l i=true↔0<=(S.sp l i).2.1/\(S.sp l i).2.1<(i:Int)/\0<=(S.sp l i).2.2/\(S.sp l i).2.2<(i:Int)/\(S.sp l i).2.1≠(S.sp l i).2.2:=by simp[S.bS,and_assoc]
theorem vT{l:List Sp}{n i:Nat}:S.cm l n i=true↔0<=(S.sp l i).1/\(S.sp l i).1<(n:Int)/\(S.sp l i).2.1 = -1/\(S.sp l i).2.2 = -1:=by simp[S.cm,and_assoc]
end Hx
end
section
namespace Hx
open Go
abbrev Br:Type:=Int×Nat
def S.aZ(st:List Sp×Br)(b:Br):List Sp×Br:=(st.1++[(-1,st.2.1,b.1)],((st.1.length:Int),st.2.2 ||| b.2))
def S.bu(l:List Br)(x:Br):List Br:=(l.filter λb=>decide (b.1<x.1))++x::l.filter λb=>decide (x.1<b.1)
def S.jn(w:Nat->Bool)(st:List Sp×List Br):List Sp×List Br :=
 match st.2.filter λb=>w b.2 with
 |[]=>st
 |b::bs=>((bs.foldl S.aZ (st.1,b)).1,S.bu (st.2.filter λb=>!w b.2) (bs.foldl S.aZ (st.1,b)).2)
structure MkI (m:Nat) (st:List Sp×List Br):Prop where
 ln:st.1.length+st.2.length=2*m
 l1:m<=st.1.length
 lf:∀v,v<m->S.sp st.1 v=((v:Int),-1,-1)
 jn:∀i,m<=i->i<st.1.length->(S.sp st.1 i).1 = -1/\S.bS st.1 i=true
 so:st.2.Pairwise λa b=>a.1<b.1
 op:∀e,(∃b∈st.2,b.1=e)↔0<=e/\e<(st.1.length:Int)/\S.ax st.1 st.1.length e=false
 on:∀i j e,i<j->j<st.1.length->(S.sp st.1 i).1 = -1/\((S.sp st.1 i).2.1=e\/(S.sp st.1 i).2.2=e)->(S.sp st.1 j).1 = -1/\((S.sp st.1 j).2.1=e\/(S.sp st.1 j).2.2=e)->False
theorem qU{l m:List Sp}{i:Nat}(h:i<l.length):S.sp (l++m) i=S.sp l i:=by simp[S.sp,So h]
theorem wz{l:List Sp}{x:Sp}:S.sp (l++[x]) l.length=x:=by simp[S.sp]
theorem Pb{l:List Sp}{x:Sp}{e:Int}:S.ax (l++[x]) (l++[x]).length e=(S.ax l l.length e || (decide (x.1 = -1)&&(decide (x.2.1=e) || decide (x.2.2=e)))):=by
 apply Tz.2;rw[gX,SY,gX];simp only[SZ,T2,R7,SY,Sg];constructor
 ·rintro⟨j,hj,h⟩
  by_cases c:j<l.length
  ·rw[qU c]at h;exact .inl ⟨j,c,h⟩
  ·have:j=l.length:=by omega
   subst this;rw[wz]at h;exact .inr h
 ·rintro (⟨j,hj,h⟩|h)
  ·exact⟨j,by omega,by rw[qU hj];exact h⟩
  ·exact⟨l.length,by omega,by rw[wz];exact h⟩
theorem Er{m:Nat}{l:List Sp}{o:List Br}{a b:Br}{w:Nat}(h:MkI m (l,o))(ha:a∈o)(hb:b∈o)(hab:a.1≠b.1):MkI m (l++[(-1,a.1,b.1)],(o.filter λc=>!decide (c.1=a.1)&&!decide (c.1=b.1))++[((l.length:Int),w)]):=by
 obtain⟨h1,h2,h3,h4,h5,h6,h7⟩:=h;have ea:=(h6 a.1).1 ⟨a,ha,rfl⟩;have eb:=(h6 b.1).1 ⟨b,hb,rfl⟩;dsimp only at h1 h2 h3 h4 h5 h6 h7 ea eb;have hlen:(o.filter λc=>!decide (c.1=a.1)&&!decide (c.1=b.1)).length+2=o.length:=by
  have key:∀(o:List Br) (x:Int),o.Pairwise (λa b=>a.1<b.1)->(∃c∈o,c.1=x)->(o.filter λc=>!decide (c.1=x)).length+1=o.length:=by
   intro o x hp hx
   induction o with
   |nil=>obtain⟨c,hc,-⟩:=hx;simp at hc
   | cons c o ih =>
    rw[UL]at hp
    by_cases e:c.1=x
    ·have hno:∀d∈o,d.1≠x:=λd hd he=>by have:=hp.1 d hd;omega
     rw[Tb (by simp[e]),UT.2 (λd hd=>by simpa using hno d hd)]
     rfl
    ·obtain⟨d,hd,hdx⟩:=hx;have hd:d∈o:=by
      rcases Sq.1 hd with h|h
      ·subst h;exact absurd hdx e
      ·exact h
     rw[Tm (by simpa using e),SJ,SJ,<-ih hp.2 ⟨d,hd,hdx⟩]
  have k1:=key o b.1 h5 ⟨b,hb,rfl⟩;have k2:=key (o.filter λc=>!decide (c.1=b.1)) a.1 (h5.filter _) ⟨a,Tk.2 ⟨ha,by simpa using hab⟩,rfl⟩;rw[Vu]at k2;omega
 constructor
 ·simp;omega
 ·simp;omega
 ·intro v hv;rw[qU (by omega)];exact h3 v hv
 ·intro i hi hil;rw[SZ,T2]at hil
  by_cases c:i<l.length
  ·have:=h4 i hi c;have e1:S.bS (l++[(-1,a.1,b.1)]) i=S.bS l i:=by unfold S.bS;rw[qU c]
   rw[e1,qU c];exact this
  ·have:i=l.length:=by omega
   subst this;refine⟨by rw[wz],nB.2 ?_⟩;rw[wz];exact⟨ea.1,ea.2.1,eb.1,eb.2.1,hab⟩
 ·rw[List.pairwise_append];refine⟨h5.filter _,List.pairwise_singleton _ _,λc hc d hd=>?_⟩;have hd:=SK.1 hd;subst hd;have:=(h6 c.1).1 ⟨c,(Tk.1 hc).1,rfl⟩;exact this.2.1
 ·intro e;dsimp only;rw[Pb,Ve];constructor
  ·rintro⟨c,hc,rfl⟩;rcases SG.1 hc with hc|hc
   ·obtain⟨hc,hn⟩:=Tk.1 hc;have:=(h6 c.1).1 ⟨c,hc,rfl⟩;simp only[R7,SP,U0]at hn;refine⟨this.1,by simp;omega,this.2.2,?_⟩;have n1:¬a.1=c.1:=λe=>hn.1 e.symm;have n2:¬b.1=c.1:=λe=>hn.2 e.symm;simp[n1,n2]
   ·have hc:=SK.1 hc;subst hc;refine⟨by simp,by simp;omega,?_,?_⟩
    ·rw[TM];intro h;obtain⟨j,hj,hh⟩:=gX.1 h
     by_cases c:m<=j
     ·have:=nB.1 (h4 j c hj).2;omega
     ·have:=h3 j (by omega);rw[this]at hh;have:=hh.1;dsimp only at this;omega
    ·have n1:¬a.1=(l.length:Int):=by omega
     have n2:¬b.1=(l.length:Int):=by omega
     simp[n1,n2]
  ·rintro⟨e0,e1,e2,e3⟩
   by_cases c:e=(l.length:Int)
   ·exact⟨_,TU _ (SK.2 rfl),c.symm⟩
   ·obtain⟨d,hd,hde⟩:=(h6 e).2 ⟨e0,by simp at e1;omega,e2⟩;refine⟨d,TS _ (Tk.2 ⟨hd,?_⟩),hde⟩;simp only[decide_true,Td,Ve,U0]at e3;simp only[R7,SP,U0];exact⟨λh=>e3.1 (by rw[<-h,hde]),λh=>e3.2 (by rw[<-h,hde])⟩
 ·intro i j e hij hj hi' hj';dsimp only at hij hj hi' hj';rw[SZ,T2]at hj;rw[qU (by omega)]at hi'
  by_cases c:j<l.length
  ·rw[qU c]at hj';exact h7 i j e hij c hi' hj'
  ·have:j=l.length:=by omega
   subst this;rw[wz]at hj';have hu:S.ax l l.length e=true:=gX.2 ⟨i,hij,hi'⟩;rcases hj'.2 with h|h
   ·dsimp only at h;rw[<-h,ea.2.2]at hu;cases hu
   ·dsimp only at h;rw[<-h,eb.2.2]at hu;cases hu
theorem M7{o:List Br}(h:o.Pairwise λa b=>a.1<b.1){a b:Br}(ha:a∈o)(hb:b∈o)(e:a.1=b.1):a=b:=by
 induction o with
 |nil=>simp at ha
 | cons c o ih =>
  rw[UL]at h;rcases Sq.1 ha with h1|h1<;>rcases Sq.1 hb with h2|h2
  ·rw[h1,h2]
  ·have:=h.1 b h2;rw[h1]at e;omega
  ·have:=h.1 a h1;rw[h2]at e;omega
  ·exact ih h.2 h1 h2
theorem LB{o:List Br}(h:o.Pairwise λa b=>a.1<b.1){x:Br}(hx:x∈o):S.bu (o.filter λc=>!decide (c.1=x.1)) x=o:=by
 unfold S.bu;rw[Vu,Vu];have e1:∀o:List Br,(o.filter λc=>decide (c.1<x.1)&&!decide (c.1=x.1))=o.filter λc=>decide (c.1<x.1):=λo=>Uf λc _=>by
  by_cases hc:c.1<x.1
  ·have:¬c.1=x.1:=by omega
   simp[hc,this]
  ·simp[hc]
 have e2:∀o:List Br,(o.filter λc=>decide (x.1<c.1)&&!decide (c.1=x.1))=o.filter λc=>decide (x.1<c.1):=λo=>Uf λc _=>by
  by_cases hc:x.1<c.1
  ·have:¬c.1=x.1:=by omega
   simp[hc,this]
  ·simp[hc]
 rw[e1,e2];clear e1 e2
 induction o with
 |nil=>simp at hx
 | cons c o ih =>
  rw[UL]at h;rcases Sq.1 hx with rfl|hx'
  ·have h1:o.filter (λc=>decide (c.1<x.1))=[]:=UE.2 λd hd=>by have:=h.1 d hd;simp;omega
   have h2:o.filter (λc=>decide (x.1<c.1))=o:=UT.2 λd hd=>by have:=h.1 d hd;simpa using this
   simp[h1,h2]
  ·have:=h.1 x hx';have n1:¬x.1<c.1:=by omega
   rw[Tm (by simpa using this),Tb (by simpa using n1),Sd,ih h.2 hx']
theorem Eq{m:Nat}:∀(bs:List Br) (l:List Sp) (o:List Br) (a:Br),MkI m (l,o)->a∈o->(∀b∈bs,b∈o)->(a::bs).Pairwise (λa b=>a.1≠b.1) ->
  MkI m ((bs.foldl S.aZ (l,a)).1,S.bu (o.filter λc=>!decide (c.1∈(a::bs).map (·.1))) (bs.foldl S.aZ (l,a)).2)
 | [],l,o,a,h,ha,_,_=>by have:=LB h.so ha;simp only[List.foldl_nil,Te,TP,SK];rw[this];exact h
 | c::cs,l,o,a,h,ha,hb,hd=>by
  rw[UL,UL]at hd;have hac:=hd.1 c (by simp);have hj:=Er (w:=a.2 ||| c.2) h ha (hb c (by simp)) hac;have klt:∀b∈o,b.1<(l.length:Int):=λb hbo=>((h.op b.1).1 ⟨b,hbo,rfl⟩).2.1;have ih:=Eq cs _ _ ((l.length:Int),a.2 ||| c.2) hj (by simp) (λb hbc=>by
   refine TS _ (Tk.2 ⟨hb b (by simp[hbc]),?_⟩);have n1:=hd.1 b (by simp[hbc]);have n2:=hd.2.1 b hbc;have n3:¬b.1=a.1:=λe=>n1 e.symm;have n4:¬b.1=c.1:=λe=>n2 e.symm;simp[n3,n4]) (UL.2 ⟨λb hbc=>by have:=klt b (hb b (by simp[hbc]));dsimp only;omega,hd.2.2⟩)
  have e:(((o.filter λd=>!decide (d.1=a.1)&&!decide (d.1=c.1))++[((l.length:Int),a.2 ||| c.2)]).filter λd=>!decide (d.1∈((((l.length:Int),a.2 ||| c.2):Br)::cs).map (·.1)))=o.filter λd=>!decide (d.1∈(a::c::cs).map (·.1)):=by
   rw[T5,Vu];have:([((l.length:Int),a.2 ||| c.2)]:List Br).filter (λd=>!decide (d.1∈((((l.length:Int),a.2 ||| c.2):Br)::cs).map (·.1)))=[]:=by rw[UE];intro d hd;rw[SK.1 hd];simp
   rw[this,Su];refine Uf λd hd=>?_;have:=klt d hd;have n:¬d.1=(l.length:Int):=by omega
   simp only[Te,Sq,n,false_or]
   by_cases c1:d.1=a.1<;>by_cases c2:d.1=c.1<;>by_cases c3:d.1∈cs.map (·.1)<;>simp[c1,c2,c3]
  rw[e]at ih;exact ih
theorem Me{m:Nat}{w:Nat->Bool}{st:List Sp×List Br}(h:MkI m st):MkI m (S.jn w st):=by
 unfold S.jn
 split
 ·exact h
 ·rename_i b bs hf;have hmem:∀c,c∈b::bs↔c∈st.2/\w c.2=true:=λc=>by rw[<-hf,Tk]
  have hp:(b::bs).Pairwise λa b=>a.1≠b.1:=by rw[<-hf];exact (h.so.filter _).imp λh e=>by omega
  have key:=Eq bs st.1 st.2 b h ((hmem b).1 (by simp)).1 (λc hc=>((hmem c).1 (by simp[hc])).1) hp;have e:(st.2.filter λc=>!decide (c.1∈(b::bs).map (·.1)))=st.2.filter λc=>!w c.2:=Uf λc hc=>by
   congr 1;apply Tz.2;rw[Sg];constructor
   ·intro hm;obtain⟨d,hd,hde⟩:=SX.1 hm;have hd':=(hmem d).1 hd;rw[<-M7 h.so hd'.1 hc hde];exact hd'.2
   ·intro hw;exact SX.2 ⟨c,(hmem c).2 ⟨hc,hw⟩,rfl⟩
  rw[e]at key;exact key
def S.bC(fam:List Nat):List Sp×List Br:=((List.range fam.length).map λv:Nat=>(((v:Int),-1,-1):Sp),(List.range fam.length).map λv:Nat=>(((v:Int),fam[v]?.getD 0):Br))
def S.bD(fam:List Nat)(order:List Int):Nat->List Sp×List Br
 |0=>S.bC fam
 |j+1=>S.jn (λs=>s.testBit (order[j]?.getD 0).toNat) (S.bD fam order j)
def S.mk(fam:List Nat)(order:List Int):List Sp×List Br:=S.jn (λ_=>true) (S.bD fam order order.length)
theorem Es(fam:List Nat):MkI fam.length (S.bC fam):=by
 have hs:∀v,v<fam.length->S.sp (S.bC fam).1 v=((v:Int),-1,-1):=λv hv=>by simp[S.sp,S.bC,hv]
 have hl:(S.bC fam).1.length=fam.length:=by simp[S.bC]
 have hu:∀e,S.ax (S.bC fam).1 (S.bC fam).1.length e=false:=λe=>by rw[TM];intro h;obtain⟨j,hj,hh⟩:=gX.1 h;rw[hs j (by omega)]at hh;have:=hh.1;dsimp only at this;omega
 constructor
 ·simp[S.bC];omega
 ·omega
 ·exact hs
 ·intro i h1 h2;omega
 ·rw[S.bC,List.pairwise_map];exact List.pairwise_lt_range.imp λh=>by dsimp only;omega
 ·intro e;rw[hu,hl];constructor
  ·rintro⟨b,hb,rfl⟩;obtain⟨v,hv,rfl⟩:=SX.1 hb;have:=Sm.1 hv;dsimp only;exact⟨by omega,by omega,rfl⟩
  ·rintro⟨h0,h1,-⟩;exact⟨_,SX.2 ⟨e.toNat,Sm.2 (by omega),rfl⟩,by dsimp only;omega⟩
 ·intro i j e _ hj hi' _;rw[hs i (by omega)]at hi';have:=hi'.1;dsimp only at this;omega
theorem HY(fam:List Nat)(order:List Int):∀j,MkI fam.length (S.bD fam order j)
 |0=>Es fam
 |j+1=>Me (HY fam order j)
theorem PA{fam:List Nat}{order:List Int}(hm:1<=fam.length):S.ck (S.mk fam order).1 fam.length=true/\((S.mk fam order).1.length:Int)=2*(fam.length:Int) - 1/\∀v,v<fam.length->S.sp (S.mk fam order).1 v=((v:Int),-1,-1):=by
 have h0:=HY fam order order.length;have h:=Me (w:=λ_=>true) h0;have hne:(S.bD fam order order.length).2≠[]:=λe=>by
  have h1:=h0.ln;have h2:=h0.op ((S.bD fam order order.length).1.length - 1:Int);have h3:=h0.l1;rw[e]at h2;have:=h2.2 ⟨by omega,by omega,by
   rw[TM];intro hu;obtain⟨j,hj,hh⟩:=gX.1 hu
   by_cases c:fam.length<=j
   ·have:=nB.1 (h0.jn j c hj).2;omega
   ·have:=h0.lf j (by omega);rw[this]at hh;have:=hh.1;dsimp only at this;omega⟩
  obtain⟨b,hb,-⟩:=this;simp at hb
 have ho:(S.mk fam order).2.length=1:=by
  unfold S.mk S.jn
  split
  ·rename_i hf;rw[UT.2 λ_ _=>rfl]at hf;exact absurd hf hne
  ·have:(S.bD fam order order.length).2.filter (λ_=>!true)=[]:=UE.2 λ_ _=>by simp
   dsimp only;rw[this];simp[S.bu]
 have hln:=h.ln;have hl:(S.mk fam order).1.length=2*fam.length - 1:=by have:(S.mk fam order).1.length+(S.mk fam order).2.length=2*fam.length:=hln;omega
 have h:MkI fam.length ((S.mk fam order).1,(S.mk fam order).2):=h;obtain⟨L,hL⟩:∃L,L=(S.mk fam order).1:=⟨_,rfl⟩;obtain⟨O,hO⟩:∃O,O=(S.mk fam order).2:=⟨_,rfl⟩;rw[<-hL,<-hO]at h;rw[<-hO]at ho;rw[<-hL]at hl ⊢;obtain⟨-,-,h3,h4,h5,h6,h7⟩:=h;dsimp only at h3 h4 h5 h6 h7;obtain⟨x,rfl⟩:=List.length_eq_one_iff.1 ho;have unus:∀e,S.ax L L.length e=true->0<=e/\e<(L.length:Int) - 1:=λe he=>by
  obtain⟨j,hj,hh⟩:=gX.1 he
  by_cases c:fam.length<=j
  ·have:=nB.1 (h4 j c hj).2;omega
  ·have:=h3 j (by omega);rw[this]at hh;have:=hh.1;dsimp only at this;omega
 have hx:x.1=(L.length:Int) - 1:=by obtain⟨b,hb,hbe⟩:=(h6 ((L.length:Int) - 1)).2 ⟨by omega,by omega,by rw[TM];intro hu;have:=unus _ hu;omega⟩;rw[<-SK.1 hb,hbe]
 refine⟨?_,by omega,h3⟩;simp only[S.ck,R7,Sg,Sy,Sm];refine⟨⟨⟨by omega,λi hi=>?_⟩,λv hv=>qM.2 ⟨v,by omega,by rw[h3 v hv]⟩⟩,λe he=>?_⟩
 ·unfold S.bp
  by_cases c:i<fam.length
  ·rw[h3 i c];have hb:S.aT L i (i:Int)=false:=by rw[TM];intro hu;obtain⟨j,hj,hh⟩:=qM.1 hu;rw[h3 j (by omega)]at hh;dsimp only at hh;omega
   have hlf:S.cm L fam.length i=true:=vT.2 (by rw[h3 i c];dsimp only;exact⟨by omega,by omega,rfl,rfl⟩);dsimp only;rw[Sa (by omega),hlf,hb];rfl
  ·obtain⟨a1,a2⟩:=h4 i (by omega) hi;have nu:∀e,((S.sp L i).2.1=e\/(S.sp L i).2.2=e)->S.ax L i e=false:=λe hh=>by rw[TM];intro hu;obtain⟨j,hj,hh2⟩:=gX.1 hu;exact h7 j i e hj hi hh2 ⟨a1,hh⟩
   rw[Sb a1,a2,nu _ (.inl rfl),nu _ (.inr rfl)];rfl
 ·apply Tn;intro hu;rw[Ub]at hu;obtain⟨b,hb,hbe⟩:=(h6 (e:Int)).2 ⟨by omega,by omega,hu⟩;rw[SK.1 hb]at hbe;omega
end Hx
end
section
namespace Hx
open Go
def S.aU(e:List Int)(l:List Int):Nat:=l.foldl (λs p=>if e[p.toNat]?.getD 0 = -1 then s ||| S.aG p.toNat else s) 0
def S.aK(n:Net)(v:Nat):List Int:=((n.nodes[v]?.map (·.parents)).getD [])++[(v:Int)]
def S.aB(n:Net)(e:List Int)(v:Nat):Nat:=S.aU e (S.aK n v)
def S.aO(n:Net)(e:List Int)(l:List Sp):Nat->List Nat
 |0=>[]
 |j+1=>S.aO n e l j++[if (S.sp l j).1 = -1 then (S.aO n e l j)[(S.sp l j).2.1.toNat]?.getD 0 ||| (S.aO n e l j)[(S.sp l j).2.2.toNat]?.getD 0 else S.aB n e (S.sp l j).1.toNat]
def S.vr(n:Net)(e:List Int)(l:List Sp):List Nat:=S.aO n e l l.length
abbrev NsT:Type:=List Nat×List Nat×List Nat
def S.cq(l:List Sp)(vr:List Nat)(i:Nat)(s:NsT):NsT :=
 let xs:=s.2.1.set i (vr[i]?.getD 0 &&& s.2.2[i]?.getD 0)
 if (S.sp l i).1 = -1 then
  let c:=S.an (vr[(S.sp l i).2.1.toNat]?.getD 0 &&& vr[(S.sp l i).2.2.toNat]?.getD 0) (s.2.2[i]?.getD 0)
  (s.1.set i c,xs,(s.2.2.set (S.sp l i).2.1.toNat (s.2.2[i]?.getD 0 ||| c)).set (S.sp l i).2.2.toNat (s.2.2[i]?.getD 0 ||| c))
 else (s.1,xs,s.2.2)
def S.aQ(l:List Sp)(vr:List Nat):Nat->NsT
 |0=>(List.replicate l.length 0,List.replicate l.length 0,List.replicate l.length 0)
 |j+1=>S.cq l vr (l.length - 1 - j) (S.aQ l vr j)
structure Sta (l:List Sp) (vr cut ctx ab:List Nat):Prop where
 s0:ab[l.length - 1]?.getD 0=0
 s1:∀i,i<l.length->ctx[i]?.getD 0=vr[i]?.getD 0 &&& ab[i]?.getD 0
 s2:∀i,i<l.length->(S.sp l i).1 = -1->cut[i]?.getD 0=S.an (vr[(S.sp l i).2.1.toNat]?.getD 0 &&& vr[(S.sp l i).2.2.toNat]?.getD 0) (ab[i]?.getD 0)
 s3:∀i,i<l.length->(S.sp l i).1 = -1->ab[(S.sp l i).2.1.toNat]?.getD 0=ab[i]?.getD 0 ||| cut[i]?.getD 0
 s4:∀i,i<l.length->(S.sp l i).1 = -1->ab[(S.sp l i).2.2.toNat]?.getD 0=ab[i]?.getD 0 ||| cut[i]?.getD 0
def S.aS(w:List Int)(s:Nat):List Int:=(List.range 8).map λv=>if s.testBit v then w[v]?.getD 0 else -1
def S.af(n:Net)(s:Nat):List Nat:=(List.range n.nodes.length).filter s.testBit
def S.aW(n:Net)(l:List Nat):List Int:=l.map λv=>(S.aa n)[v]?.getD 0
def S.aF(n:Net)(l:List Nat):Nat:=(S.ae (S.aW n l)).toNat
def S.ap(n:Net)(w:List Int)(l:List Nat)(j:Nat):List Int:=S.aE w l (S.aD (S.aW n l) (j:Int))
abbrev w64 (x:Int):Int:=IntKind.wrap .i64 x
def S.cG(n:Net)(w:List Int)(v:Nat):Int:=S.sm (λj=>S.aC n (S.ap n w (S.af n (S.aB n w v)) j) v) (S.aF n (S.af n (S.aB n w v)))
abbrev Key:Type:=Int×List Int
abbrev Mem:Type:=List (Key×Int)
abbrev MSt:Type:=Mem×Int
section
variable {α:Type} [DecidableEq α]
def fT(L:List (α×Int))(k:α):Bool:=L.any λp=>decide (k=p.1)
def mgt(L:List (α×Int))(k:α):Int:=match L with
 |[]=>0
 | (a,v)::r=>if k=a then v else mgt r k
def mst(k:α)(v:Int):List (α×Int)->List (α×Int)
 |[]=>[(k,v)]
 | (a,w)::r=>if k=a then (k,v)::r else (a,w)::mst k v r
end
abbrev Rec:Type:=Nat->List Int->Nat->MSt->Int×MSt
def S.bL(rec:Rec)(n:Net)(w:List Int)(cu:List Nat)(a b ab:Nat)(st:MSt):Nat->Int×MSt
 |0=>(0,st)
 | j+1 =>
  let s:=S.bL rec n w cu a b ab st j
  let p:=rec a (S.ap n w cu j) ab s.2
  let q:=rec b (S.ap n w cu j) ab p.2
  (w64 (s.1+w64 (p.1*q.1)),q.2)
def S.ay(n:Net)(l:List Sp)(vr:List Nat)(size:Int):Nat->Rec
 |0,_,_,_,st=>(0,st)
 | f+1,i,w,ab,st =>
  if (S.sp l i).1 = -1 then
   if fT st.1 ((i:Int),S.aS w (vr[i]?.getD 0 &&& ab)) then (mgt st.1 ((i:Int),S.aS w (vr[i]?.getD 0 &&& ab)),st)
   else
    let c:=S.an (vr[(S.sp l i).2.1.toNat]?.getD 0 &&& vr[(S.sp l i).2.2.toNat]?.getD 0) ab
    let r:=S.bL (S.ay n l vr size f) n w (S.af n c) (S.sp l i).2.1.toNat (S.sp l i).2.2.toNat (ab ||| c) (st.1,w64 (st.2+1)) (S.aF n (S.af n c))
    (r.1,(if (r.2.1.length:Int)<size then mst ((i:Int),S.aS w (vr[i]?.getD 0 &&& ab)) r.1 r.2.1 else r.2.1),r.2.2)
  else (S.cG n w (S.sp l i).1.toNat,st.1,w64 (st.2+1))
def S.bG(n:Net)(e:List Int)(l:List Sp)(size:Int):Int×MSt:=S.ay n l (S.vr n e l) size l.length (l.length - 1) e 0 ([],0)
end Hx
end
section
namespace Hx
open Go
noncomputable section
abbrev BR:Type:=UInt8×UInt8×List UInt8
abbrev wH:Type:=UInt8×List BR×List UInt8
abbrev Pg:Type:=UInt8×UInt8×UInt8×Int
theorem BH{P:Nat->Prop}{k:Nat}{h:H}{x:BR}{cs:List AV}:Rp.rp P k h x cs↔∃a,cs=[u8v x.1,u8v x.2.1,a]/\SlR P k h x.2.2 a:=by
 constructor
 ·rintro⟨c1,c2,rfl,h1,c3,c4,rfl,h2,⟨a,rfl,h4⟩⟩;rw[dR.1 h1,dR.1 h2];exact⟨a,rfl,h4⟩
 ·rintro⟨a,rfl,h4⟩;exact⟨[_],[_,a],rfl,dR.2 rfl,[_],[a],rfl,dR.2 rfl,⟨a,rfl,h4⟩⟩
theorem BG{P:Nat->Prop}{k:Nat}{h:H}{x:wH}{cs:List AV}:Rp.rp P k h x cs↔∃a b,cs=[u8v x.1,a,b]/\SlR P k h x.2.1 a/\SlR P k h x.2.2 b:=by
 constructor
 ·rintro⟨c1,c2,rfl,h1,c3,c4,rfl,⟨a,rfl,ha⟩,⟨b,rfl,hb⟩⟩;rw[dR.1 h1];exact⟨a,b,rfl,ha,hb⟩
 ·rintro⟨a,b,rfl,ha,hb⟩;exact⟨[_],[a,b],rfl,dR.2 rfl,[a],[b],rfl,⟨a,rfl,ha⟩,⟨b,rfl,hb⟩⟩
theorem QH{d k k2:Nat}{g:G}{P P2:Nat->Prop}{v w:AV}{l p:List Int}(hd:0<d)(hv:SlR P k g.h l v)(hw:SlR P2 k2 g.h p w)(hp:p.length<1073741824)(hin:∀x∈p,0<=x/\x<l.length) :
  ∃r,am C0 d N.bz [v,w] g=.val r/\IT 0 (S.ac l p) r:=by
 obtain⟨v',e1,r1⟩:=fU hv d;obtain⟨w',e2,r2⟩:=fU hw d;rw[AH];refine bC DG (xs:=[v',w']) (by simp only[aJ,e1,e2]) (by simp[uF]) (bm _) (by decide) hd ?_;simp only[sz,simprocAttr,uF];have n2:=λg=>(r2 .nil).len g;have ra:∀h',ak h' 1 v'=some (l.map ci):=λh'=>(r1 h').ints;have rb:∀h',ak h' 1 w'=some (p.map ci):=λh'=>(r2 h').ints;refine Iv (v:=w') (m:=p.length) (by omega) n2 (λj t df g=>df=[]/\St t [(0,v')]/\∃u,tat t 5=u/\Own g 0 u 1 ((S.ac l (p.take j)).map ci)) ⟨rfl,by simp[St,sx],_,rfl,.inl ⟨by simp[sx],by simp[S.ac]⟩⟩ (by simp[sx]) (by simp[sx]) (by decide)
  (by rintro j t df g v s (rfl|rfl|rfl|rfl|rfl|rfl|rfl)<;>simp[sx,St]) ?_ ?_
 ·rintro j t df g1 hj ⟨rfl,⟨h0,-⟩,u,h5,hu⟩ h6 h1;obtain⟨x,hx,htk,hm⟩:=an hj;obtain⟨hx0,hxl⟩:=hin x hm;obtain⟨n,rfl⟩:=R8 hx0;have hn:n<l.length:=by omega
  simp only[sz,simprocAttr,ra,rb,h0,h1,h5,h6,hx,hj,hn,Ss,R_,TY,ci,R4 hn];refine aW (new:=[ci l[n]]) (hu.step (Fr.new _ _)) (by simp[sx,sy,ci]) (by simp) (by simp[aY,S.ac];omega) λv2 g2 hv2 n2 f2 _ l2=>?_;simp only[sz,simprocAttr,h0,h1,h6,St];refine⟨_,rfl,?_⟩;rw[htk];simpa [hn,ci,S.ac] using hv2
 ·rintro t df g1 ⟨rfl,⟨h0,-⟩,u,h5,hu⟩ -;rw[S1]at hu;simp only[sz,simprocAttr,ug,h5];exact⟨_,hu.ints (by simp[S.ac];omega)⟩
theorem JK{d k:Nat}{g:G}{P:Nat->Prop}{v:AV}{n:Net}(hd:0<d)(hm:Agg n P k g.h v)(hn:n.nodes.length<1073741824) :
  ∃r,am C0 d N.bB [v] g=.val r/\IT 0 (S.aa n) r:=by
 obtain⟨v',e,cs,rfl,hc⟩:=rP (dF n) (by decide) d hm;obtain⟨b,rfl,hN⟩:=nJ.1 hc;obtain⟨rows,r1,r2,r3,r4⟩:=hN.all;have r1:∀h',ak h' 3 b=some rows:=r1;rw[wT];refine bC zo (xs:=[.agg [.int .i64 n.grain,b]]) (by simp only[aJ,e]) (by simp[pi]) (bm _) (by decide) hd ?_;simp only[sz,simprocAttr,pi,rD,pV];refine fc n.nodes.length (by omega) (λj t df g=>df=[]/\tat t 1=.hptr 0 0 0 0/\g.h.get 0=VG 2 [[.int .i64 n.grain,b]]/\1<=g.nx/\∃u,tat t 3=u/\Own g 1 u 1 (((n.nodes.take j).map (·.card)).map ci))
  ⟨rfl,by simp[sx],by simp[sx],by simp[sx],_,rfl,.inl ⟨by simp[sx],rfl⟩⟩ (by simp[sx]) (by decide)
  (by rintro j t df g v s (rfl|rfl|rfl)<;>simp[sx]) ?_ ?_ ?_
 ·rintro j t df g hj ⟨rfl,h1,hg,hnx,u,h3,hu⟩ h4;simp only[sz,simprocAttr,h1,h4,hg,hN.len];exact⟨hnx,u,h3,hu⟩
 ·rintro j t df g hj ⟨rfl,h1,hg,hnx,u,h3,hu⟩ h4;obtain⟨x,hx,htk,hm⟩:=an hj;obtain⟨row,q1,q2⟩:=r3 j x hx;obtain⟨a',b',rfl,ha',-⟩:=cK.1 q2;have hlt:j<rows.length:=by omega
  have hry:=r4 (by omega);simp only[sz,simprocAttr,h1,h3,h4,hg,r1,hlt,q1,hry];refine aW (new:=[ci x.card]) (hu.step (Fr.new _ _)) (by simp[sx,sy,ci]) (by simp) (by simp[aY];omega) λv2 g2 hv2 n2 f2 _ l2=>?_;simp only[sz,simprocAttr,h1,h4];refine⟨?_,?_,_,rfl,?_⟩
  ·rw[f2 0 (by simp) (λe=>by have:=(hu.lt e).1;omega),G.new_h,af _ _ _ (by omega),hg]
  ·simp at n2;omega
  ·rw[htk];simpa [ci] using hv2
 ·rintro t df g ⟨rfl,h1,hg,hnx,u,h3,hu⟩;rw[S1]at hu;simp only[sz,simprocAttr,pW,h3];exact⟨_,hu.ints (by simp;omega)⟩
theorem JD{d k:Nat}{g:G}{P:Nat->Prop}{v:AV}{n:Net}{i:Nat}{x:Node}(hd:0<d)(hm:Agg n P k g.h v)(hn:n.nodes.length<1073741824)(hx:n.nodes[i]?=some x)(hl:x.parents.length<1073741824)(hin:∀p∈x.parents,0<=p/\p<n.nodes.length) :
  ∃r,am C0 d N.bE [v,.int .i64 (i:Int)] g=.val r/\IT 0 (S.ac (S.aa n) x.parents) r:=by
 obtain⟨v',e,cs,rfl,hc⟩:=rP (dF n) (by decide) d hm;have hc':=hc;obtain⟨b,rfl,hN⟩:=nJ.1 hc;have hm':∀h,Agg n NoP (max k d) h (.agg [.int .i64 n.grain,b]):=λh=>⟨_,rfl,Rp.tree hc' (R5 _)⟩;obtain⟨rows,r1,r2,r3,r4⟩:=hN.all;have r1:∀h',ak h' 3 b=some rows:=r1;obtain⟨row,q1,q2⟩:=r3 i x hx;obtain⟨a',b',rfl,ha',-⟩:=cK.1 q2;have hil:=(R6.1 hx).1;have hlt:i<rows.length:=by omega
 have hry:=r4 (by omega);rw[qv];refine bC si (xs:=[.agg [.int .i64 n.grain,b],.int .i64 (i:Int)]) (by simp only[aJ,e,dS 0]) (by simp[im]) (bm _) (by decide) hd ?_;simp only[sz,simprocAttr,im,j_];refine kU (JK (SH d) (hm' _) hn) λrc hrc=>?_;have hat:=λg=>QH (d:=d+1) (g:=g) (P:=NoP) (P2:=NoP) (k:=0) (k2:=max k d) (l:=S.aa n) (p:=x.parents) (SH d) (hrc.sl g.h) (ha'.tree (h':=g.h) (R5 _)) hl (λp hp=>by rw[aX];exact hin p hp);simp only[sz,simprocAttr,r1,hlt,q1,hry];refine kU (hat _) λr hr=>?_;simp only[sz,simprocAttr];obtain⟨w,hw,hs⟩:=hr;exact⟨_,w,hw,hs.tree (R5 _)⟩
theorem MQ{d k:Nat}{g:G}{P:Nat->Prop}{v:AV}{l:List Int}(hd:0<d)(hv:SlR P k g.h l v):am C0 d N.aP [v] g=.val (.int .i64 (S.bV l)):=by have b:=HG hv.ints;have:=OY hd (Jo hv.ints) (by rw[b];exact hv.1);rwa [b]at this
theorem gG{g:G}{v:AV}{n:Net}(d:Nat)(hm:Agg n NoP 0 g.h v):∃b rows,v=.agg [.int .i64 n.grain,b]/\Hx.snap g.h d aE v=some v/\(∀h,Agg n NoP 0 h v)/\SlR NoP 0 .nil n.nodes b/\(∀h,ak h 3 b=some rows)/\rows.length=n.nodes.length /\
  (∀(i:Nat) (x:Node),n.nodes[i]?=some x->∃pa ra,rows[i]?=some [.int .i64 x.card,pa,ra]/\i<rows.length/\SlR NoP 0 .nil x.parents pa/\SlR NoP 0 .nil x.rows ra)/\(0<n.nodes.length->Ak b=true):=by
 have e:=mK d hm;obtain⟨cs,rfl,hc⟩:=hm;have hc':=hc;obtain⟨b,rfl,hN⟩:=nJ.1 hc;have hN:=hN.tree (h':=.nil) (R5 _);obtain⟨rows,r1,r2,r3,r4⟩:=hN.all;refine⟨b,rows,rfl,e,λh=>⟨_,rfl,Rp.tree hc' (R5 _)⟩,hN,r1,r2,λi x hx=>?_,r4⟩;obtain⟨row,q1,q2⟩:=r3 i x hx;obtain⟨a',b',rfl,ha',hb'⟩:=cK.1 q2;exact⟨a',b',q1,by rw[r2];exact (R6.1 hx).1,ha',hb'⟩
theorem CO{k:Nat}{l:List (List Int)}{b:AV}(hb:SlR NoP k .nil l b):∃rows:List (List AV),(∀h,ak h 1 b=some rows)/\rows.length=l.length/\(∀(i:Nat) (r:List Int),l[i]?=some r->∃z,rows[i]?=some [z]/\i<rows.length/\SlR NoP k .nil r z)/\(0<l.length->Ak b=true):=by obtain⟨rows,r1,r2,r3,r4⟩:=hb.all;refine⟨rows,r1,r2,λi r hr=>?_,r4⟩;obtain⟨row,q1,q2⟩:=r3 i r hr;obtain⟨z,rfl,hz⟩:=mA.1 q2;exact⟨z,q1,by rw[r2];exact (R6.1 hr).1,hz⟩
section
variable {d:Nat}{b pa ra z:AV}{gr card:Int}{r:List Int}
def LR5(v:Nat)(q:Nat):List (Nat×AV):=[(1,.hptr 0 0 0 0),(6,.int .i64 (v:Int)),(7,.hptr q 0 0 0)]
structure RJ1 (gr:Int) (r:List Int) (v q i j:Nat) (t:T):Prop where
 st:St t ((8,.int .i64 (i:Int))::LR5 v q)
 s9:tat t 9=.int .i64 (r.take j).sum
 all:∀y∈r.take j,0<=y/\y<=gr
structure RJ4 (gr card:Int) (rws:List (List Int)) (v q j:Nat) (t:T):Prop where
 st:St t (LR5 v q)
 all:∀r∈rws.take j,S.bA gr card r=true
structure RJ0 (n:Net) (b:AV) (j:Nat) (t:T) (g:G):Prop where
 st:St t [(1,.hptr 0 0 0 0),(3,.int .i64 (S.ae ((S.aa n).take j)))]
 hg:g.h.get 0=VG 2 [[.int .i64 n.grain,b]]
 nx:1<=g.nx
 all:∀x∈n.nodes.take j,S.cR n.nodes.length x=true
structure RJ6 (n:Net) (b:AV) (j:Nat) (t:T) (g:G):Prop where
 st:St t [(1,.hptr 0 0 0 0)]
 hg:g.h.get 0=VG 2 [[.int .i64 n.grain,b]]
 nx:1<=g.nx
 all:∀x∈n.nodes.take j,S.cS n x=true
end
end
end Hx
end
section
namespace Hx
open Go
noncomputable section
def OwnC(g:G)(b id:Nat)(l tl:List Int):Prop:=b<=id/\id<g.nx/\g.h.get id=VG 1 (l.map ci++tl.map ci)
theorem OwnC.rows{g:G}{b id:Nat}{l tl:List Int}(h:OwnC g b id l tl):ak g.h 1 (.hsl id 0 0 l.length none)=some (l.map ci):=by rw[e_,h.2.2,cM,Sb (by simp),Uz,List.take_left' (by simp)]
theorem OwnC.fr{g g':G}{b id:Nat}{l tl:List Int}(h:OwnC g b id l tl)(hn:g.nx<=g'.nx)(hf:g'.h.get id=g.h.get id):OwnC g' b id l tl:=⟨h.1,SB h.2.1 hn,by rw[hf,h.2.2]⟩
theorem Rm{g:G}{b n:Nat}{K:AV->G->Prop}{D:ADf->Prop}(hn:n<=1000)(hb:b<=g.nx)(k:∀g',OwnC g' b g.nx [] (List.replicate n 0)->g'.nx=g.nx+1->(∀i,i<g.nx->g'.h.get i=g.h.get i)->K (.hsl g.nx 0 0 0 none) g') :
  (Gd 1 8 [.int .i64 0] (.int .i64 0) (.int .i64 (n:Int)) g).sat K g D:=by
 have h1:n<=aY:=by unfold aY;omega
 have h2:n*8<=aY:=by unfold aY;omega
 have key:Gd 1 8 [.int .i64 0] (.int .i64 0) (.int .i64 (n:Int)) g=.upd (.hsl g.nx 0 0 0 none) (g.new (VG 1 (jt n [.int .i64 0]))):=by
  show (match dP aY (.int .i64 (.ofNat n)) with
   | some cn=>match dP cn (.int .i64 0) with
    |some ln=>aB (Nat.ble (cn*8) aY) (OR.upd (.hsl g.nx 0 0 ln none) (g.new (VG 1 (jt cn [.int .i64 0])))) .fail
    |none=>.fail
   |none=>.fail)=_
  have a1:dP aY (.int .i64 (.ofNat n))=some n:=by show aB (Nat.ble n aY) (some n) none=_;rw[aa,Sb (by simpa using h1)]
  have a2:dP n (.int .i64 0)=some 0:=by show aB (Nat.ble 0 n) (some 0) none=_;rw[aa,Sb (by simp)]
  rw[a1];dsimp only;rw[a2];dsimp only;rw[aa,Sb (by simpa using h2)]
 rw[key];refine k _ ⟨hb,by simp,?_⟩ (by simp) (λi hi=>?_)
 ·simp[aS,jt,ci]
 ·rw[G.new_h,af _ _ _ (by omega)]
theorem Kj{g:G}{b id:Nat}{l tl:List Int}{x y:Int}{w:AV}{K:AV->G->Prop}{D:ADf->Prop}(hv:OwnC g b id l (y::tl))(hx:ak g.h 1 w=some [ci x])(hr:l.length<=1000)
  (k:∀g',OwnC g' b id (l++[x]) tl->g'.nx=g.nx->(∀i,i≠id->g'.h.get i=g.h.get i)->K (.hsl id 0 0 (l++[x]).length none) g'):(dC 1 8 (.hsl id 0 0 l.length none) w g).sat K g D:=by
 unfold dC;rw[hx];obtain⟨h1,h2,h3⟩:=hv;simp only[bf,G.get_eq,h3,ay,aa,SQ,Td,SS,R7,SU,Un,Uu,SZ,Ss,SJ,T8];rw[Sb ⟨by omega,by unfold aY;omega⟩,Sb (by omega)];have hnb:j3 false=true:=rfl;rw[Sb ⟨by omega,hnb⟩];have e:my (l.map ci++(y::tl).map ci) l.length [ci x]=(l++[x]).map ci++tl.map ci:=by simp only[my,gV];rw[TA,S7,Te,TE _ _ (by simp)];simp
 rw[e];have k:=k (g.put id (VG 1 ((l++[x]).map ci++tl.map ci))) ⟨h1,by simpa using h2,by simp[aS]⟩ (by simp) (λi hi=>by rw[G.put_h,af _ _ _ hi]);have e3:l.length+1=(l++[x]).length:=by simp
 rw[e3];exact k
def Q7(p:List Nat):VS:=λP k h v=>∃o:List Int,True/\wI (One o) (One (S.bW p)) P k h v
theorem JZ{d k:Nat}{g:G}{P:Nat->Prop}{v:AV}{p:List Nat}(hd:0<d)(hv:SlR P k g.h p v)(hn:p.length<=8)(hp:∀x∈p,x<2 ^ p.length) :
  ∃z,am C0 d N.bw [v] g=.val z/\Q7 p NoP 0 .nil z:=by
 obtain⟨v',e,r1⟩:=fU hv d;have hlt:=BU hv;rw[xY];refine bC AM (xs:=[v']) (by simp only[aJ,e]) (by simp[qC]) (lj λo=>gJ (m:=1) (bm _) (bm _) (by decide) (by decide)) (by decide) hd ?_;have vl:∀g,dO .slice v' g=.val (.int .i64 (p.length:Int)):=λg=>(r1 .nil).len g;simp only[sz,simprocAttr,qC,vl];refine Rm (b:=0) (n:=p.length) (by omega) (S2 _) λg1 hu hn1 hf1=>?_;obtain⟨id,hid⟩:∃id,id=G.empty.nx:=⟨_,rfl⟩;rw[<-hid]at hu ⊢;clear hid hn1 hf1;simp only[sz,simprocAttr];refine jZ (λn t df g=>df=[]/\∃(L:List Nat) (D:Nat) (tl:List Int),n=p.length - L.length/\L.length+tl.length=p.length/\ID p L/\PW D L/\IB p D/\St t [(0,v'),(4,.hsl id 0 0 (L.map λi:Nat=>(i:Int)).length none),(5,.int .u64 (D:Int))]/\OwnC g 0 id (L.map λi:Nat=>(i:Int)) tl) p.length
  ⟨rfl,[],0,List.replicate p.length 0,by simp,by simp,⟨by simp,by simp⟩,⟨by decide,by simp⟩,Bq,by simp[sx,St],hu⟩ ?_
 rintro n t df g ⟨rfl,L,D,tl,rfl,hLt,hO,hD,hG,⟨h0,h4,h5,-⟩,hu⟩;have hLl:=Mt hO;have hul:∀g',dO .slice (.hsl id 0 0 (L.map λi:Nat=>(i:Int)).length none) g'=.val (.int .i64 (L.length:Int)):=λg'=>by rw[qf hu.rows];simp
 simp only[sz,simprocAttr,ro,h0,h4,vl,hul];refine fI (λhb=>?_) (λhb=>?_)
 ·have hlt2:L.length<p.length:=by simpa using hb
  obtain⟨y,tl,rfl⟩:∃y tl',tl=y::tl':=by
   cases tl with
   |nil=>simp at hLt;omega
   |cons y tl=>exact⟨y,tl,rfl⟩
  simp only[sz,simprocAttr,h0,vl,rm];refine aK (m:=p.length) (by omega) (λj t df g'=>df=[]/\g'=g/\St t [(0,v'),(16,v'),(4,.hsl id 0 0 (L.map λi:Nat=>(i:Int)).length none),(5,.int .u64 (D:Int))]/\∀v,v<j->D.testBit v=true\/¬Sub (Par p v) D)
   ⟨rfl,rfl,by simp[sx,St,h0,h4,h5],λv hv=>by omega⟩ (by simp[sx]) (by simp[sx]) (by decide) (by rintro j t df g v s (rfl|rfl|rfl)<;>simp[sx,St]) ?_ ?_
  ·rintro j t df g' hj ⟨rfl,rfl,⟨h0,h16,h4,h5,-⟩,hall⟩ h18 h17;obtain⟨x,hx,-,hxm⟩:=an hj;have hpj:Par p j=x:=by simp[Par,hx]
   have hxl:=hlt x hxm;have hjl:j<(p.map cu).length:=by simpa using hj
   have hjr:(p.map cu)[j]?=some (cu x):=by rw[R_,hx];rfl
   have b1:=tB .i64 D j hD.1;have hdv:D / 2 ^ j<18446744073709551616:=Uy (T9 _ _) hD.1;have b2:bU .and (.int .u64 ((D / 2 ^ j:Nat):Int)) (.int .u64 1)=.val (.int .u64 ((D / 2 ^ j &&& 1:Nat):Int)):=qp _ 1 hdv (by decide);have b3:=yS x D hxl hD.1;have ra:=λh=>(r1 h).nats;have hbit:D.testBit j = !decide (((D / 2 ^ j &&& 1:Nat):Int)=0):=by
    rw[<-vQ,S.cF];have h2:D / 2 ^ j &&& 1=(D / 2 ^ j) % 2:=Nat.and_one_is_mod _;rw[h2];have:=TD (D / 2 ^ j) (show 0<2 by decide)
    by_cases h3:D / 2 ^ j % 2=0
    ·rw[h3];simp
    ·have h4:D / 2 ^ j % 2=1:=by omega
     rw[h4];simp
   have next:(D.testBit j=true\/¬Sub (Par p j) D)->∀v,v<j+1->D.testBit v=true\/¬Sub (Par p v) D:=λh v hv=>by
    by_cases e:v=j
    ·subst e;exact h
    ·exact hall v (by omega)
   by_cases c1:((D / 2 ^ j &&& 1:Nat):Int)=0
   ·by_cases c2:((x ^^^ (x &&& D):Nat):Int)=0
    ·have hd0:S.an x D=0:=by simpa [S.an] using c2
     have hsub:=Bi.1 hd0;have hjL:j ∉ L:=λh=>by have:=(hD.2 j).2 h;rw[hbit,c1]at this;simp at this
     have hb2:D ||| S.aG j<18446744073709551616:=Ms hD.1 (oJ j);simp only[sz,simprocAttr,h16,h4,h5,h18,b1,b2,b3,ra,hjl,hjr,cu,c1,c2];refine Kj (x:=(j:Int)) (hu.fr (by simp) (by rw[G.new_h,af _ _ _ (by have:=hu.2.1;omega)])) (by simp[sx,sy,ci]) (by simp;omega) λg2 hu2 n2 f2=>?_;have hone:bU .shl (.int .u64 1) (.int .i64 (j:Int))=.val (.int .u64 (S.aG j:Int)):=i6 .i64 j;have e1:(L.map λi:Nat=>(i:Int))++[(j:Int)]=(L++[j]).map λi:Nat=>(i:Int):=by simp
     rw[e1]at hu2 ⊢;simp only[sz,simprocAttr,h5,hone,qq _ _ hD.1 (oJ j)];refine⟨p.length - (L++[j]).length,by simp;omega,L++[j],D ||| S.aG j,tl,rfl,by simp at hLt ⊢;omega,JC hO hjL hj λq hq=>?_,JV hD (by omega),D8 hG (by omega) (by rw[hpj];exact hsub),by simp[sx,St,h0],hu2⟩;rw[hpj]at hq;exact (hD.2 q).1 (hsub q hq)
    ·have hns:¬Sub (Par p j) D:=λh=>c2 (by
      have:=Bi.2 h;rw[hpj]at this;simp[S.an]at this;simp[this])
     simp only[sz,simprocAttr,h0,h16,h4,h5,h18,h17,b1,b2,b3,ra,hjl,hjr,cu,c1,c2,St];exact next (.inr hns)
   ·simp only[sz,simprocAttr,h0,h16,h4,h5,h18,h17,b1,b2,ra,hjl,hjr,cu,c1,St];exact next (.inl (by rw[hbit,S6 c1];rfl))
  ·rintro t df g' ⟨rfl,rfl,-,hall⟩;obtain⟨v0,hv0,hv0'⟩:=Ow hO hlt2;have hac:S.bW p=false:=by
    cases hc:S.bW p with
    |false=>rfl
    | true =>
     have:=BV hp hc (T:=D) (λv hv hb=>by
      rcases hall v hv with h|h
      ·rw[h]at hb;cases hb
      ·exact h) v0 hv0
     exact absurd ((hD.2 v0).1 this) hv0'
   simp only[sz,simprocAttr,rA];exact⟨λ_=>True,[],.nils,.bool false,rfl,⟨.nils,rfl,by show 0<9223372036854775808;decide,rfl⟩,mz.2 (by rw[hac])⟩
 ·have hge:p.length<=L.length:=by simp at hb;omega
  have htl:tl=[]:=SD (by omega);subst htl;have hfull:=JB hO hge;have hac:=uY hG λv hv=>(hD.2 v).2 (hfull.1 v hv);simp only[sz,simprocAttr,rB,h4];refine⟨λ_=>True,L.map (λi:Nat=>(i:Int)),_,_,rfl,⟨_,rfl,by simp;omega,trivial,_,hu.rows,RS (λa=>aI.2 rfl) _⟩,mz.2 (by rw[hac])⟩
theorem JN{C:Cfg}{d id nt:Nat}{t:T}{ps:List Nat}{assign body:Code}{a b:SC}{dfr:Nat}{args:List AV}{g:G}{K:AV->G->Prop}{D:ADf->Prop}{t':T}
  (hg:g.h.get id=.loop nt t ps assign body dfr .ready none) (ha:fk C nt assign=a) (hb:fk C nt body=b) (hp:cP t nt ps args=some t')
  (h:wp C d (some id) a (λe t1 df g1=>e=.norm/\df=[]/\g1=g /\
   wp C d (some id) b (λe _ df g2=>df=[]/\g2.h.get id=.loop nt t ps assign body dfr .busy none/\((e=.norm/\K (.bool true) (g2.put id (.loop nt t ps assign body dfr .ready none)))\/(e=.ret/\K (.bool false) (g2.put id (.loop nt t ps assign body dfr .done (some .ret))))))
    t1 [] (g.put id (.loop nt t ps assign body dfr .busy none))) t' [] g) :
  (cp (I C) d id args g).sat K g D:=by
 subst ha;subst hb;unfold cp;rw[show g.get id=_ from hg];dsimp only;rw[hp];dsimp only;have h1:=tA h;cases hc:(I C).code nt d (some id) assign t' [] g with
 |fail=>rw[hc]at h1;exact h1.elim
 | ok e t1 df g1 =>
  rw[hc]at h1;obtain⟨rfl,rfl,rfl,h2⟩:=h1;dsimp only;rw[show g1.get id=_ from hg];dsimp only;have h3:=tA h2;cases hc2:(I C).code nt d (some id) body t1 [] (g1.put id (.loop nt t ps assign body dfr .busy none)) with
  |fail=>rw[hc2]at h3;exact h3.elim
  | ok e t2 df2 g2 =>
   rw[hc2]at h3;obtain⟨rfl,h4,h5⟩:=h3;dsimp only;rw[show g2.get id=_ from h4];rcases h5 with⟨rfl,h5⟩|⟨rfl,h5⟩<;>exact h5
theorem qY{C:Cfg}{d nt:Nat}{f:Od}{ps:List Nat}{a b:SC}{Q:QT}{t:T}{df:List ADf}{g:G}{fn:Nat}{first cap:List AV}{s:SF}(hv:f.get t=.clo fn first cap)(he:C.ext fn=none)(hs:nFn C fn=some s)
  (hl:(first++(.yld (g.nx+1)::cap)).length<=s.nt)
  (h:∀assign body,fk C nt assign=a->fk C nt body=b ->
   wp C d none s.code (fnQ C d s.res λ_ g2=>∃nt' t' ps' as' bd' dfr',(g2.h.get (g.nx+1)=.loop nt' t' ps' as' bd' dfr' .ready none/\Q .norm t (.mark g.nx::df) (g2.put (g.nx+1) (.loop nt' t' ps' as' bd' dfr' .exhausted none))) \/
     (g2.h.get (g.nx+1)=.loop nt' t' ps' as' bd' dfr' .done (some .ret)/\Q .ret t (.mark g.nx::df) (g2.put (g.nx+1) (.loop nt' t' ps' as' bd' dfr' .exhausted (some .ret)))))
    (co 0 (first++(.yld (g.nx+1)::cap)) .nil) [] ((g.new (.dfr true)).new (.loop nt t ps assign body g.nx .ready none))) :
  wp C d none (.rng nt f ps a b) Q t df g:=by
 intro assign body ha hb;have h:=qt hs hl (h assign body ha hb);show (cO C (I C) nt d none (f.get t) ps assign body t (.mark g.nx::df) g.nx (g.new (.dfr true))).sat Q;rw[hv];unfold cO;dsimp only;rw[he];show (match (I C).call d fn (first++(AV.yld (g.nx+1)::cap)) ((g.new (.dfr true)).new (.loop nt t ps assign body g.nx .ready none)) with
  |.ok _ g2=>eL (I C) nt d none (g.nx+1) t (.mark g.nx::df) g2
  |.fail=>.fail).sat Q
 cases hc:(I C).call d fn (first++(AV.yld (g.nx+1)::cap)) ((g.new (.dfr true)).new (.loop nt t ps assign body g.nx .ready none)) with
 |fail=>rw[hc]at h;exact h.elim
 | ok v g2 =>
  rw[hc]at h;obtain⟨nt',t',ps',as',bd',dfr',h⟩:=h;show (eL (I C) nt d none (g.nx+1) t (.mark g.nx::df) g2).sat Q;unfold eL;rcases h with⟨h1,h2⟩|⟨h1,h2⟩
  ·rw[show g2.get (g.nx+1)=_ from h1];exact h2
  ·rw[show g2.get (g.nx+1)=_ from h1];dsimp only;rw[Fp];exact h2
def RwV(x:Node):VS:=λP k h v=>∃p,v=.clo N.ah [] [p] /\
 ((∃id cs,p=.hptr id 0 0 0/\P id/\h.get id=VG 3 [cs]/\Rp.rp P k h x cs)\/∃t cs,p=.tptr t 3 [cs] 0 0/\t<=k/\Rp.rp NoP k .nil x cs)
theorem QR(x:Node):Snb (RwV x) 2:=by
 refine⟨λ{P k h v n} d r hn=>?_,λ{k h v n} r hn=>?_⟩
 ·obtain⟨p,rfl,r⟩:=r;obtain⟨n,rfl⟩:∃q,n=q+2:=⟨n - 2,by omega⟩;rcases r with⟨id,cs,rfl,-,hg,r⟩|⟨t,cs,rfl,ht,r⟩
  ·obtain⟨cs',e,r'⟩:=Rp.snap (n:=n) d r (by show (_:Nat)<=n;exact Sz (show Rp.dp Node<=20 by decide) (by omega)) (by decide);obtain⟨m,e2,l2⟩:=Rp.tag (n:=aE) r' (by decide);refine⟨.clo N.ah [] [.tptr (Nat.max d (Nat.max m 0)) 3 [cs'] 0 0],?_,_,rfl,.inr ⟨_,cs',rfl,?_,r'⟩⟩
   ·have:Hx.snap h d (n+1) (.hptr id 0 0 0)=some (.tptr (Nat.max d (Nat.max m 0)) 3 [cs'] 0 0):=by simp only[Hx.snap,hg,show Nat.beq 0 0=true from rfl,aJ,e,gW,iK,e2]
    simp only[Hx.snap,aJ]at this ⊢;rw[this]
   ·show max d (max m 0)<=max k d;omega
  ·refine⟨.clo N.ah [] [.tptr t 3 [cs] 0 0],rfl,_,rfl,.inr ⟨t,cs,rfl,by omega,Rp.mono r (λi hi=>hi.elim) (by omega)⟩⟩
 ·obtain⟨p,rfl,r⟩:=r;obtain⟨n,rfl⟩:∃q,n=q+2:=⟨n - 2,by omega⟩;rcases r with⟨id,cs,rfl,hP,-⟩|⟨t,cs,rfl,ht,r⟩
  ·exact hP.elim
  ·exact⟨Nat.max t 0,rfl,by show max t 0<=k;omega⟩
theorem zX{d:Nat}{g:G}{v:AV}{x:Node}(hd:0<d)(hm:Agg x NoP 0 g.h v) :
  ∃pa ra,am C0 d N.aA [v] g=.val (.clo N.ah [] [.tptr 0 3 [[.int .i64 x.card,pa,ra]] 0 0])/\SlR NoP 0 .nil x.parents pa/\SlR NoP 0 .nil x.rows ra:=by
 have e0:=mK d hm;obtain⟨cs,rfl,hc⟩:=hm;obtain⟨a,b,rfl,hR,hN⟩:=cK.1 hc;have key:∃r,am C0 d N.aA [.agg [.int .i64 x.card,a,b]] g=.val r/\RwV x NoP 0 .nil r:=by rw[AG];refine bC DF (xs:=[.agg [.int .i64 x.card,a,b]]) (by simp only[aJ,e0]) (by simp[uE]) (QR x) (by decide) hd ?_;simp only[sz,simprocAttr,uE,vJ];exact⟨λ_=>True,_,rfl,.inl ⟨0,_,rfl,trivial,by simp[sx],Rp.tree hc (R5 _)⟩⟩
 obtain⟨r,h1,p,rfl,h2⟩:=key;rcases h2 with⟨id,cs,rfl,hP,-⟩|⟨t,cs,rfl,ht,hr⟩
 ·exact hP.elim
 ·have:t=0:=by omega
  subst this;obtain⟨a',b',rfl,hR',hN'⟩:=cK.1 hr;exact⟨a',b',h1,hR',hN'⟩
theorem vM(fo l sz i off:Nat)(rows:List (List AV)):K0 fo (.tptr l sz rows i off)=.val (.tptr l sz rows i (off+fo)):=rfl
theorem MK{d id:Nat}{c:Int}{pa ra:AV}{rws:List (List Int)}{g0:G}{K:AV->G->Prop}(hra:SlR NoP 0 .nil rws ra)(J:Nat->H->Prop)(E:G->Prop)
  (step:∀(j:Nat) (r:List Int) (z:AV) (g:G) (K':AV->G->Prop) (D:ADf->Prop),rws[j]?=some r->SlR NoP 0 .nil r z->g0.nx<=g.nx->J j g.h ->
   (∀g',J (j+1) g'.h->g.nx<=g'.nx->K' (.bool true) g')->(∀g',E g'->K' (.bool false) g')->(cp (I C0) d id [.int .i64 (j:Int),z] g).sat K' g D)
  (h0:J 0 g0.h) (fin:∀g',J rws.length g'.h->g0.nx<=g'.nx->K (.tup []) g') (finE:∀g',E g'->K (.tup []) g') :
  wp C0 d none gP.code (fnQ C0 d gP.res K) (co 0 [.yld id,.tptr 0 3 [[.int .i64 c,pa,ra]] 0 0] .nil) [] g0:=by
 obtain⟨rr,s1,s2,s3,s4⟩:=CO hra;simp only[sz,simprocAttr,gP,rk,vM,kP,hra.len];refine aK (m:=rws.length) hra.1 (λj t df g=>df=[]/\St t [(0,.yld id),(6,ra)]/\J j g.h/\g0.nx<=g.nx) ⟨rfl,by simp[St,sx],h0,R5 _⟩ (by simp[sx]) (by simp[sx]) (by decide) (by rintro j t df g v s (rfl|rfl|rfl)<;>simp[St,sx]) ?_ ?_
 ·rintro j t df g hj ⟨rfl,⟨h0,h6,-⟩,hJ,hn⟩ h8 h7;obtain⟨r,hr,-,-⟩:=an hj;obtain⟨z,q2,q3,hz⟩:=s3 j r hr;have hry:=s4 (by omega);simp only[sz,simprocAttr,h0,h6,h8,s1,q2,q3];show (cp (I C0) d id [.int .i64 (j:Int),z] g).sat _ _ _;refine step j r z g _ _ hr hz hn hJ (λg' hJ' hn'=>?_) λg' hE=>?_
  ·simp only[sz,simprocAttr,h7,h8];simp[St,sx,h0,h6,hJ',Sz hn hn']
  ·simp only[sz,simprocAttr];exact finE g' hE
 ·rintro t df g ⟨rfl,-,hJ,hn⟩;simp only[sx,↓reduceIte];exact fin g hJ hn
theorem FH:C0.ext N.ah=none:=by kernel_rfl
structure RowQ (b:Nat) (g2 g3:G) (e:Ex) (A B:Prop):Prop where
 nx:g2.nx<=g3.nx
 fr:∀i,b<=i->i<g2.nx->g3.h.get i=g2.h.get i
 st:(e=.norm/\A)\/(e=.ret/\B)
theorem EV{d nt y p q:Nat}{c:Int}{pa ra:AV}{rws:List (List Int)}{ca cb:SC}{Q:QT}{t:T}{g:G}(hra:SlR NoP 0 .nil rws ra)(hv:tat t y=.clo N.ah [] [.tptr 0 3 [[.int .i64 c,pa,ra]] 0 0])(hp:p<nt)(hq:q<nt)
  (J:Nat->H->Prop) (E:H->Prop) (hJ:∀j h h',(∀i,i<g.nx->h'.get i=h.get i)->J j h->J j h') (hE:∀h h',(∀i,i<g.nx->h'.get i=h.get i)->E h->E h') (h0:J 0 g.h)
  (step:∀(j:Nat) (r:List Int) (z:AV) (g1:G),rws[j]?=some r->SlR NoP 0 .nil r z->J j g1.h->g.nx+2<=g1.nx ->
   wp C0 d (some (g.nx+1)) ca (λe t1 df g1'=>e=.norm/\df=[]/\g1'=g1/\∀g2:G,g2.nx=g1.nx->(∀i,i≠g.nx+1->g2.h.get i=g1.h.get i) ->
    wp C0 d (some (g.nx+1)) cb (λe _ df g3=>df=[]/\RowQ g.nx g2 g3 e (J (j+1) g3.h) (E g3.h)) t1 [] g2)
    (fq (fq t p (.int .i64 (j:Int))) q z) [] g1)
  (fin:∀g',J rws.length g'.h->g.nx+2<=g'.nx->g'.h.get g.nx=.dfr true->Q .norm t [.mark g.nx] g')
  (finE:∀g',E g'.h->g.nx+2<=g'.nx->g'.h.get g.nx=.dfr true->Q .ret t [.mark g.nx] g') :
  wp C0 d none (.rng nt (.t y) [p,q] ca cb) Q t [] g:=by
 refine qY (fn:=N.ah) (first:=[]) (cap:=[.tptr 0 3 [[.int .i64 c,pa,ra]] 0 0]) (s:=gP) hv FH AL (by simp[gP]) ?_;intro assign body ha hb;have e1:((g.new (.dfr true)).new (.loop nt t [p,q] assign body g.nx .ready none)).nx=g.nx+2:=by simp
 refine MK (g0:=(g.new (.dfr true)).new (.loop nt t [p,q] assign body g.nx .ready none)) (id:=g.nx+1) hra
  (λj h=>J j h/\h.get g.nx=.dfr true/\h.get (g.nx+1)=.loop nt t [p,q] assign body g.nx .ready none)
  (λg'=>E g'.h/\g'.h.get g.nx=.dfr true/\g'.h.get (g.nx+1)=.loop nt t [p,q] assign body g.nx .done (some .ret)/\g.nx+2<=g'.nx) ?_ ?_ ?_ ?_
 ·rintro j r z g1 K' D hr hz hn ⟨a1,a2,a3⟩ kk kE;rw[e1]at hn;refine JN a3 ha hb (t':=fq (fq t p (.int .i64 (j:Int))) q z) ?_ ?_
  ·simp only[cP,aa,Tg,Sb hp,Sb hq];rfl
  ·refine cw _ (step j r z g1 hr hz a1 (by omega)) ?_;rintro e t1 df g1' ⟨rfl,rfl,rfl,h⟩;refine⟨rfl,rfl,rfl,?_⟩;have hl:g.nx+1<g1'.nx:=by omega
   refine cw _ (h (g1'.put (g.nx+1) (.loop nt t [p,q] assign body g.nx .busy none)) (by simp) (λi hi=>by simp[RW,hi])) ?_;rintro e t2 df g3 ⟨rfl,⟨b2,b3,b1⟩⟩;have b4:g3.h.get (g.nx+1)=.loop nt t [p,q] assign body g.nx .busy none:=by rw[b3 _ (by omega) (by simpa using hl)];simp[RW]
   have b5:g3.h.get g.nx=.dfr true:=by rw[b3 _ (by omega) (by simp;omega)];simp[RW,a2]
   refine⟨rfl,b4,?_⟩;rcases b1 with⟨rfl,b1⟩|⟨rfl,b1⟩
   ·refine .inl ⟨rfl,kk _ ⟨hJ _ g3.h _ (λi hi=>by simp[RW,show ¬i=g.nx+1 by omega]) b1,?_,?_⟩ (by simpa using b2)⟩
    ·simp[RW,b5]
    ·simp[RW]
   ·refine .inr ⟨rfl,kE _ ⟨hE g3.h _ (λi hi=>by simp[RW,show ¬i=g.nx+1 by omega]) b1,?_,?_,?_⟩⟩
    ·simp[RW,b5]
    ·simp[RW]
    ·simp at b2 ⊢;omega
 ·refine⟨hJ 0 g.h _ (λi hi=>?_) h0,?_,?_⟩
  ·simp[RW,show ¬i=g.nx+1 by omega,show ¬i=g.nx by omega]
  ·simp[RW]
  ·simp[RW]
 ·rintro g' ⟨a1,a2,a3⟩ hn;rw[e1]at hn;refine⟨_,_,_,_,_,_,.inl ⟨a3,fin _ (hJ _ g'.h _ (λi hi=>by simp[RW,show ¬i=g.nx+1 by omega]) a1) (by simpa using hn) ?_⟩⟩;simp[RW,a2]
 ·rintro g' ⟨a1,a2,a3,hn⟩;refine⟨_,_,_,_,_,_,.inr ⟨a3,finE _ (hE g'.h _ (λi hi=>by simp[RW,show ¬i=g.nx+1 by omega]) a1) (by simpa using hn) ?_⟩⟩;simp[RW,a2]
abbrev NwM:Type:=Net×List Int×List Nat×List Int
theorem ww{P:Nat->Prop}{k:Nat}{h:H}{x:NwM}{cs:List AV}:Rp.rp P k h x cs↔∃a b c e,cs=[.int .i64 x.1.grain,a,b,c,e]/\SlR P k h x.1.nodes a/\SlR P k h x.2.1 b/\SlR P k h x.2.2.1 c/\SlR P k h x.2.2.2 e:=by
 constructor
 ·rintro⟨c1,c2,rfl,h1,c3,c4,rfl,⟨b,rfl,hb⟩,c5,c6,rfl,⟨c,rfl,hc⟩,⟨e,rfl,he⟩⟩;obtain⟨a,rfl,ha⟩:=nJ.1 h1;exact⟨a,b,c,e,rfl,ha,hb,hc,he⟩
 ·rintro⟨a,b,c,e,rfl,ha,hb,hc,he⟩;exact⟨[_,a],[b,c,e],rfl,nJ.2 ⟨a,rfl,ha⟩,[b],[c,e],rfl,⟨b,rfl,hb⟩,[c],[e],rfl,⟨c,rfl,hc⟩,⟨e,rfl,he⟩⟩
theorem CZ:∀{l:List Int},(∀x∈l,0<=x)->0<=l.sum
 |[],_=>by simp
 | x::l,h=>by have:=CZ (l:=l) λy hy=>h y (by simp[hy]);have:=h x (by simp);rw[UG];omega
theorem Fe{l:List Int}(h:∀x∈l,0<=x)(j:Nat):(l.take j).sum<=l.sum:=by
 have:=CZ (l:=l.drop j) λx hx=>h x (Tv hx);have e:l.sum=(l.take j).sum+(l.drop j).sum:=by rw[<-List.sum_append,SW]
 omega
theorem zS:∀{l:List Int},(∀x∈l,0<=x)->∀x∈l,x<=l.sum
 |[],_,x,hx=>by simp at hx
 | y::l,h,x,hx=>by
  have h1:=CZ (l:=l) λz hz=>h z (by simp[hz]);have h2:=h y (by simp);rw[UG];rcases Sq.1 hx with rfl|hx
  ·omega
  ·have:=zS (l:=l) (λz hz=>h z (by simp[hz])) x hx;omega
def S.bK(gr:Int)(cs:List Int)(x:Node):Bool:=decide ((x.rows.length:Int)=S.ae (S.ac cs x.parents))&&x.rows.all (S.bA gr x.card)
structure FJ (gr:Int) (r:List Int) (z:AV) (j:Nat) (t:T):Prop where
 st:St t [(2,.hptr 0 0 0 0),(3,.hptr 1 0 0 0),(4,.hptr 2 0 0 0),(9,z),(40,z),(10,.int .i64 (gr - (r.take j).sum))]
 nn:∀x∈r.take j,0<=x
 le:(r.take j).sum<=gr
theorem Je{d:Nat}{rd:Option Nat}{gr:Int}{r:List Int}{z:AV}{Q:QT}{t:T}{g:G}(hz:SlR NoP 0 .nil r z)(hg1:1<=gr/\gr<=60)
  (ht:St t [(2,.hptr 0 0 0 0),(3,.hptr 1 0 0 0),(4,.hptr 2 0 0 0),(9,z),(40,z),(10,.int .i64 gr)]) (h42:tat t 42=.int .i64 0) (h41:tat t 41=.int .i64 (r.length:Int)) (e2:g.h.get 2=VG 1 [[.bool false]])
  (bad:∀t,(∀card,S.bA gr card r=false)->Q .ret t [] (g.put 2 (VG 1 [[.bool false]])))
  (fin:∀t,(∀x∈r,0<=x)->r.sum<=gr->St t [(2,.hptr 0 0 0 0),(3,.hptr 1 0 0 0),(4,.hptr 2 0 0 0),(9,z),(10,.int .i64 (gr - r.sum))]->Q (.exit 4) t [] g) :
  wpL (wp C0 d rd eE) Q t [] g:=by
 have rz:=λh=>(hz.tree (h':=h) (R5 0)).ints;simp only[eE];refine aK (m:=r.length) hz.1 (λj t df g'=>df=[]/\g'=g/\FJ gr r z j t) ⟨rfl,rfl,by simpa using ht,by simp,by simp;omega⟩ h42 h41 (by decide)
  (by rintro j t df g v s (rfl|rfl|rfl) ⟨a1,a2,⟨b1,b2,b3,b4,b5,b6,-⟩,b7,b8⟩<;>exact⟨a1,a2,by simp[St,sx,b1,b2,b3,b4,b5,b6],b7,b8⟩) ?_ ?_
 ·rintro j t df g' hj ⟨rfl,rfl,⟨⟨h2,h3,h4,h9,h40,h10,-⟩,hnn,hle⟩⟩ h42 h41;obtain⟨y,hy,htk,hm⟩:=an hj;have u1:j<(r.map ci).length:=by simpa using hj
  have u2:(r.map ci)[j]?=some (ci y):=by rw[R_,hy];rfl
  have hs0:=CZ hnn
  by_cases c1:y<0
  ·simp only[sz,simprocAttr,h4,h40,h42,rz,u1,u2,ci,c1,e2];exact bad _ (λcard=>by
    rw[<-Ub,S.bA];simp only[R7,Sg,Sy];rintro⟨⟨-,h⟩,-⟩;have:=h y hm;omega)
  ·by_cases c2:gr - (r.take j).sum<y
   ·simp only[sz,simprocAttr,h4,h40,h10,h42,rz,u1,u2,ci,c1,c2,e2];exact bad _ (λcard=>by
     rw[<-Ub,S.bA];simp only[R7,Sg,Sy];rintro⟨⟨-,h⟩,hs⟩;have h1:=Fe (l:=r) (λx hx=>(h x hx).1) (j+1);rw[htk,Ay]at h1;omega)
   ·have w1:IntKind.wrap .i64 (gr - (r.take j).sum - y)=gr - (r.take (j+1)).sum:=by rw[ax (by omega) (by omega),htk,Ay];omega
    simp only[sz,simprocAttr,h40,h10,h42,h41,rz,u1,u2,ci,c1,c2,w1];refine⟨by simp[St,sx,h2,h3,h4,h9,h40],λx hx=>?_,by rw[htk,Ay];omega⟩;rw[htk]at hx;rcases SG.1 hx with h|h
    ·exact hnn x h
    ·rw[SK.1 h];omega
 ·rintro t df g' ⟨rfl,rfl,⟨⟨h2,h3,h4,h9,h40,h10,-⟩,hnn,hle⟩⟩;rw[S1]at hnn hle h10;exact fin t hnn hle ⟨h2,h3,h4,h9,h10,trivial⟩
structure FlJ (cs1 cs2:List AV) (gr card:Int) (rws:List (List Int)) (j:Nat) (h:H):Prop where
 a0:h.get 0=VG 5 [cs1]
 a1:h.get 1=VG 3 [cs2]
 a2:h.get 2=VG 1 [[.bool false]]
 all:∀r∈rws.take j,S.bA gr card r=true
structure FlE (gr card:Int) (rws:List (List Int)) (h:H):Prop where
 a2:h.get 2=VG 1 [[.bool false]]
 ex:∃r∈rws,S.bA gr card r=false
theorem Jf{d k1 k2:Nat}{g:G}{P1 P2:Nat->Prop}{v w:AV}{m:NwM}{x:Node}(hd:0<d)(hm:Agg m P1 k1 g.h v)(hx:Agg x P2 k2 g.h w)(hk:k2=0/\P2=NoP)(hg1:1<=m.1.grain/\m.1.grain<=60)(hc:∀c∈m.2.1,1<=c/\c<=4)
  (hp:∀p∈x.parents,0<=p/\p<m.2.1.length) (hpl:x.parents.length<=8):am C0 d N.aO [v,w] g=.val (.bool (S.bK m.1.grain m.2.1 x)):=by
 obtain⟨rfl,rfl⟩:=hk;obtain⟨v',e1,cs,rfl,hcs⟩:=rP (dF m) (by decide) d hm;obtain⟨nb,cb,sb,ob,rfl,-,hcb,-,-⟩:=ww.1 hcs;have e2:=mK d hx;obtain⟨cs2,rfl,hcs2⟩:=hx;obtain⟨pa,ra,rfl,hpa,hra⟩:=cK.1 hcs2;have hcs2':∀h,Agg x NoP 0 h (.agg [.int .i64 x.card,pa,ra]):=λh=>⟨_,rfl,Rp.tree hcs2 (R5 _)⟩;have hra:=hra.tree (h':=.nil) (R5 0);have rp:=λh=>(hpa.tree (h':=h) (R5 0)).ints;have rc:=λh=>(hcb.tree (h':=h) (R5 _)).ints;have pl:=λg=>(hpa.tree (h':=.nil) (R5 0)).len g;have rl:=λg=>hra.len g;rw[pI];refine nA rI (xs:=[.agg [.int .i64 m.1.grain,nb,cb,sb,ob],.agg [.int .i64 x.card,pa,ra]]) (by simp only[aJ,e1,e2]) (by simp[gk]) hd ?_;simp only[sz,simprocAttr,gk];obtain⟨g0,hg0⟩:∃g0,g0=((G.empty.new (VG 5 [[.int .i64 m.1.grain,nb,cb,sb,ob]])).new (VG 3 [[.int .i64 x.card,pa,ra]])).new (VG 1 [[.bool false]]):=⟨_,rfl⟩;rw[<-hg0];have f0:g0.h.get 0=VG 5 [[.int .i64 m.1.grain,nb,cb,sb,ob]]:=by rw[hg0];simp[sx,RW]
 have f1:g0.h.get 1=VG 3 [[.int .i64 x.card,pa,ra]]:=by rw[hg0];simp[sx,RW]
 have f2:g0.h.get 2=VG 1 [[.bool false]]:=by rw[hg0];simp[sx]
 have f3:g0.nx=3:=by rw[hg0];simp[sx]
 clear hg0;simp only[sz,simprocAttr,jK,f1,pl,jj];refine aK (m:=x.parents.length) (by omega) (λj t df g=>df=[]/\g=g0/\St t [(2,.hptr 0 0 0 0),(3,.hptr 1 0 0 0),(4,.hptr 2 0 0 0),(14,pa),(5,.int .i64 (S.ae (S.ac m.2.1 (x.parents.take j))))])
  ⟨rfl,rfl,by simp[St,sx,S.ae,S.ac]⟩ (by simp[sx]) (by simp[sx]) (by decide) (by rintro j t df g v s (rfl|rfl|rfl)<;>simp[St,sx]) ?_ ?_
 ·rintro j t df g hj ⟨rfl,rfl,⟨h2,h3,h4,h14,h5,-⟩⟩ h16 h15;obtain⟨p,hpj,htk,hm2⟩:=an hj;obtain⟨p0,p1⟩:=hp p hm2;obtain⟨p,rfl⟩:=R8 p0;have hpl2:p<m.2.1.length:=by omega
  have u1:j<(x.parents.map ci).length:=by simpa using hj
  have u2:(x.parents.map ci)[j]?=some (ci (p:Int)):=by rw[R_,hpj];rfl
  have u3:p<(m.2.1.map ci).length:=by simpa using hpl2
  have u4:(m.2.1.map ci)[p]?=some (ci m.2.1[p]):=by rw[R_,R4 hpl2];rfl
  have e3:S.ae (S.ac m.2.1 (x.parents.take (j+1)))=S.ae (S.ac m.2.1 (x.parents.take j))*m.2.1[p]:=by rw[htk,eZ,qh];congr 1;simp[S.ac,S.ae,R4 hpl2]
  have hpb:=cg (l:=S.ac m.2.1 (x.parents.take (j+1))) (bM hc λq hq=>hp q (SM hq));have hp4:=gS (a:=(S.ac m.2.1 (x.parents.take (j+1))).length) (b:=8) (by simp[S.ac];omega);have h48:(4:Int) ^ 8=65536:=by decide
  have w1:IntKind.wrap .i64 (S.ae (S.ac m.2.1 (x.parents.take j))*m.2.1[p])=S.ae (S.ac m.2.1 (x.parents.take (j+1))):=by rw[<-e3,ax (by omega) (by omega)]
  simp only[sz,simprocAttr,h2,h14,h5,h16,h15,f0,rp,rc,u1,u2,u3,u4,ci,w1];simp[St,sx,h2,h3,h4,h14]
 rintro t df g ⟨rfl,rfl,⟨h2,h3,h4,h14,h5,-⟩⟩;rw[S1]at h5;simp only[jo]
 by_cases c1:(x.rows.length:Int)=S.ae (S.ac m.2.1 x.parents)
 ·obtain⟨pa',ra',er,hpa',hra'⟩:=zX (d:=d+1) (g:=g) (SH d) (hcs2' g.h);refine bI (P:=λt' df g'=>df=[]/\g'=g/\St t' [(2,.hptr 0 0 0 0),(3,.hptr 1 0 0 0),(4,.hptr 2 0 0 0)]) ?_ ?_
  ·simp only[sz,simprocAttr,h3,h5,f1,rl,c1];simp[St,sx,h2,h3,h4]
  clear h2 h3 h4 h5 h14;rintro t df g ⟨rfl,rfl,h2,h3,h4,-⟩;rw[eM,eM];simp only[sz,simprocAttr,h3,f1,er];refine EV (c:=x.card) (pa:=pa') hra' (by simp[sx]) (by decide) (by decide)
   (FlJ [.int .i64 m.1.grain,nb,cb,sb,ob] [.int .i64 x.card,pa,ra] m.1.grain x.card x.rows)
   (FlE m.1.grain x.card x.rows) ?_ ?_ ⟨f0,f1,f2,by simp⟩ ?_ ?_ ?_
  ·rintro j h h' hh ⟨a0,a1,a2,a3⟩;exact⟨by rw[hh 0 (by omega),a0],by rw[hh 1 (by omega),a1],by rw[hh 2 (by omega),a2],a3⟩
  ·rintro h h' hh ⟨a2,a3⟩;exact⟨by rw[hh 2 (by omega),a2],a3⟩
  ·rintro j r z g1 hr hz ⟨a0,a1,a2,a3⟩ hn;obtain⟨r',hr',htk,hrm⟩:=an (l:=x.rows) (j:=j) (R6.1 hr).1;rw[hr]at hr';injection hr' with hr';subst hr';simp only[sz,simprocAttr,ji];intro g2 hg2n hg2;have b0:g2.h.get 0=VG 5 [[.int .i64 m.1.grain,nb,cb,sb,ob]]:=by rw[hg2 0 (by omega),a0]
   have b1:g2.h.get 1=VG 3 [[.int .i64 x.card,pa,ra]]:=by rw[hg2 1 (by omega),a1]
   have b2:g2.h.get 2=VG 1 [[.bool false]]:=by rw[hg2 2 (by omega),a2]
   simp only[sz,simprocAttr,jk,h2,b0,hz.len];refine Je (gr:=m.1.grain) (r:=r) (z:=z) hz hg1 (by simp[St,sx,h2,h3,h4]) (by simp[sx]) (by simp[sx]) b2 ?_ ?_
   ·rintro t hrow;simp only[sx,sy];exact⟨by simp,λi h1 h2=>by simp[RW,show ¬i=2 by omega],.inr ⟨rfl,by simp[RW],r,hrm,hrow _⟩⟩
   ·rintro t hnn hle ⟨h2,h3,h4,h9,h10,-⟩;have hzl:=λg=>hz.len g
    by_cases c2:(r.length:Int)=x.card
    ·by_cases c3:m.1.grain - r.sum=0
     ·simp only[sz,simprocAttr,cq,h3,h9,h10,hzl,b1,c2,c3];refine⟨R5 _,λi _ _=>rfl,.inl ⟨rfl,b0,b1,b2,λy hy=>?_⟩⟩;rw[htk]at hy;rcases SG.1 hy with h|h
      ·exact a3 y h
      ·rw[SK.1 h,S.bA];simp only[R7,Sg,Sy];exact⟨⟨c2,λq hq=>⟨hnn q hq,by have:=zS hnn q hq;omega⟩⟩,by omega⟩
     ·have hro:S.bA m.1.grain x.card r=false:=by rw[S.bA];simp;intros;omega
      simp only[sz,simprocAttr,cq,h3,h4,h9,h10,hzl,b1,b2,c2,c3];exact⟨by simp,λi h1 h2=>by simp[RW,show ¬i=2 by omega],.inr ⟨rfl,by simp[RW],r,hrm,hro⟩⟩
    ·have hro:S.bA m.1.grain x.card r=false:=by rw[S.bA];simp[c2]
     simp only[sz,simprocAttr,cq,h3,h4,h9,hzl,b1,b2,c2];exact⟨by simp,λi h1 h2=>by simp[RW,show ¬i=2 by omega],.inr ⟨rfl,by simp[RW],r,hrm,hro⟩⟩
  ·rintro g' ⟨a0,a1,a2,a3⟩ hn hdf;rw[S1]at a3;have hok:S.bK m.1.grain m.2.1 x=true:=by rw[S.bK,Sy.2 a3];simp[c1]
   simp only[sz,simprocAttr,jl,h4,a2];refine kG (by simp[RW,show ¬g.nx=2 by omega,hdf]) ?_;simp only[sx,sy,↓reduceIte,Nat.reduceEqDiff,h4,hok];simp[show ¬(2=g.nx) by omega]
   rfl
  ·rintro g' ⟨a2,r,hr,hro⟩ hn hdf;have hok:S.bK m.1.grain m.2.1 x=false:=by
    rw[S.bK];have:x.rows.all (S.bA m.1.grain x.card)=false:=by rw[<-Ub,Sy];intro h;rw[h r hr]at hro;cases hro
    rw[this,Bool.and_false]
   simp only[sx];refine kG hdf ?_;simp only[sx,sy,↓reduceIte,Nat.reduceEqDiff,h4,hok];rw[Sa (by omega),a2]
   rfl
 ·simp only[sz,simprocAttr,h3,h4,h5,f1,f2,rl,c1];rw[S.bK];simp[c1]
theorem vX:∀{l:List Int} {v:Nat},(∀x∈l,0<=x/\x<64)->((S.aw l).testBit v=true↔(v:Int)∈l):=by
 have key:∀(l:List Int) (s v:Nat),(∀x∈l,0<=x/\x<64)->((l.foldl (λs x=>s ||| S.aG x.toNat) s).testBit v=true↔s.testBit v=true\/(v:Int)∈l):=by
  intro l
  induction l with
  |nil=>intro s v _;simp
  | cons x l ih =>
   intro s v h;have hx:=h x (by simp);rw[T7,ih _ _ λy hy=>h y (by simp[hy]),dQ,wN (show x.toNat<64 by omega),SY,Sg,Sq];constructor
   ·rintro ((h|h)|h)
    ·exact .inl h
    ·exact .inr (.inl (by omega))
    ·exact .inr (.inr h)
   ·rintro (h|h|h)
    ·exact .inl (.inl h)
    ·exact .inl (.inr (by omega))
    ·exact .inr h
 intro l v h;have:=key l 0 v h;simpa [S.aw] using this
theorem L_{l:List Int}{k:Nat}(hk:k<=64)(h:∀x∈l,0<=x/\x<k):S.aw l<2 ^ k:=by
 have hb:∀i,k<=i->(S.aw l).testBit i=false:=λi hi=>by rw[<-Ub,vX λx hx=>by have:=h x hx;omega];intro hm;have:=h _ hm;omega
 exact Nat.lt_pow_two_of_testBit _ λi hi=>hb i hi
structure RdH (n:Net) (b cv sv:AV) (q:Nat) (X:List Int) (Y:List Nat) (g:G):Prop where
 h0:g.h.get 0=VG 2 [[.int .i64 n.grain,b]]
 h1:g.h.get 1=VG 5 [[.int .i64 0,.nils,.nils,.nils,.nils]]
 hq:g.h.get q=VG 5 [[.int .i64 n.grain,b,cv,sv,.nils]]
 hc:Own g 2 cv 1 (X.map ci)
 hs:Own g 2 sv 1 (Y.map cu)
 q2:2<=q
 qn:q<g.nx
 d1:vid cv≠some q
 d2:vid sv≠some q
 d3:∀i,vid cv=some i->vid sv≠some i
theorem RdH.fr{n:Net}{b cv sv:AV}{q:Nat}{X:List Int}{Y:List Nat}{g g':G}(h:RdH n b cv sv q X Y g)(f:Fr g g'):RdH n b cv sv q X Y g' :=
 ⟨by rw[f.2 0 (by have:=h.qn;have:=h.q2;omega),h.h0],by rw[f.2 1 (by have:=h.qn;have:=h.q2;omega),h.h1],by rw[f.2 q h.qn,h.hq],h.hc.step f,h.hs.step f,h.q2,SB h.qn f.1,h.d1,h.d2,h.d3⟩
def S.cp(n:Net)(o:List Int):NwM:=if S.aM n then (n,S.aa n,S.ak n,o) else (⟨0,[]⟩,[],[],[])
def Da(n:Net):VS:=λP k h v=>∃o:List Int,True/\wI (Agg (S.cp n o)) (One (if S.aM n then (0:Int) else 50)) P k h v
section
variable {d:Nat}{n:Net}{b cv sv:AV}{q:Nat}{rows:List (List AV)}
def LRd(q:Nat):List (Nat×AV):=[(1,.hptr 0 0 0 0),(2,.hptr 1 0 0 0),(4,.hptr q 0 0 0)]
theorem QJ{t:T}{g:G}(hn:¬NR n)(h1:g.h.get 1=VG 5 [[.int .i64 0,.nils,.nils,.nils,.nils]])(t2:tat t 2=.hptr 1 0 0 0)(t3:tat t 3=.int .i64 50) :
  fnQ C0 d m7.res (λv g'=>∃P,Da n P 0 g'.h v) .ret t [] g:=by
 have hf:S.aM n=false:=by
  cases h:S.aM n with
  |false=>rfl
  |true=>exact absurd (cY.1 h) hn
 simp only[m7,sx,sy,↓reduceIte,Nat.reduceAdd,Nat.reduceLeDiff,t2,t3,h1];refine⟨λ_=>True,[],trivial,_,_,rfl,⟨_,rfl,?_⟩,?_⟩
 ·rw[S.cp,hf];exact ww.2 ⟨.nils,.nils,.nils,.nils,rfl,⟨by show 0<9223372036854775808;decide,rfl⟩,⟨by show 0<9223372036854775808;decide,rfl⟩,⟨by show 0<9223372036854775808;decide,rfl⟩,⟨by show 0<9223372036854775808;decide,rfl⟩⟩
 ·rw[hf];exact aI.2 rfl
structure Rd0 (n:Net) (b cv sv:AV) (q j:Nat) (t:T) (g:G):Prop where
 st:St t ((48,b)::(5,.int .i64 (S.ae ((S.aa n).take j)))::LRd q)
 hp:RdH n b cv sv q ((S.aa n).take j++List.replicate (n.nodes.length - j) 0) (List.replicate n.nodes.length 0) g
 ok:∀x∈n.nodes.take j,1<=x.card/\x.card<=4
theorem OK{Q:QT}{t:T}{g:G}(hl:n.nodes.length<=8)(hN:SlR NoP 0 .nil n.nodes b)(r1:∀h,ak h 3 b=some rows)(r2:rows.length=n.nodes.length)
  (r3:∀(i:Nat) (x:Node),n.nodes[i]?=some x->∃pa ra,rows[i]?=some [.int .i64 x.card,pa,ra]/\i<rows.length/\SlR NoP 0 .nil x.parents pa/\SlR NoP 0 .nil x.rows ra) (r4:0<n.nodes.length->Ak b=true)
  (h0:Rd0 n b cv sv q 0 t g) (h50:tat t 50=.int .i64 0) (h49:tat t 49=.int .i64 (n.nodes.length:Int))
  (bad:∀t g,¬NR n->g.h.get 1=VG 5 [[.int .i64 0,.nils,.nils,.nils,.nils]]->tat t 2=.hptr 1 0 0 0->tat t 3=.int .i64 50->Q .ret t [] g)
  (fin:∀t g,Rd0 n b cv sv q n.nodes.length t g->Q (.exit 0) t [] g):wpL (wp C0 d none o_) Q t [] g:=by
 simp only[o_];refine aK (m:=n.nodes.length) (by omega) (λj t df g=>df=[]/\Rd0 n b cv sv q j t g) ⟨rfl,h0⟩ h50 h49 (by decide)
  (by rintro j t df g v s (rfl|rfl|rfl) ⟨a1,⟨b1,b2,b3,b4,b5,-⟩,c1,c2⟩<;>exact⟨a1,by simp[St,LRd,sx,b1,b2,b3,b4,b5],c1,c2⟩) ?_ ?_
 ·rintro j t df g hj ⟨rfl,⟨⟨h48,h5,h1,h2,h4,-⟩,hp,hok⟩⟩ h50 h49;obtain⟨x,hx,htk,hxm⟩:=an hj;obtain⟨pa,ra,q1,hlt,hpa,hra⟩:=r3 j x hx;have hry:=r4 (by omega);have q2:=hp.q2;have qn:=hp.qn;have hne1:¬(1=g.nx):=by omega
  have hneq:¬(q=g.nx):=by omega
  have f1:Fr g (g.new (VG 3 [[.int .i64 0,.nils,.nils]])):=Fr.new _ _;have badn:¬(1<=x.card/\x.card<=4)->¬NR n:=λh hr=>h (hr.card x hxm)
  by_cases c1:x.card<1
  ·simp only[sz,simprocAttr,h2,h48,h50,r1,hlt,q1,hp.h1,hne1,c1];exact bad _ _ (badn (by omega)) (by simp[RW]) (by simp[sx,h2]) (by simp[sx])
  ·by_cases c2:4<x.card
   ·simp only[sz,simprocAttr,h2,h48,h50,r1,hlt,q1,hp.h1,hne1,c1,c2];exact bad _ _ (badn (by omega)) (by simp[RW]) (by simp[sx,h2]) (by simp[sx])
   ·have hall:∀y∈n.nodes.take (j+1),1<=y.card/\y.card<=4:=λy hy=>by
     rw[htk]at hy;rcases SG.1 hy with h|h
     ·exact hok y h
     ·rw[SK.1 h];omega
    have hcb:∀c∈(S.aa n).take (j+1),1<=c/\c<=4:=λc hc=>by rw[S.aa,<-List.map_take]at hc;obtain⟨y,hy,rfl⟩:=SX.1 hc;exact hall y hy
    have hpb:=cg hcb;have hp4:=gS (a:=((S.aa n).take (j+1)).length) (b:=8) (by rw[SL];omega);have h48':(4:Int) ^ 8=65536:=by decide
    have hcj:(S.aa n)[j]?=some x.card:=by simp[S.aa,hx]
    have ets:(S.aa n).take (j+1)=(S.aa n).take j++[x.card]:=by rw[UC,hcj];rfl
    have e1:S.ae ((S.aa n).take (j+1))=S.ae ((S.aa n).take j)*x.card:=by rw[ets];exact mF _ _
    have w1:IntKind.wrap .i64 (S.ae ((S.aa n).take j)*x.card)=S.ae ((S.aa n).take (j+1)):=by rw[<-e1,ax (by omega) (by omega)]
    have hlj:((S.aa n).take j).length=j:=by rw[SL,aX];omega
    have hXr:(((S.aa n).take j++List.replicate (n.nodes.length - j) 0).map ci)[j]?=some (ci 0):=by rw[R_,Sj (by omega),hlj,Th,UW,Sb (by omega)];rfl
    have hXl:j<(((S.aa n).take j++List.replicate (n.nodes.length - j) 0).map ci).length:=by simp[aX];omega
    have hXs:((S.aa n).take j++List.replicate (n.nodes.length - j) 0).set j x.card=(S.aa n).take (j+1)++List.replicate (n.nodes.length - (j+1)) 0:=by rw[TE _ _ (by omega),hlj,Th,ets,show n.nodes.length - j=(n.nodes.length - (j+1))+1 by omega,Ue,Uk,S7];rfl
    have hp2:=hp.fr f1;obtain⟨g2,hg2⟩:∃g2,g2=(g.new (VG 3 [[.int .i64 0,.nils,.nils]])).put g.nx (VG 3 [[.int .i64 x.card,pa,ra]]):=⟨_,rfl⟩;have f2:Fr g g2:=by rw[hg2];exact Pn (by simp) λi hi=>by simp[RW,show ¬i=g.nx by omega]
    have hp3:=hp.fr f2;have f7:g2.h.get g.nx=VG 3 [[.int .i64 x.card,pa,ra]]:=by rw[hg2];simp[RW]
    refine be (P:=λt' df g'=>df=[]/\g'=g2/\St t' ((48,b)::(5,.int .i64 (S.ae ((S.aa n).take j)))::LRd q)/\tat t' 6=.int .i64 (j:Int)/\tat t' 7=.hptr g.nx 0 0 0/\tat t' 50=.int .i64 (j:Int)/\tat t' 49=.int .i64 (n.nodes.length:Int)) ?_ ?_
    ·simp only[sz,simprocAttr,h48,h49,h50,r1,hlt,q1];rw[hg2];simp[St,LRd,sx,h1,h2,h4,h5,h48]
    clear h1 h2 h4 h5 h48 h49 h50;rintro t df g3 ⟨rfl,rfl,⟨h48,h5,h1,h2,h4,-⟩,h6,h7,h50,h49⟩;have hcr:=hp3.hc.rows;simp only[sz,simprocAttr,h4,h6,h7,f7,hp3.hq,hcr,hXl,c1,c2];refine cQ (v:=cv) (sz:=1) (n:=1) (i:=j) (off:=0) (x:=.int .i64 x.card) (row':=ci x.card) hp3.hc hXr rfl rfl rfl λg4 hu4 n4 f4=>?_;rw[Gb,hXs]at hu4;have f74:g4.h.get g.nx=VG 3 [[.int .i64 x.card,pa,ra]]:=by rw[f4 _ λe=>by have:=(hp.hc.lt e).2;omega,f7]
    simp only[sz,simprocAttr,h5,h7,h49,h50,f74,w1];refine⟨by simp[St,LRd,sx,h1,h2,h4,h48],⟨?_,?_,?_,hu4,?_,q2,by rw[n4];exact hp3.qn,hp.d1,hp.d2,hp.d3⟩,hall⟩
    ·rw[f4 0 λe=>by have:=(hp.hc.lt e).1;omega,hp3.h0]
    ·rw[f4 1 λe=>by have:=(hp.hc.lt e).1;omega,hp3.h1]
    ·rw[f4 q hp.d1,hp3.hq]
    ·exact hp3.hs.fr (by omega) λi hi=>f4 i λe=>hp.d3 i e hi
 ·rintro t df g ⟨rfl,h⟩;exact fin t g h
end
end
end Hx
end
section
namespace Hx
open Go
noncomputable section
def kN(ps:List Int)(i:Nat):Int:=if i=0 then -1 else ps[i - 1]?.getD 0
theorem xI{ps:List Int}{i:Nat}{p:Int}(h:ps[i]?=some p):kN ps (i+1)=p:=by unfold kN;rw[Sa (by omega),U5,h];rfl
structure PlI (ps:List Int) (k:Int) (v i:Nat):Prop where
 rng:∀(j:Nat) (p:Int),j<i->ps[j]?=some p->0<=p/\p<k/\p≠(v:Int)
 inc:∀(j:Nat) (p q:Int),j+1<i->ps[j]?=some p->ps[j+1]?=some q->p<q
theorem MC{ps:List Int}{k:Int}{v i:Nat}{p:Int}(h:PlI ps k v i)(hp:ps[i]?=some p)(h1:kN ps i<p)(h2:p<k)(h3:p≠(v:Int)):PlI ps k v (i+1):=by
 refine⟨λj q hj hq=>?_,λj a c hj ha hc=>?_⟩
 ·by_cases e:j=i
  ·subst e;rw[hp]at hq;injection hq with hq;subst hq;refine⟨?_,h2,h3⟩
   by_cases e0:j=0
   ·subst e0;unfold kN at h1;simp at h1;omega
   ·have hj1:j - 1<ps.length:=by have:=(R6.1 hp).1;omega
    have:=h.rng (j - 1) ps[j - 1] (by omega) (R4 hj1);unfold kN at h1;rw[Sa e0,R4 hj1,Se]at h1;omega
  ·exact h.rng j q (by omega) hq
 ·by_cases e:j+1=i
  ·subst e;rw[hp]at hc;injection hc with hc;subst hc;rw[xI ha]at h1;exact h1
  ·exact h.inc j a c (by omega) ha hc
theorem Gr{ps:List Int}{k:Int}{v:Nat}(h:PlI ps k v ps.length):S.bP ps k=true:=by
 unfold S.bP;rw[Sy];intro i hi;have hi:=Sm.1 hi;have hp:ps[i]?=some ps[i]:=R4 hi;obtain⟨r1,r2,-⟩:=h.rng i _ hi hp
 by_cases e:i=0
 ·subst e;simp only[S.cH,hp,Se];simp;omega
 ·have hq:ps[i - 1]?=some ps[i - 1]:=R4 (by omega);have:=h.inc (i - 1) _ ps[i] (by omega) hq (by rw[show i - 1+1=i by omega];exact hp);simp only[S.cH,hp,hq,Se];simp;omega
theorem NR.pl{n:Net}(h:NR n){v:Nat}{x:Node}(hx:n.nodes[v]?=some x){i:Nat}{p:Int}(hp:x.parents[i]?=some p):kN x.parents i<p/\p<n.nodes.length/\p≠(v:Int):=by
 have hm:=R9 hx;have hpl:=h.places x hm;have h1:=gR hpl p (R9 hp);have hl2:=h.l2;refine⟨?_,h1.2,λe=>?_⟩
 ·unfold kN
  split
  ·omega
  ·rename_i e;have hil:=(R6.1 hp).1;have hq:x.parents[i - 1]?=some x.parents[i - 1]:=R4 (by omega);rw[hq,Se];exact uP hpl hq (by rw[show i - 1+1=i by omega];exact hp)
 ·have hv:=(R6.1 hx).1;have ha:=uX.1 h.acyc v (by simp[S.ak];exact hv);have hpar:Par (S.ak n) v=S.aw x.parents:=by simp[Par,S.ak,hx]
  have hb:(Par (S.ak n) v).testBit v=true:=by rw[hpar,vX λy hy=>by have:=gR hpl y hy;omega,<-e];exact R9 hp
  have:=yJ (p:=S.ak n) (s:=Par (S.ak n) v) (S.ak n).length v hb;rw[this]at ha;cases ha
section
variable {d:Nat}{n:Net}{b cv sv:AV}{q:Nat}{rows:List (List AV)}
def S.be(n:Net)(j:Nat)(m:Nat):List Nat:=(S.ak n).take j++m::List.replicate (n.nodes.length - (j+1)) 0
structure Rd1 (n:Net) (x:Node) (b cv sv pa:AV) (q j p9 i:Nat) (t:T) (g:G):Prop where
 st:St t ((80,b)::(81,.int .i64 (n.nodes.length:Int))::(82,.int .i64 (j:Int))::(88,pa)::(8,.int .i64 (j:Int))::(9,.hptr p9 0 0 0)::(10,.int .i64 (kN x.parents i))::LRd q)
 hp:RdH n b cv sv q (S.aa n) (S.be n j (S.aw (x.parents.take i))) g
 ok:PlI x.parents n.nodes.length j i
theorem OL{Q:QT}{t:T}{g:G}{x:Node}{pa:AV}{j p9:Nat}{c9:List AV}(hl:n.nodes.length<=8)(hN:SlR NoP 0 .nil n.nodes b)(hx:n.nodes[j]?=some x)(hpa:SlR NoP 0 .nil x.parents pa)
  (h0:Rd1 n x b cv sv pa q j p9 0 t g) (h90:tat t 90=.int .i64 0) (h89:tat t 89=.int .i64 (x.parents.length:Int)) (e9:g.h.get p9=VG 3 [c9]) (p9s:vid sv≠some p9)
  (bad:∀t g,¬NR n->g.h.get 1=VG 5 [[.int .i64 0,.nils,.nils,.nils,.nils]]->tat t 2=.hptr 1 0 0 0->tat t 3=.int .i64 50->Q .ret t [] g)
  (fin:∀t g',Rd1 n x b cv sv pa q j p9 x.parents.length t g'->g'.h.get p9=VG 3 [c9]->g.nx<=g'.nx->Q (.exit 4) t [] g'):wpL (wp C0 d none pd) Q t [] g:=by
 have hjl:=(R6.1 hx).1;have nl:=λg=>hN.len g;have rp:=λh=>(hpa.tree (h':=h) (R5 0)).ints;have hpsl:(S.ak n).length=n.nodes.length:=by simp[S.ak]
 have hypl:((S.ak n).take j).length=j:=by rw[SL,hpsl];omega
 simp only[pd];refine aK (m:=x.parents.length) hpa.1 (λi t df g'=>df=[]/\Rd1 n x b cv sv pa q j p9 i t g'/\g'.h.get p9=VG 3 [c9]/\g.nx<=g'.nx) ⟨rfl,h0,e9,R5 _⟩ h90 h89 (by decide)
  (by rintro i t df g v s (rfl|rfl|rfl) ⟨a1,⟨⟨b1,b2,b3,b4,b5,b6,b7,b8,b9,b10,-⟩,c1,c2⟩,c3⟩<;>exact⟨a1,⟨by simp[St,LRd,sx,b1,b2,b3,b4,b5,b6,b7,b8,b9,b10],c1,c2⟩,c3⟩) ?_ ?_
 ·rintro i t df g hi ⟨rfl,⟨⟨h80,h81,h82,h88,h8,h9,h10,h1,h2,h4,-⟩,hp,hok⟩,e9,en⟩ h90 h89;obtain⟨p,hpi,htk,-⟩:=an hi;have u1:i<(x.parents.map ci).length:=by simpa using hi
  have u2:(x.parents.map ci)[i]?=some (ci p):=by rw[R_,hpi];rfl
  have badn:¬(kN x.parents i<p/\p<n.nodes.length/\p≠(j:Int))->¬NR n:=λh hr=>h (hr.pl hx hpi);have q2:=hp.q2
  by_cases c1:p<=kN x.parents i
  ·simp only[sz,simprocAttr,h2,h10,h88,h90,rp,u1,u2,ci,hp.h1,c1];exact bad _ _ (badn (by omega)) (by simp[RW]) (by simp[sx,h2]) (by simp[sx])
  by_cases c2:(n.nodes.length:Int)<=p
  ·simp only[sz,simprocAttr,h2,h4,h10,h88,h90,rp,u1,u2,ci,hp.hq,nl,hp.h1,c1,c2];exact bad _ _ (badn (by omega)) (by simp[RW]) (by simp[sx,h2]) (by simp[sx])
  by_cases c3:p=(j:Int)
  ·subst c3;simp only[sz,simprocAttr,h2,h4,h8,h10,h88,h90,rp,u1,u2,ci,hp.hq,nl,hp.h1,c1,c2,eq_self];exact bad _ _ (badn (by omega)) (by simp[RW]) (by simp[sx,h2]) (by simp[sx])
  have hok2:=MC hok hpi (by omega) (by omega) c3;obtain⟨p0,-,-⟩:=hok2.rng i p (by omega) hpi;obtain⟨p,rfl⟩:=R8 p0;have hYr:((S.be n j (S.aw (x.parents.take i))).map cu)[j]?=some (cu (S.aw (x.parents.take i))):=by rw[R_,S.be,Sj (by omega),hypl,Th];rfl
  have hYl:j<((S.be n j (S.aw (x.parents.take i))).map cu).length:=by simp[S.be,hpsl];omega
  have hYs:(S.be n j (S.aw (x.parents.take i))).set j (S.aw (x.parents.take (i+1)))=S.be n j (S.aw (x.parents.take (i+1))):=by simp only[S.be];rw[TE _ _ (by omega),hypl,Th,Uk]
  have em:S.aw (x.parents.take (i+1))=S.aw (x.parents.take i) ||| S.aG p:=by rw[htk,Bz];rfl
  have hshl:bU .shl (.int .u64 1) (.int .i64 (p:Int))=.val (.int .u64 (S.aG p:Int)):=i6 .i64 p;have hor:=qq (S.aw (x.parents.take i)) (S.aG p) (mr _) (oJ p);rw[<-em]at hor;have hsr:=hp.hs.rows;have hls:=xI hpi;refine bI (P:=λt' df g'=>df=[]/\g'=g/\St t' ((80,b)::(81,.int .i64 (n.nodes.length:Int))::(82,.int .i64 (j:Int))::(88,pa)::(8,.int .i64 (j:Int))::(9,.hptr p9 0 0 0)::(10,.int .i64 (kN x.parents i))::LRd q)/\tat t' 12=.int .i64 (p:Int)/\tat t' 90=.int .i64 (i:Int)/\tat t' 89=.int .i64 (x.parents.length:Int)) ?_ ?_
  ·simp only[sz,simprocAttr,h88,h90,rp,u1,u2,ci];simp[St,LRd,sx,h1,h2,h4,h8,h9,h10,h80,h81,h82,h88,h89]
  clear h1 h2 h4 h8 h9 h10 h80 h81 h82 h88 h89 h90;rintro t df g' ⟨rfl,rfl,⟨h80,h81,h82,h88,h8,h9,h10,h1,h2,h4,-⟩,h12,h90,h89⟩;refine bI (P:=λt' df g''=>df=[]/\g''=g'/\St t' ((80,b)::(81,.int .i64 (n.nodes.length:Int))::(82,.int .i64 (j:Int))::(88,pa)::(8,.int .i64 (j:Int))::(9,.hptr p9 0 0 0)::(10,.int .i64 (kN x.parents i))::LRd q)/\tat t' 12=.int .i64 (p:Int)/\tat t' 90=.int .i64 (i:Int)/\tat t' 89=.int .i64 (x.parents.length:Int)) ?_ ?_
  ·simp only[sz,simprocAttr,h4,h8,h10,h12,h89,h90,hp.hq,nl,c1,c2,c3];simp[St,LRd,sx,h1,h2,h4,h8,h9,h10,h80,h81,h82,h88]
  clear h1 h2 h4 h8 h9 h10 h12 h80 h81 h82 h88 h89 h90;rintro t df g'' ⟨rfl,rfl,⟨h80,h81,h82,h88,h8,h9,h10,h1,h2,h4,-⟩,h12,h90,h89⟩;simp only[sz,simprocAttr,sf,h4,h8,h12,hp.hq,hsr,hYl,hYr,cu,hshl,hor];refine cQ (v:=sv) (sz:=1) (n:=1) (i:=j) (off:=0) (x:=.int .u64 (S.aw (x.parents.take (i+1)):Int)) (row':=cu (S.aw (x.parents.take (i+1)))) (hp.hs.fr (by simp;omega) λi _=>by simp) hYr rfl rfl rfl λg4 hu4 n4 f4=>?_;rw[show (((S.be n j (S.aw (x.parents.take i))).map cu).set j (cu (S.aw (x.parents.take (i+1)))))=(S.be n j (S.aw (x.parents.take (i+1)))).map cu from by rw[<-TQ,hYs]]at hu4;have f4':∀i,vid sv≠some i->g4.h.get i=g''.h.get i:=λi hi=>by rw[f4 i hi];simp
  have n4':g''.nx<=g4.nx:=by rw[n4];simp;omega
  simp only[sx,sy,↓reduceIte,Nat.reduceEqDiff];refine⟨?_,⟨⟨?_,⟨?_,?_,?_,?_,?_,q2,?_,hp.d1,hp.d2,hp.d3⟩,hok2⟩,?_,?_⟩,h90,h89⟩
  ·simp only[Si,Sl,Sf,Sd];exact aA [false,false,false,false,false,false,false,false,false,true] [] (by simp[All2,ac,ap]) (by decide) (by simp)
  ·rw[hls];simp[St,LRd,sx,h1,h2,h4,h8,h9,h80,h81,h82,h88]
  ·simp only[bumpG_h];rw[f4' 0 λe=>by have:=(hp.hs.lt e).1;omega,hp.h0]
  ·simp only[bumpG_h];rw[f4' 1 λe=>by have:=(hp.hs.lt e).1;omega,hp.h1]
  ·simp only[bumpG_h];rw[f4' q hp.d2,hp.hq]
  ·exact hp.hc.fr (by simp;omega) λi hi=>by simp only[bumpG_h];exact f4' i (hp.d3 i hi)
  ·exact hu4.fr (by simp) λi _=>by simp
  ·have:=hp.qn;simp;omega
  ·rw[f4' p9 p9s,e9]
  ·omega
 ·rintro t df g' ⟨rfl,h,e9,en⟩;exact fin t g' h e9 en
end
end
end Hx
end
