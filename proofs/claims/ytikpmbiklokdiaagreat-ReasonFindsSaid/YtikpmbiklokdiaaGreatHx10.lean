/- A part of the proof. -/
import Derived.Test.YtikpmbiklokdiaaGreatHx9
set_option linter.all false
set_option maxRecDepth 20000
set_option maxHeartbeats 8000000
namespace Hx
open Go
noncomputable section
variable {n:Zv}{Z2 l:List Int}{i x:Nat}{k:Int}
end
end Hx
section
section
namespace Hx
open Go
noncomputable section
theorem ah{α:Type}{l:List α}{j:Nat}(h:j<l.length):∃x,l[j]?=some x/\l.take (j+1)=l.take j++[x]/\x∈l :=⟨l[j],Zq h,by rw[NA,Zq h];rfl,E_ h⟩
def wK(l:List Int):Int:=l.foldl (λs x=>IntKind.wrap .i64 (s*x)) 1
theorem Wi[Z0]{d:Nat}{g:G}{v:AV}(hd:0<d)(hv:FP g.h v)(hl:(sA g.h v).length<2^63) :
  ae C0 d 30 [v] g=.val (Z_ (wK (sA g.h v))):=by
 obtain⟨v',e,hr,k⟩:=Ru hv hl d;generalize sA g.h v=l at hr k hl ⊢;rw[Zn];refine cz Hg (xs:=[v']) (by simp only[aD,e]) (by simp[uG]) hd ?_;simp only[sz,simprocAttr,uG];refine ro hl k (λj t df g=>df=[]/\ZY t 3=Z_ (wK (l.take j))) ⟨rfl,by simp[sx,wK]⟩ (by simp[sx]) (by simp[sx]) (by decide)
  (by rintro j t df g v s (rfl|rfl|rfl|rfl|rfl|rfl|rfl)<;>simp[sx]) ?_ ?_
 ·rintro j t df g c ⟨rfl,a⟩ h4 h0;obtain⟨x,hx,b,hm⟩:=ah c;simp only[sz,simprocAttr,hr,h0,a,h4,hx,c,Ju,Zy,PW,ci,b,wK,adA,IS,List.foldl_nil]
 ·rintro t df g ⟨rfl,a⟩ -;rw[Xo]at a;simp only[sz,simprocAttr,vI,a]
def zH(l:List Int)(n:Int)(i:Nat):Bool:=decide (0<=l[i]?.getD 0)&&decide (l[i]?.getD 0<n)&&(i == 0 || decide (l[i - 1]?.getD 0<l[i]?.getD 0))
def AW(l:List Int)(n:Int):Bool:=(List.range l.length).all (zH l n)
def B7(n:Nat):Nat:=1*2 ^ n % 18446744073709551616
def Dn(l:List Int):Nat:=l.foldl (λs x=>s ||| B7 x.toNat) 0
theorem wG(n:Nat):B7 n<2^64:=US _ (by decide)
theorem CU{α:Type}(f:α->Nat)(hf:∀a,f a<2^64):∀(l:List α) (s:Nat),s<18446744073709551616->l.foldl (λs x=>s ||| f x) s<18446744073709551616
 |[],_,h=>h
 |a::l,s,h=>CU f hf l _ (O2 h (hf a))
theorem yE(l:List Int):Dn l<2^64:=CU _ (λa=>wG _) l 0 (by decide)
theorem In(l:List Int)(x:Int):Dn (l++[x])=Dn l ||| B7 x.toNat:=by simp[Dn]
theorem mU(k':IntKind)(n:Nat):bN .shl (ZW 1) (.int k' (n:Int))=.val (ZW (B7 n:Int)):=UU k' 1 n
def AU(s v:Nat):Bool:=s / 2 ^ v &&& 1 == 1
theorem Ov[Z0]{d:Nat}{g:G}{s v:Nat}(hd:0<d)(hs:s<2^64)(hv:v<2^63) :
  ae C0 d 97 [ZW (s:Int),Z_ (v:Int)] g=.val (.bool (AU s v)):=by
 rw[Zn];refine dA KQ (xs:=[ZW (s:Int),Z_ (v:Int)]) (by simp only[aD,aU 0]) (by simp[Ag]) hd ?_;have h1:s / 2 ^ v<2^64:=Nb (Y2 _ _) hs;have h2:bN .and (ZW ((s / 2 ^ v:Nat):Int)) (ZW 1)=.val (ZW ((s / 2 ^ v &&& 1:Nat):Int)):=qK (s / 2 ^ v) 1 h1 (by decide);simp only[sz,simprocAttr,Ag,du (show (0:Int)<=(v:Int) by omega) (by omega),jX _ _ _ hs,h2,AU];congr 1;generalize s / 2 ^ v &&& 1=z;rw[Yj,decide_eq_true_iff,beq_iff_eq];omega
def B5(p:List Nat)(s:Nat)(j:Nat):Nat:=(List.range j).foldl (λs v=>if AU s v then s ||| p[v]?.getD 0 else s) s
def Df(p:List Nat)(s:Nat)(j:Nat):Nat:=(List.range j).foldl (λs _=>B5 p s p.length) s
theorem Mi{p:List Nat}(hp:∀x∈p,x<2^64){s:Nat}(hs:s<2^64):∀j,B5 p s j<2^64:=by
 intro j
 induction j with
 |zero=>exact hs
 | succ j ih =>
  unfold B5 at ih ⊢;rw[Ri,adA];simp only[IS,List.foldl_nil]
  split
  ·refine O2 ih ?_;cases h:p[j]? with
   |none=>decide
   |some x=>exact hp x (YH h)
  ·exact ih
theorem jA(p:List Nat)(s j:Nat):B5 p s (j+1)=if AU (B5 p s j) j then B5 p s j ||| p[j]?.getD 0 else B5 p s j:=by unfold B5;rw[Ri,adA];rfl
theorem Xi{p:List Nat}(hp:∀x∈p,x<2^64){s:Nat}(hs:s<2^64):∀j,Df p s j<2^64:=by
 intro j
 induction j with
 |zero=>exact hs
 | succ j ih =>unfold Df at ih ⊢;rw[Ri,adA];exact Mi hp ih _
theorem rn(p:List Nat)(s j:Nat):Df p s (j+1)=B5 p (Df p s j) p.length:=by unfold Df;rw[Ri,adA];rfl
theorem YM[Z0]{d k:Nat}{g:G}{P:Nat->Prop}{v:AV}{p:List Nat}{s:Nat}(hd:0<d)(hv:ZT P k g.h p v)(hs:s<2^64) :
  ae C0 d 151 [v,ZW (s:Int)] g=.val (ZW (Df p s p.length:Int)):=by
 obtain⟨v',e,b⟩:=aZ hv d;have hp:=uh hv;have hl:=hv.1;rw[Zn];refine cz KR (xs:=[v',ZW (s:Int)]) (by simp only[aD,e,aU 0]) (by simp[Ah]) hd ?_;simp only[sz,simprocAttr,Ah];refine ro hl (b .nil).len (λj t df g=>df=[]/\ZY t 1=ZW (Df p s j:Int)) ⟨rfl,by simp[sx,Df]⟩ (by simp[sx]) (by simp[sx]) (by decide)
  (by rintro j t df g v s (rfl|rfl|rfl|rfl|rfl|rfl|rfl)<;>simp[sx]) ?_ ?_
 ·rintro j t df g c ⟨rfl,h1⟩ h5 h0;simp only[sz,simprocAttr];have hu:=Xi hp hs j;refine ro hl (b .nil).len (λi t df g=>df=[]/\ZY t 5=Z_ (j:Int)/\ZY t 1=ZW (B5 p (Df p s j) i:Int)) ⟨rfl,by simp[sx,h5],by simp[sx,B5,h1]⟩ (by simp[sx]) (by simp[sx,h0]) (by decide)
   (by rintro j t df g v s (rfl|rfl|rfl|rfl|rfl|rfl|rfl)<;>simp[sx]) ?_ ?_
  ·rintro i t df g hi ⟨rfl,h5,h1⟩ a h0;have hr:=Mi hp hu i;obtain⟨x,hx,-,hm⟩:=ah hi;simp only[sz,simprocAttr,h1,a,Ov (abc d) hr (show i<2^63 by omega)];refine ba (λhb=>?_) (λhb=>?_)
   ·simp only[sz,simprocAttr,h0,h1,h5,a,(b g.h).nats,hi,hx,Ju,Zy,PW,cu,BQ _ _ hr (hp x hm)];rw[jA,hb,hx];rfl
   ·simp only[sx,sy,↓reduceIte,Nat.reduceEqDiff,h0,h1,h5,a];rw[jA,hb];rfl
  ·rintro t df g ⟨rfl,h5,h1⟩ h0;simp only[sx,sy,↓reduceIte,h0,h5,h1];rw[rn]
 ·rintro t df g ⟨rfl,h1⟩ -;simp only[sz,simprocAttr,zu,h1]
def AP(p:List Nat):Bool:=(List.range p.length).all λv=>!AU (Df p (p[v]?.getD 0) p.length) v
theorem C2[Z0]{d k:Nat}{g:G}{P:Nat->Prop}{v:AV}{p:List Nat}(hd:0<d)(hv:ZT P k g.h p v) :
  ae C0 d 124 [v] g=.val (.bool (AP p)):=by
 obtain⟨v',e,c⟩:=aZ hv d;have hp:=uh hv;have hl:=hv.1;rw[Zn];refine dA Co (xs:=[v']) (by simp only[aD,e]) (by simp[nR]) hd ?_;simp only[sz,simprocAttr,nR];refine ro hl (c .nil).len (λj t df g=>df=[]/\(List.range j).all (λv=>!AU (Df p (p[v]?.getD 0) p.length) v)=true) ⟨rfl,rfl⟩ (by simp[sx]) (by simp[sx]) (by decide)
  (by rintro j t df g v s (rfl|rfl|rfl|rfl|rfl|rfl|rfl)<;>simp[sx]) ?_ ?_
 ·rintro j t df g b ⟨rfl,hw⟩ f h0;obtain⟨x,hx,-,hm⟩:=ah b;have a:=hp x hm;simp only[sz,simprocAttr,h0,f,(c g.h).nats,b,hx,Ju,Zy,PW,cu,YM (abc d) (c g.h) a,Ov (abc d) (Xi hp a _) (show j<2^63 by omega)];refine ba (λhb=>?_) (λhb=>?_)
  ·simp only[sz,simprocAttr];rw[AP,jf b (by rw[hx];simp[hb])]
  ·simp only[sx,sy,↓reduceIte,Nat.reduceEqDiff,h0,f];rw[eV,hw,hx];simp[hb]
 ·rintro t df g ⟨rfl,hw⟩ h0;simp only[sz,simprocAttr,pT];rw[AP,hw]
def G5(l:List Int):Int:=l.foldl (·*·) 1
theorem yK(l:List Int)(x:Int):G5 (l++[x])=G5 l*x:=by simp[G5]
theorem fH{a b:Nat}(h:a<=b):(4:Int) ^ a<=4 ^ b:=by
 obtain⟨c,rfl⟩:∃c,b=a+c:=⟨b - a,by omega⟩
 induction c with
 |zero=>exact ael _
 | succ c ih =>have:=ih (by omega);rw[show a+(c+1)=(a+c)+1 from rfl,Yh];have h0:(0:Int)<=4 ^ (a+c):=Int.le_of_lt (Int.pow_pos (by decide));omega
theorem dN(a:Int)(l:List Int):G5 (a::l)=a*G5 l:=by
 have:∀(l:List Int) (s:Int),l.foldl (·*·) s=s*l.foldl (·*·) 1:=by
  intro l
  induction l with
  |nil=>intro s;simp
  |cons x l ih=>intro s;rw[IS,ih,IS,ih (1*x),afe,MQ]
 unfold G5;rw[IS,this,afe]
theorem cD:∀{l:List Int},(∀x∈l,1<=x/\x<=4)->1<=G5 l/\G5 l<=4 ^ l.length
 |[],_=>⟨by decide,by decide⟩
 | a::l,h=>by
  obtain⟨h1,h2⟩:=cD (l:=l) λx hx=>h x (by simp[hx]);obtain⟨k,h4⟩:=h a (by simp);rw[dN,V8,Yh,PM (4 ^ l.length)];constructor
  ·have:=aeD k h1 (by decide) (by omega);simpa using this
  ·exact aeD h4 h2 (by omega) (by decide)
theorem IG{b:Int}(hb:0<=b):∀{l:List Int},(∀x∈l,0<=x/\x<=b)->0<=l.sum/\l.sum<=b*l.length
 |[],_=>by simp
 | a::l,h=>by
  obtain⟨h1,h2⟩:=IG hb (l:=l) λx hx=>h x (by simp[hx]);obtain⟨k,h4⟩:=h a (by simp);rw[TE,V8];have:b*((l.length+1:Nat):Int)=b*(l.length:Int)+b:=by rw[ad1,aem];simp
  omega
theorem BF(l:List Int)(x:Int):(l++[x]).sum=l.sum+x:=by simp
def ba3(m:jm)(p:Int):Int:=(m.Z7[p.toNat]?.map (·.Z5)).getD 0
def ba4(m:jm)(r:Int):Int:=(m.roots[r.toNat]?.map λr=>(r.length:Int)).getD 0
def EN(a b:Nat):Nat:=a ^^^ (a &&& b)
theorem Rz{n:Nat}(h:n<64):B7 n=2 ^ n:=by unfold B7;rw[VT,adJ];exact afg (a:=2) (by decide) h
theorem Nw[Z0]{d k:Nat}{g:G}{P:Nat->Prop}{v:AV}{l:List Int}{n:Int}(hd:0<d)(hv:ZT P k g.h l v) :
  ae C0 d 123 [v,Z_ n] g=.val (.bool (AW l n)):=by
 obtain⟨v',e,c⟩:=aZ hv d;rw[Zn];refine dA Du (xs:=[v',Z_ n]) (by simp only[aD,aU 0,e]) (by simp[pR]) hd ?_;simp only[sz,simprocAttr,pR];have hl:=hv.1;refine ro hl (c .nil).len (λj t df g=>df=[]/\ZY t 1=Z_ n/\(List.range j).all (zH l n)=true)
  ⟨rfl,by simp[sx],rfl⟩ (by simp[sx]) (by simp[sx]) (by decide) (by rintro j t df g v s (rfl|rfl|rfl|rfl|rfl|rfl|rfl)<;>simp[sx]) ?_ ?_
 ·rintro j t df g a ⟨rfl,h1,hw⟩ h5 h0;obtain⟨x,hx,f,hm⟩:=ah a;have bad:zH l n j=false->AW l n=false:=λh=>jf a h;have rr:=(c g.h).ints;simp only[sz,simprocAttr,rr,h0,h5,hx,a,Ju,Zy,PW,ci];refine ba (λhb=>?_) (λhb=>?_)
  ·simp only[sz,simprocAttr,hb];rw[bad (by simp[zH,hx]at *;omega)]
  ·simp only[sz,simprocAttr,rr,hb,h0,h1,h5,hx,a,Ju,Zy,PW,ci];refine ba (λhc=>?_) (λhc=>?_)
   ·simp only[sz,simprocAttr,hc];rw[bad (by simp[zH,hx]at *;omega)]
   ·simp only[sz,simprocAttr,hc,h5];refine ba (λhd=>?_) (λhd=>?_)
    ·obtain⟨i,rfl⟩:∃i,j=i+1:=⟨j - 1,by simp at hd;omega⟩;obtain⟨y,b,-,-⟩:=ah (l:=l) (j:=i) (by omega);have hi:i<l.length:=by omega
     have e:IntKind.wrap .i64 (((i+1:Nat):Int) - 1)=(i:Int):=by rw[aq];omega
     simp only[sz,simprocAttr,rr,hd,e,h0,h5,hx,a,b,hi,Ju,Zy,PW,ci];refine ba (λhe=>?_) (λhe=>?_)
     ·simp only[sz,simprocAttr];rw[bad (by simp[zH,hx,b]at *;omega)]
     ·simp only[sx,sy,↓reduceIte,Nat.reduceEqDiff,h0,h1,h5];rw[eV,hw];simp[zH,hx,b]at *;omega
    ·have:j=0:=by simp at hd;omega
     subst this;simp only[sz,simprocAttr,h0,h1,h5];simp[zH,hx]at *;omega
 ·rintro t df g ⟨rfl,-,hw⟩ -;simp only[sz,simprocAttr,qT];rw[AW,hw]
def ba5(m:jm)(x:XN):List Int:=x.frm.map (ba3 m)++x.Yi.map (ba4 m)
def ba6(m:jm):Int:=G5 (m.roots.map λr=>(r.length:Int))
end
end Hx
end
section
namespace Hx
open Go
def Wb(a s:Nat):Prop:=∀v,a.testBit v=true->s.testBit v=true
theorem mM(s v:Nat):AU s v=s.testBit v:=by rw[Nat.testBit_eq_decide_div_mod_eq,AU,afo];rw[Yj,beq_iff_eq,decide_eq_true_iff]
theorem H6{a s:Nat}:EN a s=0↔Wb a s:=by
 constructor
 ·intro h v k;have:=congrArg (·.testBit v) h;simp[EN,k]at this;exact this
 ·intro h;refine adb λv=>?_;have:=h v;simp only[EN,aeu,ad2,Nat.zero_testBit];cases ha:a.testBit v
  ·rfl
  ·rw[this ha];rfl
theorem x_(a b v:Nat):(a ||| b).testBit v=(a.testBit v || b.testBit v):=Nat.testBit_or a b v
theorem EG{n:Nat}(h:n<64)(v:Nat):(B7 n).testBit v=decide (n=v):=by rw[Rz h,Nat.testBit_two_pow]
section
variable {p:List Nat}
def XQ(p:List Nat)(v:Nat):Nat:=p[v]?.getD 0
def Cl(p:List Nat)(s:Nat):Prop:=∀v,v<p.length->s.testBit v=true->Wb (XQ p v) s
theorem IN{s t:Nat}(hc:Cl p t)(h:Wb s t):∀j,j<=p.length->Wb (B5 p s j) t
 |0,_=>h
 | j+1,hj=>by
  have ih:=IN hc h j (by omega);rw[jA]
  split
  ·rename_i hb;rw[mM]at hb;intro v hv;rw[x_,T6]at hv;rcases hv with hv|hv
   ·exact ih v hv
   ·exact hc j (by omega) (ih j hb) v hv
  ·exact ih
theorem NS{s t:Nat}(hc:Cl p t)(h:Wb s t):∀j,Wb (Df p s j) t
 |0=>h
 |j+1=>by rw[rn];exact IN hc (NS hc h j) _ (ZV _)
def PA(p:List Nat)(s:Nat):Prop:=Cl p s/\∀v,v<p.length->s.testBit v=true->(Df p (XQ p v) p.length).testBit v=false
theorem AD:AP p=true↔∀v,v<p.length->(Df p (XQ p v) p.length).testBit v=false:=by
 unfold AP;rw[Xw];constructor
 ·intro h v k;have:=h v (Q9.2 k);rw[mM]at this;simpa [XQ] using this
 ·intro h v k;have:=h v (Q9.1 k);rw[mM];simpa [XQ] using this
def VB(s:Nat):Nat->Nat
 |0=>0
 |n+1=>VB s n+(if s.testBit n then 1 else 0)
theorem Mr(s:Nat):∀n,VB s n<=n
 |0=>ZV _
 |n+1=>by have:=Mr s n;unfold VB;split<;>omega
theorem Ki{a s:Nat}(h:Wb a s):∀n,VB a n<=VB s n
 |0=>ZV _
 | n+1=>by
  have:=Ki h n;unfold VB
  split
  ·rename_i hb;rw[ZN (h n hb)];omega
  ·split<;>omega
theorem Ry{a s:Nat}(h:Wb a s){v:Nat}(hv:s.testBit v=true)(ha:a.testBit v=false):∀n,v<n->VB a n<VB s n
 |0,h0=>by omega
 | n+1,hn=>by
  unfold VB
  by_cases hvn:v=n
  ·subst hvn;have:=Ki h v;rw[ZN hv,ha];simp;omega
  ·have:=Ry h hv ha n (by omega)
   split
   ·rename_i hb;rw[ZN (h n hb)];omega
   ·split<;>omega
theorem Kh{s:Nat}:∀n,VB s n=n->∀v,v<n->s.testBit v=true
 |0,_,v,h=>by omega
 | n+1,h,v,hv=>by
  unfold VB at h;have:=Mr s n
  split at h
  ·rename_i hb
   by_cases e:v=n
   ·subst e;exact hb
   ·exact Kh n (by omega) v (by omega)
  ·omega
theorem BE{a s:Nat}(h:Wb a s)(h':Wb s a):a=s:=adb λv=>by
 cases ha:a.testBit v
 ·cases hs:s.testBit v
  ·rfl
  ·rw[h' v hs]at ha;cases ha
 ·rw[h v ha]
theorem Yl{a s:Nat}(h:Wb a s):a<=s:=by
 have:a ||| s=s:=adb λv=>by
  rw[x_];cases ha:a.testBit v
  ·simp
  ·rw[h v ha];rfl
 rw[<-this];exact Nat.left_le_or
theorem ve(s:Nat):∀j,Wb s (B5 p s j)
 |0=>λ_ h=>h
 | j+1=>by
  have ih:=ve s j;rw[jA]
  split
  ·intro v k;rw[x_,ih v k];rfl
  ·exact ih
theorem NQ{s:Nat}{j k:Nat}(h:j<=k):Wb (B5 p s j) (B5 p s k):=by
 induction h with
 |refl=>exact λ_ h=>h
 | step _ ih =>
  rw[jA]
  split
  ·intro v a;rw[x_,ih v a];rfl
  ·exact ih
theorem PN{s:Nat}(h:B5 p s p.length=s):Cl p s:=by
 intro v k hb u hu;have h1:(B5 p s v).testBit v=true:=ve s v v hb;have h2:(B5 p s (v+1)).testBit u=true:=by rw[jA,mM,h1,ZN rfl,x_];have:(p[v]?.getD 0).testBit u=true:=hu;rw[this];simp
 have:=NQ (p:=p) (s:=s) (show v+1<=p.length by omega) u h2;rwa [h]at this
theorem Uq{s n v:Nat}(h:s<2 ^ n)(hv:s.testBit v=true):v<n:=by
 rcases TU v n with h1|h1
 ·exact h1
 ·rw[ae4 (Vd h (Wl (by decide) h1))]at hv;cases hv
theorem YL{f:Nat->Nat}{n:Nat}(hm:∀j,Wb (f j) (f (j+1)))(hb:∀j,f j<2 ^ n)(hs:∀j,f (j+1)=f j->f (j+2)=f (j+1)):f (n+1)=f n:=by
 have key:∀j,j<=VB (f j) n\/f (j+1)=f j:=by
  intro j
  induction j with
  |zero=>exact .inl (Jq _)
  | succ j ih =>
   rcases ih with ih|ih
   ·by_cases e:f (j+1)=f j
    ·exact .inr (hs j e)
    ·left;have:∃v,(f (j+1)).testBit v=true/\(f j).testBit v=false:=by
      apply Wx;intro k;apply e;refine BE (λv hv=>?_) (hm j);cases hc:(f j).testBit v
      ·exact absurd ⟨v,hv,hc⟩ k
      ·rfl
     obtain⟨v,h1,h2⟩:=this;have:=Ry (hm j) h1 h2 n (Uq (hb _) h1);omega
   ·exact .inr (hs j ih)
 rcases key n with h|h
 ·have hc:VB (f n) n=n:=by have:=Mr (f n) n;omega
  refine BE (λv hv=>?_) (hm n);exact Kh n hc v (Uq (hb _) hv)
 ·exact h
theorem XW{a b n:Nat}(h:a<2 ^ n)(h':b<2 ^ n):a ||| b<2 ^ n:=adQ h h'
theorem Nj{v:Nat}(hp:∀x∈p,x<2 ^ p.length):XQ p v<2 ^ p.length:=by
 unfold XQ;cases h:p[v]? with
 |none=>exact Nat.pow_pos (by decide)
 |some x=>exact hp x (YH h)
theorem IM(hp:∀x∈p,x<2 ^ p.length){s:Nat}(hs:s<2 ^ p.length):∀j,B5 p s j<2 ^ p.length
 |0=>hs
 | j+1=>by
  have ih:=IM hp hs j;rw[jA]
  split
  ·exact XW ih (Nj hp)
  ·exact ih
theorem Ut(hp:∀x∈p,x<2 ^ p.length){s:Nat}(hs:s<2 ^ p.length):∀j,Df p s j<2 ^ p.length
 |0=>hs
 |j+1=>by rw[rn];exact IM hp (Ut hp hs j) _
theorem Rf(hp:∀x∈p,x<2 ^ p.length){s:Nat}(hs:s<2 ^ p.length):Cl p (Df p s p.length):=by
 apply PN;rw[<-rn];exact YL (f:=λj=>Df p s j) (λj=>by rw[rn];exact ve _ _) (λj=>Ut hp hs j) (λj e=>by have e:Df p s (j+1)=Df p s j:=e;show Df p s (j+1+1)=Df p s (j+1);rw[rn,e,<-rn,e])
theorem Ev{s:Nat}:∀j,Wb s (Df p s j)
 |0=>λ_ h=>h
 |j+1=>λv hv=>by rw[rn];exact ve _ _ v (Ev j v hv)
theorem uS{a b:List Nat}(h:∀i∈a,∀j∈b,i≠j):meets a b=false:=by simp only[meets,aeM];intro i hi hc;exact h i hi i (adt.1 hc) rfl
theorem dP{x y:ZC}(hb:x.lk.big=false)(hb2:y.lk.big=false)(hs:x.lk.sr=[])(hs2:y.lk.sr=[])(h1:∀i∈x.wr,∀j∈y.wr,i≠j)(h2:∀i∈x.wr,∀j∈y.lk.rd,i≠j)(h3:∀i∈y.wr,∀j∈x.lk.rd,i≠j) :
  bz x y=true:=by
 have h:=uS h1;have k:=uS h2;have a:=uS h3;have b:meets y.wr x.wr=false:=uS λi hi j hj e=>h1 j hj i hi e.symm;have c:∀l:List Nat,meets l []=false:=λl=>by simp[meets]
 simp only[bz,fA,dL,hb,hb2,hs,hs2,h,k,a,b,c,FG,MH,SM,XE,U4]
 split<;>split<;>rfl
theorem qp{g:G}{b sz bytes:Nat}{zero:List AV}{k1 k2:IntKind}{n:Nat}{K:AV->G->Prop}{D:ZU->Prop}(hn:n<=aQ)(hb:n*bytes<=aQ)(hg:b<=g.nx)
  (k:∀v' g',Own g' b v' sz (List.replicate n zero)->g'.nx=g.nx+1->(∀i,i<g.nx->g'.h.get i=g.h.get i)->Zi v'=some g.nx->g'.lg=g.nx::g.lg->K v' g') :
  (M9 sz bytes zero (.int k1 (n:Int)) (.int k2 (n:Int)) g).sat K g D:=by
 show (match dU aQ (.int k2 (.ofNat n)) with
  | some cn=>match dU cn (.int k1 (.ofNat n)) with
   |some ln=>ap (Nat.ble (cn*bytes) aQ) (OR.upd (.ZG g.nx 0 0 ln none) (g.new (Z4 sz (jb cn zero)))) .fail
   |none=>.fail
  |none=>.fail).sat K g D
 simp only[dU,aa,R1,ZN hn,ZV,ZN hb,if_true];refine k _ _ (.inr ⟨g.nx,0,false,hg,by simp,by simp,by simp[aY,jb]⟩) (by simp) (λi hi=>?_) rfl (by simp);rw[G.new_h,aF]
theorem SV(n sz id ep i off:Nat)(k:IntKind){j:Nat}(h:j<n):FW n sz (.ZD id ep i off) (.int k (j:Int))=.val (.ZD id ep i (off+j*sz)):=by show ap (Nat.blt j n) (OR.val (.ZD id ep i (off+j*sz))) .fail=_;rw[aa,ZN (by simpa using h)]
def Zt(x:UInt8):AV:=.int .u8 (x.toNat:Int)
theorem Ub(l:List UInt8)(h:H)(d:Nat):ZS h d aw (.agg (l.map Zt))=some (.agg (l.map Zt)):=by
 have:∀l:List UInt8,aD (Hx.ZS h d 23) (l.map Zt)=some (l.map Zt):=λl=>by
  induction l with
  |nil=>rfl
  | cons x l ih =>simp only[Qv,aD,ih,show Hx.ZS h d 23 (Zt x)=some (Zt x) from rfl]
 show (match aD (Hx.ZS h d 23) (l.map Zt) with|some ys=>some (AV.agg ys)|none=>none)=_;rw[this]
def Raw(w:AV):Prop:=w=.Z6\/∃rows,w=.Zs 0 1 rows
theorem Ye{w:AV}{l:List Int}(hw:ZT ZX 0 .nil l w)(hr:Raw w)(c:Nat) :
  ∃w',(∀g,Au 1 w none (some (Z_ (min (l.length:Int) (c:Int)))) g=.val w')/\ZT ZX 0 .nil (l.take c) w':=by
 have hm:min (l.length:Int) (c:Int)=((min l.length c:Nat):Int):=by omega
 rw[hm];have hlt:(l.take c).length<2^63:=by have:=hw.1;rw[Rk];omega
 rcases hr with rfl|⟨rows,rfl⟩
 ·have hl:l=[]:=hw.2;subst hl;refine⟨.Z6,λg=>?_,hlt,by simp[NJ]⟩;have:min ([]:List Int).length c=0:=by simp
  rw[this];rfl
 ·obtain⟨h0,h1,h2⟩:=(show 0<=0/\(1=Rp.sz Int\/rows=[])/\ZL (Rp.rp ZX 0 .nil) l rows from hw.2);have k:=h2.len;refine⟨.Zs 0 1 (rows.take (min l.length c)),λg=>?_,hlt,?_⟩
  ·show RK (match bc (bi rows) (bi rows) (some (Z_ (.ofNat (min l.length c)))) with
    |none=>none
    | some h=>match bc 0 h none with
     |none=>none
     |some l=>ap (Nat.beq 1 1) (some (.Zs 0 1 (iE (h - l) (gN l rows)))) none)=_
   have:bc (bi rows) (bi rows) (some (Z_ (.ofNat (min l.length c))))=some (min l.length c):=by show ap (Nat.ble (min l.length c) (bi rows)) (some (min l.length c)) none=_;rw[aa,ZN];rw[ax,<-k];simp;omega
   rw[this];show RK (ap (Nat.beq 1 1) (some (AV.Zs 0 1 (iE (min l.length c - 0) (gN 0 rows)))) none)=_;rw[show Nat.beq 1 1=true from rfl,Uf,bE,bu,XI,Fa];rfl
  ·refine⟨ZV _,h1.elim .inl (λh=>.inr (by rw[h];simp)),?_⟩;have:=h2.take (min l.length c);rwa [show l.take (min l.length c)=l.take c by rw[Nat.min_comm,<-List.take_take,Xo]]at this
abbrev Mo:Type:=List UInt8×UInt16×List UInt8
def sU(us:List UInt8):List Int:=(us.take 5).map λu=>1+(u.toNat:Int) % 4
theorem T2{P:Nat->Prop}{k:Nat}{h:H}{x:UInt16}{cs:List AV}:Rp.rp P k h x cs↔cs=[.int .u16 (x.toNat:Int)]:=by simp[Rp.rp]
theorem yO{P:Nat->Prop}{k:Nat}{h:H}{x:Mo}{cs:List AV}:Rp.rp P k h x cs↔∃a b,cs=[a,.int .u16 (x.2.1.toNat:Int),b]/\ZT P k h x.1 a/\ZT P k h x.2.2 b:=by
 constructor
 ·rintro⟨c1,d,rfl,⟨a,rfl,h1⟩,e,f,rfl,h2,⟨b,rfl,c⟩⟩;rw[T2.1 h2];exact⟨a,b,rfl,h1,c⟩
 ·rintro⟨a,b,rfl,h1,h2⟩;exact⟨[a],[_,b],rfl,⟨a,rfl,h1⟩,[_],[b],rfl,T2.2 rfl,⟨b,rfl,h2⟩⟩
theorem PS[Z0]{d k:Nat}{g:G}{P:Nat->Prop}{v:AV}{x:Mo}(hd:0<d)(hm:Zl x P k g.h v) :
  ∃r,ae C0 d 71 [v] g=.val r/\IT 0 (sU x.1) r:=by
 obtain⟨v',e,cs,rfl,hc⟩:=nC (cH x) (by decide) d hm;obtain⟨a,b,rfl,i,D⟩:=yO.1 hc;obtain⟨rows,o,I,B,J⟩:=i.all;have o:∀h',ak h' 1 a=some rows:=o;rw[Zn];refine aI wW (xs:=[.agg [a,.int .u16 (x.2.1.toNat:Int),b]]) (by simp only[aD,e]) (by simp[iM]) (aE _) (by decide) hd ?_;have E:(sU x.1).length=min x.1.length 5:=by simp[sU];omega
 simp only[sz,simprocAttr,iM,lI];refine bh (min x.1.length 5) (by omega) (λj t df g=>df=[]/\ZY t 1=ZZ 0/\g.h.get 0=Z4 3 [[a,.int .u16 (x.2.1.toNat:Int),b]]/\1<=g.nx/\∃u,ZY t 3=u/\Own g 1 u 1 (((sU x.1).take j).map ci))
  ⟨rfl,by simp[sx],by simp[sx],by simp[sx],_,rfl,.inl ⟨by simp[sx],rfl⟩⟩ (by simp[sx]) (by decide)
  (by rintro j t df g v s (rfl|rfl|rfl)<;>simp[sx]) ?_ ?_ ?_
 ·rintro j t df g w ⟨rfl,h1,hg,c,u,f,hu⟩ h4
  by_cases hlt:(j:Int)<(x.1.length:Int)
  ·have:decide ((j:Int)<((min x.1.length 5:Nat):Int))=decide ((j:Int)<5):=by congr 1;apply propext;omega
   simp only[sz,simprocAttr,h1,h4,hg,i.len,hlt,this];exact⟨c,u,f,hu⟩
  ·have:decide ((j:Int)<((min x.1.length 5:Nat):Int))=false:=Vf (by omega);simp only[sz,simprocAttr,h1,h4,hg,i.len,hlt,this];exact⟨c,u,f,hu⟩
 ·rintro j t df g w ⟨rfl,h1,hg,c,u,f,hu⟩ h4;obtain⟨y,p,-,-⟩:=ah (l:=x.1) (j:=j) (by omega);obtain⟨z,hz,m,-⟩:=ah (l:=sU x.1) (j:=j) (by omega);have n:z=1+(y.toNat:Int) % 4:=by
   have:(sU x.1)[j]?=some (1+(y.toNat:Int) % 4):=by simp[sU,show j<5 by omega,p]
   rw[this]at hz;injection hz with hz;exact hz.symm
  obtain⟨row,q,C⟩:=B j y p;rw[fK.1 C]at q;have hlt:j<rows.length:=by omega
  have A:y.toNat<256:=y.toNat_lt;have F:0<=(y.toNat:Int) % 4:=by omega
  have H:(y.toNat:Int) % 4<4:=by omega
  simp only[sz,simprocAttr,h1,f,h4,hg,o,hlt,q,gC .u8 (show (0:Int)<=(y.toNat:Int) by omega) (show (0:Int)<4 by decide),aq (show -2^63<=(y.toNat:Int) % 4 by omega) (show (y.toNat:Int) % 4<2^63 by omega),aq (show -2^63<=1+(y.toNat:Int) % 4 by omega) (show 1+(y.toNat:Int) % 4<2^63 by omega)];refine aP (new:=[ci (1+(y.toNat:Int) % 4)]) (hu.step (Fr.new _ _)) (by simp[sx,sy,ci]) (by simp) (by simp[aQ];omega) λv2 g2 hv2 n2 f2 _ l2=>?_;simp only[sz,simprocAttr,h1,h4];refine⟨?_,?_,_,rfl,?_⟩
  ·rw[f2 0 (by simp) (λe=>by have:=(hu.lt e).1;omega),G.new_h,aF,hg]
  ·simp at n2;omega
  ·rw[m,n];simpa [ci] using hv2
 ·rintro t df g ⟨rfl,h1,hg,c,u,f,hu⟩;rw[U8 (by omega)]at hu;simp only[sz,simprocAttr,k_,f];exact⟨_,hu.ints (by omega)⟩
theorem NF{g:G}{b sz:Nat}{u:AV}{rows:List (List AV)}(hu:Own g b u sz rows){n:Nat}(hn:n<=rows.length) :
  ∃y,Au sz u none (some (Z_ (n:Int))) g=.val y/\ak g.h sz y=some (rows.take n):=by
 rcases hu with⟨rfl,rfl⟩|⟨id,ep,lo,h1,h2,rfl,k⟩
 ·have:n=0:=by simpa using hn
  subst this;exact⟨.Z6,rfl,rfl⟩
 ·simp only[Au,qz,k,X_,X_,U2,ax,Ku,aa,R1,ZV,if_true,bc,XH,Fa];simp only[dU];rw[show ap (n.ble rows.length) (some n) none=some n from by rw[aa,ZN (by simpa using hn)]];dsimp only
  by_cases h0:rows=[]
  ·subst h0;have:n=0:=by simpa using hn
   subst this;cases lo
   ·exact⟨_,rfl,rfl⟩
   ·exact⟨_,rfl,uZ _ _ _ _⟩
  ·have hb:rows.length.beq 0=false:=by cases rows with|nil=>exact absurd rfl h0|cons a l=>rfl
   rw[hb];refine⟨_,rfl,?_⟩;rw[fX,k,dJ,i6,XI]
theorem NG{g:G}{b sz:Nat}{u:AV}{rows:List (List AV)}(hu:Own g b u sz rows){n:Nat}(hn:n<=rows.length) :
  ∃y,Au sz u (some (Z_ (n:Int))) none g=.val y/\ak g.h sz y=some (rows.drop n):=by
 rcases hu with⟨rfl,rfl⟩|⟨id,ep,lo,h1,h2,rfl,k⟩
 ·have:n=0:=by simpa using hn
  subst this;exact⟨.Z6,rfl,rfl⟩
 ·simp only[Au,qz,k,X_,X_,U2,ax,Ku,aa,R1,ZV,if_true,bc,XH,Fa];simp only[dU];rw[show ap (n.ble rows.length) (some n) none=some n from by rw[aa,ZN (by simpa using hn)]];dsimp only
  by_cases h0:rows.length=n
  ·subst h0;rw[ZN (X_ _),List.drop_length];cases lo
   ·exact⟨_,rfl,rfl⟩
   ·exact⟨_,rfl,uZ _ _ _ _⟩
  ·rw[ZF (λe=>h0 (Wj e))];refine⟨_,rfl,?_⟩;rw[fX,k,dJ,i6,U8 (by simp)]
def wJ(os:List UInt8)(k:Nat):Nat:=if k<os.length then ((os[k]?.map UInt8.toNat).getD 0) % (k+1) else 0
def Cc(os:List UInt8):Nat->List Int
 |0=>[]
 |k+1=>(Cc os k).take (wJ os k)++(k:Int)::(Cc os k).drop (wJ os k)
theorem ub(os:List UInt8):∀k,(Cc os k).length=k
 |0=>rfl
 |k+1=>by simp only[Cc,J6,V8,Rk,Te,ub os k];omega
theorem Gk[Z0]{d k:Nat}{g:G}{P:Nat->Prop}{v:AV}{x:Mo}(hd:0<d)(hm:Zl x P k g.h v) :
  ∃r,ae C0 d 29 [v] g=.val r/\IT 0 (Cc x.2.2 (min x.1.length 5)) r:=by
 obtain⟨v',e,cs,rfl,hc⟩:=nC (cH x) (by decide) d hm;obtain⟨a,b,rfl,D,p⟩:=yO.1 hc;have q:∀g:G,Zl x ZX (max k d) g.h (.agg [a,.int .u16 (x.2.1.toNat:Int),b]):=λg=>⟨_,rfl,yO.2 ⟨a,b,rfl,D.tree (ZV _),p.tree (ZV _)⟩⟩;obtain⟨rows,A,U,L,V⟩:=p.all;have A:∀h',ak h' 1 b=some rows:=A;rw[Zn];refine aI pE (xs:=[.agg [a,.int .u16 (x.2.1.toNat:Int),b]]) (by simp only[aD,e]) (by simp[ea]) (aE _) (by decide) hd ?_;have E:(sU x.1).length=min x.1.length 5:=by simp[sU];omega
 simp only[sz,simprocAttr,ea,gK];refine bh (min x.1.length 5) (by omega) (λj t df g=>df=[]/\ZY t 1=ZZ 0/\g.h.get 0=Z4 3 [[a,.int .u16 (x.2.1.toNat:Int),b]]/\1<=g.nx/\∃u,ZY t 3=u/\Own g 1 u 1 ((Cc x.2.2 j).map ci))
  ⟨rfl,by simp[sx],by simp[sx],by simp[sx],_,rfl,.inl ⟨by simp[sx],rfl⟩⟩ (by simp[sx]) (by decide)
  (by rintro j t df g v s (rfl|rfl|rfl)<;>simp[sx]) ?_ ?_ ?_
 ·rintro j t df g H ⟨rfl,h1,hg,f,u,c,hu⟩ h4;simp only[sz,simprocAttr,h1,h4,hg];refine aM (PS (abc d) (q _)) λr hr=>?_;simp only[sz,simprocAttr,h1,h4,hg,(hr.sl .nil).len,E];exact⟨f,u,c,hu⟩
 ·rintro j t df g H ⟨rfl,h1,hg,f,u,c,hu⟩ h4;have J:((Cc x.2.2 j).map ci).length=j:=by rw[Ju,ub]
  have I:wJ x.2.2 j<=j:=by
   unfold wJ;split
   ·have:=US (((x.2.2)[j]?.map UInt8.toNat).getD 0) (show 0<j+1 by omega);omega
   ·omega
  have key:∀(t:T) (Q:QT),ZY t 1=ZZ 0->ZY t 3=u->ZY t 4=Z_ (j:Int)->ZY t 5=Z_ (wJ x.2.2 j:Int) ->
    (∀(t':T) (g':G),ZY t' 1=ZZ 0->ZY t' 4=Z_ (j:Int)->g'.h.get 0=Z4 3 [[a,.int .u16 (x.2.1.toNat:Int),b]]->1<=g'.nx->(∃u,ZY t' 3=u/\Own g' 1 u 1 ((Cc x.2.2 (j+1)).map ci))->Q .norm t' [] g') ->
    wp C0 (d+1) none dw Q t [] g:=by
   intro t Q h1 c h4 h5 kk;obtain⟨W,M,w1⟩:=NF hu (n:=wJ x.2.2 j) (by omega);simp only[sz,simprocAttr,dw,c,h5,Ym,Ur,M];refine aP (rows:=[]) (b:=1) (.inl ⟨rfl,rfl⟩) w1 f (by simp[aQ];omega) λv1 g1 hv1 n1 f1 vid1 _=>?_;simp only[sz,simprocAttr,h4];refine aP (new:=[ci (j:Int)]) (hv1.step (Fr.new _ _)) (by simp[sx,sy,ci]) (by simp) (by simp[aQ,ub];omega) λv2 g2 hv2 n2 f2 vid2 _=>?_;have w:Own g1 1 u 1 ((Cc x.2.2 j).map ci):=hu.fr n1 λi hi=>f1 i (hu.lt hi).2 (by simp[Zi]);have o:∀i,i<g.nx->Zi v1≠some i:=λi hi e=>by
    rcases vid1 with h|⟨i',h,F⟩
    ·rw[h]at e;cases e
    ·rw[h]at e;injection e with e;omega
   have z:Own g2 1 u 1 ((Cc x.2.2 j).map ci):=w.fr (by simp at n2;omega) λi hi=>by have hlt:=(hu.lt hi).2;rw[f2 i (by simp;omega) (o i hlt),G.new_h,aF]
   obtain⟨X,N,O⟩:=NG z (n:=wJ x.2.2 j) (by omega);simp only[sz,simprocAttr,c,h5,Ym,Ur,N];refine aP hv2 O (by simp at n2;omega) (by simp[aQ,ub];omega) λv3 g3 hv3 n3 f3 _ _=>?_;simp only[sz,simprocAttr];refine kk _ _ (by simp[sx,h1]) (by simp[sx,h4]) ?_ (by simp at n2;omega) ⟨_,rfl,?_⟩
   ·rw[f3 0 (by simp at n2;omega) (λe=>by have:=(hv2.lt e).1;omega),f2 0 (by simp) (o 0 (by omega)),G.new_h,aF,f1 0 (by omega) (by simp[Zi]),hg]
   ·simp only[sx,↓reduceIte];simpa [Cc,VX,List.map_drop] using hv3
  simp only[sz,simprocAttr,h1,h4,hg,p.len];refine ba (λhb=>?_) (λhb=>?_)
  ·have m:j<x.2.2.length:=by simp at hb;omega
   obtain⟨y,B⟩:∃y,x.2.2[j]?=some y:=⟨_,Zq m⟩;obtain⟨row,C,R⟩:=L j y B;rw[fK.1 R]at C;have K:y.toNat<256:=y.toNat_lt;have hlt:j<rows.length:=by omega
   have l:((wJ x.2.2 j:Nat):Int)=(y.toNat:Int) % ((j:Int)+1):=by unfold wJ;rw[ZN m,B];simp
   simp only[sz,simprocAttr,h1,h4,hg,A,hlt,C,aq (show -2^63<=(y.toNat:Int) by omega) (show (y.toNat:Int)<2^63 by omega),aq (show -2^63<=(j:Int)+1 by omega) (show (j:Int)+1<2^63 by omega),gC .i64 (show (0:Int)<=(y.toNat:Int) by omega) (show 0<(j:Int)+1 by omega)];refine key _ _ (by simp[sx,h1]) (by simp[sx,c]) (by simp[sx,h4]) (by simp[sx,l]) λt' g' e1 e4 e0 en eu=>?_;simp only[sy,e1,e4,e0];exact⟨en,eu⟩
  ·have l:wJ x.2.2 j=0:=by unfold wJ;rw[ZF];simp at hb;omega
   simp only[sx];refine key _ _ (by simp[sx,h1]) (by simp[sx,c]) (by simp[sx,h4]) (by simp[sx,l]) λt' g' e1 e4 e0 en eu=>?_;simp only[sy,e1,e4,e0];exact⟨en,eu⟩
 ·rintro t df g ⟨rfl,h1,hg,f,u,c,hu⟩;simp only[sz,simprocAttr,gi,c];exact⟨_,hu.ints (by rw[ub];omega)⟩
def ba0(Z1:List Int):List Int->Nat->List Int×Bool
 |Z2,0=>(Z2,false)
 |Z2,k+1=>if (Z2[k]?.getD 0)+1<(Z1[k]?.getD 0) then (Z2.set k ((Z2[k]?.getD 0)+1),true) else ba0 Z1 (Z2.set k 0) k
def ba1(Z1 Z2:List Int):List Int×Bool:=ba0 Z1 Z2 Z2.length
def ba2(Z1:List Int):Nat->List Int->List (List Int)
 |0,_=>[]
 |f+1,v=>v::(if (ba1 Z1 v).2 then ba2 Z1 f (ba1 Z1 v).1 else [])
def ba9(Z1:List Int):List (List Int):=ba2 Z1 (G5 Z1).toNat (List.replicate Z1.length 0)
def zL(l:List Int)(h:Int):Int:=l.foldr (λc q=>q / c) h
def AO(l:List Int)(h:Int)(i:Nat):Int:=zL (l.drop (i+1)) h % l[i]?.getD 1
def EU(l:List Int)(h:Int):List Int:=(List.range l.length).map (AO l h)
theorem O8{l:List Int}{h:Int}(hl:∀c∈l,0<c)(hh:0<=h):0<=zL l h/\zL l h<=h:=by
 induction l with
 |nil=>exact⟨hh,ael _⟩
 | cons c l ih =>obtain⟨a,b⟩:=ih λx hx=>hl x (by simp[hx]);have hc:=hl c (by simp);show 0<=zL l h / c/\zL l h / c<=h;exact⟨aeq a (by omega),aft (Int.ediv_le_self _ a) b⟩
theorem Rg[Z0]{d k:Nat}{g:G}{P:Nat->Prop}{v:AV}{l:List Int}{h:Int}(hd:0<d)(hv:ZT P k g.h l v)(hl:l.length<=1000)(hc:∀c∈l,0<c)(hh:0<=h/\h<2^63) :
  ∃r,ae C0 d 126 [v,Z_ h] g=.val r/\IT 0 (EU l h) r:=by
 obtain⟨v',e,z⟩:=aZ hv d;rw[Zn];refine aI Dw (xs:=[v',Z_ h]) (by simp only[aD,e,aU 0]) (by simp[pS]) (aE _) (by decide) hd ?_;have vl:∀g,gz .slice v' g=.val (Z_ (l.length:Int)):=λg=>(z .nil).len g;simp only[sz,simprocAttr,pS,vl];refine rf (b:=0) (n:=l.length) (by simp[aQ];omega) (by simp[aQ];omega) (by simp) λu g1 hu n1 f1 v1=>?_;simp only[sz,simprocAttr,vl,aq (show -2^63<=(l.length:Int) - 1 by omega) (show (l.length:Int) - 1<2^63 by omega)];refine uf (m:=l.length) (by omega) (λj t df g=>df=[]/\St t [(0,v'),(1,Z_ (zL (l.drop j) h)),(5,u)]/\Own g 0 u 1 (((List.range l.length).map λi=>if j<=i then AO l h i else 0).map ci))
  ⟨rfl,by simp[sx,St,zL],?_⟩ (by simp[sx]) (by decide) (by rintro j t df g v s (rfl|rfl|rfl|rfl|rfl)<;>simp[sx,St]) ?_ ?_
 ·have:((List.range l.length).map λi=>if l.length<=i then AO l h i else 0).map ci=List.replicate l.length [Z_ 0]:=by
   refine adG (by simp) λi h1 h2=>?_;have:i<l.length:=by simpa using h1
   simp[ci];omega
  rw[this];exact hu
 ·rintro j t df g p ⟨rfl,⟨h0,h1,h5,-⟩,ho⟩ A;obtain⟨c,a,-,hm⟩:=ah (l:=l) (j:=j) p;have f:=hc c hm;obtain⟨q0,q1⟩:=O8 (l:=l.drop (j+1)) (h:=h) (λx hx=>hc x (R2 hx)) hh.1;have hlt:j<(((List.range l.length).map λi=>if j+1<=i then AO l h i else 0).map ci).length:=by simp;omega
  have w:(((List.range l.length).map λi=>if j+1<=i then AO l h i else 0).map ci)[j]?=some (ci 0):=by rw[Zy,Zy,aex p];show some (ci (if j+1<=j then _ else 0))=_;rw[bJ]
  have hcl:(l.map ci)[j]?=some (ci c):=by rw[Zy,a];rfl
  have q:j<(l.map ci).length:=by simpa using p
  have y:zL (l.drop j) h=zL (l.drop (j+1)) h / c:=by
   have:l.drop j=c::l.drop (j+1):=by rw[Tg p];congr 1;rw[Zq p]at a;injection a
   rw[this];rfl
  have o:AO l h j=zL (l.drop (j+1)) h % c:=by rw[AO,a];rfl
  simp only[sz,simprocAttr,h0,h1,h5,A,ho.rows,hlt,(z g.h).ints,hcl,q,ci,gC .i64 q0 f];refine bZ (row:=ci 0) (row':=ci (AO l h j)) ho w rfl rfl (by rw[o];rfl) λg2 o2 n2 f2=>?_;have B:(((List.range l.length).map λi=>if j+1<=i then AO l h i else 0).map ci).set j (ci (AO l h j))=((List.range l.length).map λi=>if j<=i then AO l h i else 0).map ci:=by
   refine adG (by simp) λi h1 h2=>?_;rw[aeU];simp only[aei,aeF]
   split
   ·rename_i hi;subst hi;rw[ZN (ZV _)]
   ·rename_i hi
    by_cases hji:j+1<=i
    ·rw[ZN hji,i6]
    ·rw[ZF hji,bJ]
  rw[B]at o2;simp only[sz,simprocAttr,h0,h1,h5,A,(z g2.h).ints,hcl,q,ci,IZ .i64 q0 f,<-y,St];have hb:=O8 (l:=l.drop j) (h:=h) (λx hx=>hc x (R2 hx)) hh.1;refine⟨?_,o2⟩;rw[aq]
 ·rintro t df g ⟨rfl,⟨h0,h1,h5,-⟩,ho⟩;simp only[sz,simprocAttr,qU,h5];have:((List.range l.length).map λi=>if 0<=i then AO l h i else 0)=EU l h:=by simp[EU]
  rw[this]at ho;exact⟨λ_=>True,ho.ints (by simp[EU];omega)⟩
def GX:List Int->List Int->Int
 |_::cs,v::vs=>v*G5 cs+GX cs vs
 |_,_=>0
def YZ(Z1 Z2:List Int):Prop:=ZL (λc v=>(0:Int)<=v/\v<c) Z1 Z2
theorem gt:∀{Z1 Z2:List Int},(∀c∈Z1,1<=c/\c<=4)->YZ Z1 Z2->0<=GX Z1 Z2/\GX Z1 Z2<G5 Z1
 |[],[],_,_=>⟨ael _,by decide⟩
 | c::cs,v::vs,hc,h=>by obtain⟨a,b⟩:=gt (Z1:=cs) (Z2:=vs) (λx hx=>hc x (by simp[hx])) h.2;obtain⟨p1,-⟩:=cD (l:=cs) λx hx=>hc x (by simp[hx]);have k:=h.1;rw[dN];show 0<=v*G5 cs+GX cs vs/\v*G5 cs+GX cs vs<c*G5 cs;have h1:0<=v*G5 cs:=Vl k.1 (by omega);have h2:(v+1)*G5 cs<=c*G5 cs:=ac0 (by omega) (by omega);rw[Wk,afe]at h2;omega
 |[],_::_,_,h=>h.elim
 |_::_,[],_,h=>h.elim
theorem YZ.drop:∀{Z1 Z2:List Int} (j:Nat),YZ Z1 Z2->YZ (Z1.drop j) (Z2.drop j)
 |_,_,0,h=>h
 |[],[],j+1,_=>trivial
 |_::_,_::_,j+1,h=>YZ.drop j h.2
 |[],_::_,_,h=>h.elim
 |_::_,[],_,h=>h.elim
theorem YZ.len{Z1 Z2:List Int}(h:YZ Z1 Z2):Z2.length=Z1.length:=(ZL.len h).symm
theorem SP[Z0]{d k k2:Nat}{g:G}{P P2:Nat->Prop}{v w:AV}{Z1 Z2:List Int}(hd:0<d)(hv:ZT P k g.h Z1 v)(hw:ZT P2 k2 g.h Z2 w)(hl:Z1.length<=13)(hc:∀c∈Z1,1<=c/\c<=4)(hin:YZ Z1 Z2) :
  ae C0 d 152 [v,w] g=.val (Z_ (GX Z1 Z2)):=by
 obtain⟨v',e,D⟩:=aZ hv d;obtain⟨w',E,I⟩:=aZ hw d;have H:=hin.len;rw[Zn];refine cz Fo (xs:=[v',w']) (by simp only[aD,e,E]) (by simp[rW]) hd ?_;have vl:∀g,gz .slice v' g=.val (Z_ (Z1.length:Int)):=λg=>(D .nil).len g;simp only[sz,simprocAttr,rW,vl,aq (show -2^63<=(Z1.length:Int) - 1 by omega) (show (Z1.length:Int) - 1<2^63 by omega)];refine uf (m:=Z1.length) (by omega) (λj t df g=>df=[]/\St t [(0,v'),(1,w'),(5,Z_ (GX (Z1.drop j) (Z2.drop j))),(6,Z_ (G5 (Z1.drop j)))])
  ⟨rfl,?_⟩ (by simp[sx]) (by decide) (by rintro j t df g v s (rfl|rfl|rfl|rfl|rfl)<;>simp[sx,St]) ?_ ?_
 ·simp[sx,St,GX,G5]
 ·rintro j t df g p ⟨rfl,⟨h0,h1,h5,B,-⟩⟩ h7;obtain⟨c,a,-,hm⟩:=ah (l:=Z1) (j:=j) p;obtain⟨x,b,-,-⟩:=ah (l:=Z2) (j:=j) (by omega);have dc:Z1.drop j=c::Z1.drop (j+1):=by rw[Tg p];rw[Zq p]at a;injection a with a;rw[a]
  have dv:Z2.drop j=x::Z2.drop (j+1):=by rw[Tg (by omega)];rw[gEE]at b;injection b with b;rw[b]
  have i:=hin.drop j;have o:∀y∈Z1.drop j,1<=y/\y<=4:=λy hy=>hc y (R2 hy);have f:=gt o i;obtain⟨p1,p2⟩:=cD o;have F:=gt (λy hy=>hc y (R2 hy)) (hin.drop (j+1));obtain⟨q1,q2⟩:=cD (l:=Z1.drop (j+1)) λy hy=>hc y (R2 hy);have pw:∀n,n<=13->(4:Int) ^ n<=67108864:=λn hn=>by
   have:=fH hn;have e:(4:Int) ^ 13=67108864:=by decide
   omega
  have pw1:=pw (Z1.drop j).length (by simp;omega);rw[dc,dv]at f i;rw[dc]at p1 p2 pw1;have z:0<=x/\x<c:=i.1;have C:0<=x*G5 (Z1.drop (j+1)):=Vl z.1 (by omega);rw[dN]at f p1 p2;have f:0<=x*G5 (Z1.drop (j+1))+GX (Z1.drop (j+1)) (Z2.drop (j+1))/\x*G5 (Z1.drop (j+1))+GX (Z1.drop (j+1)) (Z2.drop (j+1))<c*G5 (Z1.drop (j+1)):=f;have r:j<(Z1.map ci).length:=by simpa using p
  have u:j<(Z2.map ci).length:=by rw[Ju];omega
  have hcl:(Z1.map ci)[j]?=some (ci c):=by rw[Zy,a];rfl
  have A:(Z2.map ci)[j]?=some (ci x):=by rw[Zy,b];rfl
  have q:G5 (Z1.drop (j+1))*c=c*G5 (Z1.drop (j+1)):=PM _ _;simp only[sz,simprocAttr,h0,h1,h5,B,h7,(D g.h).ints,(I g.h).ints,hcl,r,u,A,ci,aq (show -2^63<=x*G5 (Z1.drop (j+1)) by omega) (show x*G5 (Z1.drop (j+1))<2^63 by omega),aq (show -2^63<=GX (Z1.drop (j+1)) (Z2.drop (j+1))+x*G5 (Z1.drop (j+1)) by omega) (show GX (Z1.drop (j+1)) (Z2.drop (j+1))+x*G5 (Z1.drop (j+1))<2^63 by omega),aq (show -2^63<=G5 (Z1.drop (j+1))*c by omega) (show G5 (Z1.drop (j+1))*c<2^63 by omega),St];refine⟨?_,?_⟩
  ·rw[dc,dv];show Z_ (_+_)=Z_ (x*G5 (Z1.drop (j+1))+GX _ _);rw[afs]
  ·rw[dc,dN,q]
 ·rintro t df g ⟨rfl,⟨h0,h1,h5,B,-⟩⟩;simp only[sz,simprocAttr,tw,h5]
theorem CG{l:List Int}(hc:∀c∈l,1<=c/\c<=4)(hl:l.length<=13):wK l=G5 l:=by
 have pw:∀n,n<=13->(4:Int) ^ n<=67108864:=λn hn=>by
  have:=fH hn;have e:(4:Int) ^ 13=67108864:=by decide
  omega
 have key:∀j,j<=l.length->wK (l.take j)=G5 (l.take j):=by
  intro j
  induction j with
  |zero=>intro _;rfl
  | succ j ih =>intro k;obtain⟨x,hx,h,hm⟩:=ah (l:=l) (j:=j) (by omega);have ih:=ih (by omega);have hb:=cD (l:=l.take (j+1)) λy hy=>hc y (Xp hy);have:=pw (l.take (j+1)).length (by simp;omega);rw[h]at hb this ⊢;rw[yK]at hb ⊢;show wK (l.take j++[x])=_;unfold wK at ih ⊢;rw[adA,ih];show IntKind.wrap .i64 (G5 (l.take j)*x)=_;rw[aq]
 have:=key l.length (ZV _);rwa [Xo]at this
end
end Hx
end
section
namespace Hx
open Go
def ba7(x:XN)(roots:List Int)(V:Nat->Int):List Int:=(x.frm.map λq=>V q.toNat)++(x.Yi.map λr=>roots[r.toNat]?.getD 0)
def ba8(m:jm)(roots act:List Int)(V:Nat->Int)(i:Nat)(x:XN):Int:=if 0<=act[i]?.getD 0 then act[i]?.getD 0 else x.out[(GX (ba5 m x) (ba7 x roots V)).toNat]?.getD 0
def Sol(m:jm)(roots act:List Int)(V:Nat->Int):Prop:=∀(i:Nat) (x:XN),m.Z7[i]?=some x->V i=ba8 m roots act V i x
noncomputable def S.V(m:jm)(roots act:List Int):Nat->Int:=Classical.epsilon (Sol m roots act)
noncomputable def ba_(m:jm)(roots act:List Int):List Int:=(List.range m.Z7.length).map (S.V m roots act)
theorem Js{Z1 Z2:List Int}(hl:Z1.length=Z2.length)(h:∀(i:Nat) c v,Z1[i]?=some c->Z2[i]?=some v->0<=v/\v<c):YZ Z1 Z2:=by
 induction Z1 generalizing Z2 with
 | nil=>cases Z2 with
  |nil=>trivial
  |cons v Z2=>simp at hl
 | cons c Z1 ih=>cases Z2 with
  |nil=>simp at hl
  |cons v Z2=>exact⟨h 0 c v rfl rfl,ih (by simpa using hl) λi c' v' h1 h2=>h (i+1) c' v' (by simpa using h1) (by simpa using h2)⟩
theorem YZ.get{Z1 Z2:List Int}(h:YZ Z1 Z2){i:Nat}{c:Int}(hc:Z1[i]?=some c):∃v,Z2[i]?=some v/\0<=v/\v<c:=ZL.get h hc
end Hx
end
section
namespace Hx
open Go
noncomputable section
def hz(cs vs:List Int)(j:Nat):Int:=((cs.zip vs).take j).foldl (λa p=>a*p.1+p.2) 0
section
variable {d k:Nat}{m:jm}{roots act:List Int}{V:Nat->Int}{a b w u:AV}{p1 p2 p3 p4 iu:Nat}{hid:Int}{r:Nat->Nat}
end
theorem jR(ag:Bool)(n l sz off:Nat)(row:List AV)(g:G):t7 ag n (.ZR l sz [row] 0 off) g=RK (cK ag n row off):=rfl
section
variable {d:Nat}{m:jm}{a b:AV}
end
theorem jE{C:ZO}{d:Nat}{r:List SR}{t:T}{g:G}{K:AV->G->Prop}{id:Nat}(hg:g.h.get id=.ZP true)(h:At r t (g.put id (.ZP false)) λvs=>K (lz vs) (g.put id (.ZP false))):yZ C d r t [.mark id] g K:=by
 unfold yZ;have:gM (I C) d [.mark id] g=some (g.put id (.ZP false)):=by simp only[gM,G.get_eq,hg]
 rw[this];exact h
def Fam(g:G)(b K:Nat)(V:Nat->AV)(W:Nat->List (List AV)):Prop :=(∀k,k<K->Own g b (V k) 1 (W k))/\∀k l,k<K->l<K->k≠l->∀id,Zi (V k)=some id->Zi (V l)≠some id
def Y5(c:Nat->Int)(V:Nat->AV)(i:Nat):List AV:=[Z_ (c i),V (3*i+1),V (3*i+2),V (3*i+3)]
def TY(n:Nat)(c:Nat->Int)(V:Nat->AV):List (List AV):=(List.range n).map (Y5 c V)
structure ME where
 (n p4 q i5 p7 i9 b:Nat)
 (nv w5 w9 e7:AV)
 (gr:Int)
 (Se:List AV)
 (Xy:List (List AV))
 (us:List UInt8)
structure ME.Ok (e:ME):Prop where
 ord:1<e.q/\e.q<e.p4/\e.p4<e.i5/\e.i5<e.p7/\e.p7<e.i9/\e.i9<e.b
 n1:1<=e.n/\e.n<=4
 g1:2<=e.gr/\e.gr<=12
 vn:Zi e.nv=some e.q
 v5:Zi e.w5=some e.i5
 v9:Zi e.w9=some e.i9
 l7:ZT ZX 0 .nil e.us e.e7
structure MI (e:ME) (g:G) (V:Nat->AV) (W:Nat->List (List AV)) (c:Nat->Int) (ow:List Bool) (cap:Nat):Prop where
 h0:g.h.get 0=Z4 5 [e.Se]
 h1:g.h.get 1=Z4 3 [[Z_ 0,.Z6,.Z6]]
 hN:Own g 0 e.nv 4 (TY e.n c V)
 h4:g.h.get e.p4=Z4 3 [[Z_ e.gr,V 0,e.nv]]
 h5:Own g 0 e.w5 4 e.Xy
 h7:∃cc:Int,0<=cc/\cc<=(cap:Int)/\g.h.get e.p7=Z4 2 [[e.e7,Z_ cc]]
 h9:Own g 0 e.w9 1 (ow.map λx=>[.bool x])
 fam:Fam g e.b (3*e.n+1) V W
 nx:e.b<=g.nx
section
variable {e:ME}{g g':G}{V:Nat->AV}{W:Nat->List (List AV)}{c:Nat->Int}{ow:List Bool}{cap:Nat}
theorem iv{v:AV}{i j:Nat}(h:Zi v=some i)(h':Zi v=some j):i=j:=by rw[h]at h';injection h'
structure MP (e:ME) (g:G) (V V':Nat->AV) (W:Nat->List (List AV)) (c:Nat->Int) (ow:List Bool) (cap:Nat):Prop where
 h0:g.h.get 0=Z4 5 [e.Se]
 h1:g.h.get 1=Z4 3 [[Z_ 0,.Z6,.Z6]]
 hN:Own g 0 e.nv 4 (TY e.n c V)
 h4:g.h.get e.p4=Z4 3 [[Z_ e.gr,V 0,e.nv]]
 h5:Own g 0 e.w5 4 e.Xy
 h7:∃cc:Int,0<=cc/\cc<=(cap:Int)/\g.h.get e.p7=Z4 2 [[e.e7,Z_ cc]]
 h9:Own g 0 e.w9 1 (ow.map λx=>[.bool x])
 fam:Fam g e.b (3*e.n+1) V' W
 nx:e.b<=g.nx
end
structure MD (e:ME) (W:Nat->List (List AV)) (R:List (List Int)) (F N O:Nat->List Int):Prop where
 r:ZL (Rp.rp ZX 0 .nil) R (W 0)
 f:∀i,i<e.n->W (3*i+1)=(F i).map ci
 n:∀i,i<e.n->W (3*i+2)=(N i).map ci
 o:∀i,i<e.n->W (3*i+3)=(O i).map ci
theorem VQ{g:G}{b:Nat}(hb:b<=g.nx)(cs:List AV):Own (g.new (Z4 1 [cs])) b (.ZG g.nx 0 0 1 none) 1 [cs] :=.inr ⟨g.nx,0,false,hb,by simp,rfl,by simp[aY]⟩
theorem BM{α β γ:Type}{R:β->γ->Prop}{f:α->β}{h:α->γ}:∀{l:List α},(∀x∈l,R (f x) (h x))->ZL R (l.map f) (l.map h)
 |[],_=>trivial
 |a::l,hl=>⟨hl a (by simp),BM λx hx=>hl x (by simp[hx])⟩
theorem ZT.wide{α:Type} [Rp α]{P:Nat->Prop}{k k':Nat}{h h':H}{l:List α}{v:AV}(r:ZT ZX k h l v)(hk:k<=k'):ZT P k' h' l v:=by obtain⟨w,hw,q⟩:=Rp.tree (P:=P) (k':=k') (h':=h') (show Rp.rp ZX k h l [v] from ⟨v,rfl,r⟩) hk;injection hw with hw;subst hw;exact q
structure M0 (n p4 q i5 p7:Nat) (nv w5 cl:AV) (Se:List AV) (Xy:List (List AV)) (gr:Int) (g:G) (cf:Nat->Int):Prop where
 h0:g.h.get 0=Z4 5 [Se]
 h1:g.h.get 1=Z4 3 [[Z_ 0,.Z6,.Z6]]
 hN:Own g 2 nv 4 (TY n cf λ_=>.Z6)
 h4:g.h.get p4=Z4 3 [[Z_ gr,.Z6,nv]]
 h5:Own g 2 w5 4 Xy
 h7:g.h.get p7=Z4 2 [[cl,Z_ 0]]
 nx:p7<g.nx
section
variable {n p4 q i5 p7:Nat}{nv w5 cl:AV}{Se:List AV}{Xy:List (List AV)}{gr:Int}{g g':G}{cf cf':Nat->Int}
end
def Vc:AV->Option Nat
 |.ZG id _ _ _ _=>some id
 |.ZD id _ _ _=>some id
 |_=>none
def Bx(g:G)(b:Nat)(v:AV)(row:List AV):Prop:=∃id,b<=id/\id<g.nx/\v=ZZ id/\g.h.get id=Z4 row.length [row]
inductive En where
 |sl (sz:Nat) (rows:List (List AV))
 |bx (row:List AV)
def En.ok(g:G)(b:Nat)(v:AV):En->Prop
 |.sl sz rows=>Own g b v sz rows
 |.bx row=>Bx g b v row
theorem cU{g:G}{b:Nat}{v:AV}{sz:Nat}{rows:List (List AV)}(h:Own g b v sz rows):Vc v=Zi v:=by rcases h with⟨rfl,-⟩|⟨id,ep,lo,h1,h2,rfl,k⟩<;>rfl
theorem En.lt{g:G}{b:Nat}{v:AV}{e:En}(h:e.ok g b v){i:Nat}(hi:Vc v=some i):b<=i/\i<g.nx:=by
 cases e with
 | sl sz rows =>have h:Own g b v sz rows:=h;rw[cU h]at hi;exact h.lt hi
 | bx row =>obtain⟨id,h1,h2,rfl,k⟩:=h;injection hi with hi;subst hi;exact⟨h1,h2⟩
theorem En.fr{g g':G}{b:Nat}{v:AV}{e:En}(h:e.ok g b v)(hn:g.nx<=g'.nx)(hf:∀i,Vc v=some i->g'.h.get i=g.h.get i):e.ok g' b v:=by
 cases e with
 | sl sz rows =>have h:Own g b v sz rows:=h;exact h.fr hn λi hi=>hf i (by rw[cU h];exact hi)
 | bx row =>obtain⟨id,h1,h2,rfl,k⟩:=h;exact⟨id,h1,by omega,rfl,by rw[hf id rfl,k]⟩
section
variable {κ:Type}
structure Hp (g:G) (b:Nat) (L:κ->Prop) (V:κ->AV) (E:κ->En):Prop where
 ok:∀k,L k->(E k).ok g b (V k)
 sep:∀k l,L k->L l->k≠l->∀id,Vc (V k)=some id->Vc (V l)≠some id
 nx:b<=g.nx
variable {g g':G}{b:Nat}{L L':κ->Prop}{V:κ->AV}{E:κ->En}{k:κ}
theorem Hp.sub(h:Hp g b L V E)(hl:∀k,L' k->L k):Hp g b L' V E:=⟨λk hk=>h.ok k (hl k hk),λk l hk hl2=>h.sep k l (hl k hk) (hl l hl2),h.nx⟩
theorem Hp.step(h:Hp g b L V E)(hn:g.nx<=g'.nx)(hf:∀i,b<=i->i<g.nx->g'.h.get i=g.h.get i):Hp g' b L V E :=⟨λk hk=>En.fr (h.ok k hk) hn λi hi=>hf i (En.lt (h.ok k hk) hi).1 (En.lt (h.ok k hk) hi).2,h.sep,Y1 h.nx hn⟩
theorem Hp.same(h:Hp g b L V E)(hf:g'.h=g.h)(hn:g.nx<=g'.nx):Hp g' b L V E:=h.step hn λi _ _=>by rw[hf]
theorem Hp.own(h:Hp g b L V E)(hk:L k){sz:Nat}{rows:List (List AV)}(he:E k=.sl sz rows):Own g b (V k) sz rows:=by have:=h.ok k hk;rw[he]at this;exact this
theorem Hp.box(h:Hp g b L V E)(hk:L k){row:List AV}(he:E k=.bx row):Bx g b (V k) row:=by have:=h.ok k hk;rw[he]at this;exact this
end
section
variable {κ:Type} [DecidableEq κ]
def ups{α:Type}(f:κ->α)(k:κ)(x:α):κ->α:=λj=>if j=k then x else f j
theorem au{α:Type}(f:κ->α)(k:κ)(x:α):ups f k x k=x:=ZN rfl
theorem ac{α:Type}{f:κ->α}{k j:κ}{x:α}(h:j≠k:=by simp<;>omega):ups f k x j=f j:=ZF h
theorem Uu{α:Type}{f:κ->α}{k:κ}{x:α}(h:f k=x):ups f k x=f:=by
 funext j;by_cases e:j=k
 ·subst e;rw[au,h]
 ·exact ac e
variable {g g':G}{b:Nat}{L L':κ->Prop}{V:κ->AV}{E:κ->En}{k:κ}
theorem Hp.set(h:Hp g b L V E){v':AV}{e':En}(hk:L k)(ho:e'.ok g' b v')(hn:g.nx<=g'.nx)(hf:∀i,b<=i->i<g.nx->Vc (V k)≠some i->g'.h.get i=g.h.get i)
  (hv:Vc v'=Vc (V k)\/∃i,Vc v'=some i/\g.nx<=i):Hp g' b L (ups V k v') (ups E k e'):=by
 refine⟨λj hj=>?_,λj l hj hl hne id e1 d=>?_,Y1 h.nx hn⟩
 ·by_cases e:j=k
  ·subst e;rw[au,au];exact ho
  ·rw[ac e,ac e];exact En.fr (h.ok j hj) hn λi hi=>hf i (En.lt (h.ok j hj) hi).1 (En.lt (h.ok j hj) hi).2 λd=>h.sep j k hj hk e i hi d
 ·have key:∀j,L j->j≠k->∀id,Vc (V j)=some id->Vc v'≠some id:=λj hj hne id e1 d=>by
   rcases hv with hv|⟨i,hv,hi⟩
   ·exact h.sep j k hj hk hne id e1 (hv ▸ d)
   ·rw[hv]at d;injection d with d;have:=(En.lt (h.ok j hj) e1).2;omega
  by_cases a:j=k
  ·subst a;rw[au]at e1;rw[ac (Vw hne)]at d;exact key l hl (Vw hne) id d e1
  ·rw[ac a]at e1
   by_cases c:l=k
   ·subst c;rw[au]at d;exact key j hj a id e1 d
   ·rw[ac c]at d;exact h.sep j l hj hl hne id e1 d
theorem Hp.add(h:Hp g b L V E){v':AV}{e':En}(hk:¬L k)(ho:e'.ok g' b v')(hn:g.nx<=g'.nx)(hf:∀i,b<=i->i<g.nx->g'.h.get i=g.h.get i)
  (hv:∀i,Vc v'=some i->g.nx<=i) (hl:∀j,L' j->L j\/j=k):Hp g' b L' (ups V k v') (ups E k e'):=by
 refine⟨λj a=>?_,λj l a hl2 hne id e1 e2=>?_,Y1 h.nx hn⟩
 ·rcases hl j a with a|rfl
  ·have e:j≠k:=λe=>hk (e ▸ a);rw[ac e,ac e];exact En.fr (h.ok j a) hn λi hi=>hf i (En.lt (h.ok j a) hi).1 (En.lt (h.ok j a) hi).2
  ·rw[au,au];exact ho
 ·have key:∀j,L j->∀id,Vc (V j)=some id->Vc v'≠some id:=λj a id e1 e2=>by have:=hv id e2;have:=(En.lt (h.ok j a) e1).2;omega
  rcases hl j a with a|rfl
  ·have e:j≠k:=λe=>hk (e ▸ a);rw[ac e]at e1;rcases hl l hl2 with hl2|rfl
   ·have e':l≠k:=λe=>hk (e ▸ hl2);rw[ac e']at e2;exact h.sep j l a hl2 hne id e1 e2
   ·rw[au]at e2;exact key j a id e1 e2
  ·rw[au]at e1;rcases hl l hl2 with hl2|rfl
   ·have e':l≠j:=λe=>hne e.symm;rw[ac e']at e2;exact key l hl2 id e2 e1
   ·exact hne rfl
theorem Hp.app(h:Hp g b L V E)(hk:L k){sz bytes:Nat}{rows new:List (List AV)}(he:E k=.sl sz rows){x:AV}{K:AV->G->Prop}{D:ZU->Prop}(hx:ak g.h sz x=some new)
  (hr:(rows.length+new.length)*bytes<=aQ)
  (kk:∀v' g',Hp g' b L (ups V k v') (ups E k (.sl sz (rows++new)))->g.nx<=g'.nx->(∀i,i<b->g'.h.get i=g.h.get i)->(∀i,i<g.nx->Vc (V k)≠some i->g'.h.get i=g.h.get i)->(∀i∈g'.lg,i∈g.lg\/b<=i)->v'.cells=[v']->v'.isTup=false->K v' g') :
  (eS sz bytes (V k) x g).sat K g D:=by
 have ho:=h.own hk he;refine aP ho hx h.nx hr λv' g' hv' hn hf hvid hlg=>?_;refine kk v' g' (h.set hk (e':=.sl sz (rows++new)) hv' hn (λi _ hi hne=>hf i hi (by rw[<-cU ho];exact hne)) ?_) hn (λi hi=>hf i (Vd hi h.nx) λe=>by have:=(ho.lt e).1;omega)
  (λi hi hne=>hf i hi (by rw[<-cU ho];exact hne)) hlg hv'.cell.1 hv'.cell.2
 rw[cU hv',cU ho];exact hvid
theorem Hp.put(h:Hp g b L V E)(hk:L k){sz n i off:Nat}{rows:List (List AV)}{row row':List AV}(he:E k=.sl sz rows){x:AV}{K:AV->G->Prop}{D:ZU->Prop}(hr:rows[i]?=some row)
  (hl:x.cells.length=n) (ht:x.isTup=false) (hp:dh row off x.cells=some row')
  (kk:∀g',Hp g' b L V (ups E k (.sl sz (rows.set i row')))->g'.nx=g.nx->(∀i,i<b->g'.h.get i=g.h.get i)->(∀i,Vc (V k)≠some i->g'.h.get i=g.h.get i)->K .undef g'):(qA n (mA sz (V k) i off) x g).sat K g D:=by
 have ho:=h.own hk he;refine bZ ho hr hl ht hp λg' hv' hn hf=>?_;have:=h.set hk (e':=.sl sz (rows.set i row')) hv' (by omega) (λi _ hi hne=>hf i (by rw[<-cU ho];exact hne)) (.inl rfl);rw[Uu (f:=V) rfl]at this;exact kk g' this hn (λi hi=>hf i λe=>by have:=(ho.lt e).1;omega) λi hne=>hf i (by rw[<-cU ho];exact hne)
theorem Hp.putb(h:Hp g b L V E)(hk:L k){row row':List AV}(he:E k=.bx row){id:Nat}(hv:V k=ZZ id)(hl:row'.length=row.length):Hp (g.put id (Z4 row.length [row'])) b L V (ups E k (.bx row')):=by
 obtain⟨id',h1,h2,a,h4⟩:=h.box hk he;rw[hv]at a;injection a with a;subst a;have:=h.set (g':=g.put id (Z4 row.length [row'])) hk (e':=.bx row') (v':=ZZ id) ⟨id,h1,by simpa using h2,rfl,by rw[hl];simp[aY]⟩ (by simp) (λi _ hi hne=>by rw[G.put_h,aF (λe=>hne (by rw[hv,e];rfl))]) (.inl (by rw[hv]))
 rw[Uu (f:=V) hv]at this;exact this
end
theorem eK{C:ZO}{d:Nat}{rd:Option Nat}{l:List SI}{b:SC}{Q:QT}{t:T}{df:List ZU}{g:G}{P:PT}(h1:RZ C d rd l P t df g)(h2:∀t df g,P t df g->wp C d rd b Q t df g):wp C d rd (agc (.ops l) b) Q t df g:=by
 rw[eO];have:wp C d rd (.ops l) (λe t df g=>e=.norm/\P t df g) t df g:=by rw[GQ];simpa using h1
 refine ch _ this ?_;rintro e t df g ⟨rfl,h⟩;exact h2 t df g h
structure Bnd (K:Nat) (m:jm):Prop where
 r:m.roots.length<=K
 rr:∀x∈m.roots,x.length<=K
 n:m.Z7.length<=K
 f:∀x∈m.Z7,x.frm.length<=K/\x.Yi.length<=K/\x.out.length<=K
abbrev Ky:Type:=Nat×Nat
structure BD (K R n:Nat) (V:Ky->AV) (E:Ky->En) (Rt:Nat->List Int) (c:Nat->Int) (F:Nat->Nat->List Int):Prop where
 r:∀i,i<R->E (0,i)=.sl 1 ((Rt i).map ci)/\(Rt i).length<=K
 f:∀q i,1<=q->q<=3->i<n->E (q,i)=.sl 1 ((F q i).map ci)/\(F q i).length<=K
 rs:E (4,0)=.sl 1 ((List.range R).map λi=>[V (0,i)])
 ns:E (4,1)=.sl 4 ((List.range n).map λi=>[Z_ (c i),V (1,i),V (2,i),V (3,i)])
structure TI (g:G) (q:Nat) (m:jm) (k1 k2 act u1 u2 u3:AV) (A B W:List Int):Prop where
 a1:g.h.get 1=Z4 1 [[act]]
 a2:g.h.get 2=Z4 3 [[.Z6,.Z6,.Z6]]
 a4:g.h.get 4=Z4 4 [[Z_ m.Z8,k1,k2,Z_ (ba6 m)]]
 bq:g.h.get q=Z4 3 [[u1,u2,u3]]
 o1:Own g 5 u1 1 (A.map ci)
 o2:Own g 5 u2 1 (B.map ci)
 o3:Own g 5 u3 1 (W.map ci)
 q5:5<=q/\q<g.nx
 n1:∀i,Zi u1=some i->i≠q/\Zi u2≠some i/\Zi u3≠some i
 n2:∀i,Zi u2=some i->i≠q/\Zi u3≠some i
 n3:∀i,Zi u3=some i->i≠q
section
variable {g g':G}{q:Nat}{m:jm}{k1 k2 act u1 u2 u3:AV}{A B W:List Int}
end
theorem gv{C:ZO}{d:Nat}{rd:Option Nat}{a b:SC}{Q:QT}{t:T}{df:List ZU}{g:G}{P:PT}(h1:wp C d rd a (λe t df g=>e=.norm/\P t df g) t df g)(h2:∀t df g,P t df g->wp C d rd b Q t df g):wp C d rd (.seq a b) Q t df g:=by rw[eO];refine ch _ h1 ?_;rintro e t df g ⟨rfl,h⟩;exact h2 t df g h
abbrev QI:=Int×Int
theorem vp{x:QI}{P:Nat->Prop}{k:Nat}{h:H}{v:AV}:Zl x P k h v↔v=.agg [Z_ x.1,Z_ x.2]:=by
 constructor
 ·rintro⟨cs,rfl,hc⟩;obtain⟨a,b,rfl,h1,h2⟩:=u9.1 hc;rw[ay.1 h1,ay.1 h2];rfl
 ·rintro rfl;exact⟨_,rfl,u9.2 ⟨[Z_ x.1],[Z_ x.2],rfl,ay.2 rfl,ay.2 rfl⟩⟩
def Cb(n d:Nat):QI:=(((n / Nat.gcd n d:Nat):Int),((d / Nat.gcd n d:Nat):Int))
theorem Em(a:ZU)(K:AV->G->Prop)(g:G)(D:ZU->Prop):(OR.ZP a).sat K g D=D a:=rfl
theorem Eb(W:PT)(t:T)(df:List ZU)(g:G)(a:ZU):kD W none t df g a=W t (a::df) g:=rfl
theorem QZ{C:ZO}{d n:Nat}{t:T}{g:G}{f:Nat}{first cap:List AV}(h:ZY t n=.ZH f first cap):SO.run C d none t g (.raw (.defer ⟨.value (.tmp n),#[],#[]⟩))=.ZP (.call (.ZH f [] cap) (first++[])):=by
 have:(gp AV.undef n).run t=.ZH f first cap:=by rw[WA];exact h
 simp only[SO.run,bP,Uy,aW,cC,this]
theorem u_{C:ZO}{d n:Nat}{t:T}{g:G}{f:Nat}{first cap:List AV}(h:ZY t n=.ZH f first cap):(bP C (.defer ⟨.value (.tmp n),#[],#[]⟩)).run (I C) d none t g=.ZP (.call (.ZH f [] cap) (first++[])):=QZ h
theorem yA{C:ZO}{d:Nat}{r:List SR}{t:T}{g g':G}{K:AV->G->Prop}{f:Nat}{cap:List AV}{v:AV}(hc:(I C).call d f cap g=.ok v g')(h:At r t g' λvs=>K (lz vs) g'):yZ C d r t [.call (.ZH f [] cap) []] g K:=by
 unfold yZ;have:gM (I C) d [.call (.ZH f [] cap) []] g=some g':=by simp only[gM,DI,hc]
 rw[this];exact h
theorem rm{C:ZO}{d:Nat}{rd:Option Nat}{t:T}{g:G}:SO.run C d rd t g (.raw (.call ⟨.builtin .recover,#[],#[]⟩))=.val .tO:=rfl
theorem MG[Z0](d:Nat)(a b:AV)(g:G):dQ C0 (I C0) d (.ZH 100 [] [a,b]) [] g=XV ((I C0).call d 100 [a,b] g):=by kernel_rfl
theorem Ma{h:H}{id:Nat}{n:Int}(d k:Nat)(hg:h.get id=Z4 1 [[Z_ n]]):Hx.ZS h d (k+3) (ZZ id)=some (.ZR (Nat.max d 0) 1 [[Z_ n]] 0 0):=by
 simp only[Hx.ZS,hg,show Nat.beq 0 0=true from rfl,aD]
 rfl
theorem Q4{h:H}{d f:Nat}{a b a' b':AV}(ha:Hx.ZS h d 23 a=some a')(hb:Hx.ZS h d 23 b=some b'):Hx.ZS h d aw (.ZH f [] [a,b])=some (.ZH f [] [a',b']):=by show (match aD (Hx.ZS h d 23) [],aD (Hx.ZS h d 23) [a,b] with|some as',some cs=>some (AV.ZH f as' cs)|_,_=>none)=_;simp only[aD,ha,hb]
theorem Yw:uz true .bool (.bool false) (.bool false)=.val (.bool false):=rfl
def qL(Z2 e:List Int)(i:Nat):Bool:=decide (e[i]?.getD 0<0) || decide (e[i]?.getD 0=Z2[i]?.getD 0)
def B4(Z2 e:List Int):Bool:=(List.range e.length).all (qL Z2 e)
theorem ZT.far8{α:Type} [Rp α]{P:Nat->Prop}{k:Nat}{h h':H}{l:List α}{v:AV}(r:ZT P k h l v)(hf:∀i,P i->h'.get i=h.get i):ZT P k h' l v:=by obtain⟨w,e,q⟩:=Rp.mono (P':=P) (k':=k) (h':=h') (show Rp.rp P k h l [v] from ⟨v,rfl,r⟩) (λi hi=>⟨hi,hf i hi⟩) (ZV _);injection e with e;subst e;exact q
def bb0(s a:List Int):List Int:=(List.range s.length).map λi=>if a[i]?.getD 0<0 then -1 else s[i]?.getD 0
theorem o7{α:Type}{C:α->Prop}{S:α->VS}{j:Nat}(h:∀a,Qx (S a) j):Qx (λP k h v=>∃a,C a/\S a P k h v) j :=
 ⟨λ{P k hh v n} d r hn=>by
  obtain⟨a,c,r⟩:=r;obtain⟨v',e,r'⟩:=(h a).ZS d r hn;exact⟨v',e,a,c,r'⟩,λ{k hh v n} r hn=>by
  obtain⟨a,c,r⟩:=r;exact (h a).tag r hn⟩
theorem yH:∀{A L:List Nat},A.Nodup->(∀v∈A,v∈L)->A.length<=L.length
 |[],_,_,_=>Jq _
 | a::A,L,hA,h=>by rw[ae6]at hA;have ha:=h a (by simp);have:=yH (A:=A) (L:=L.erase a) hA.2 λv hv=>(List.mem_erase_of_ne (λe=>hA.1 (by rw[<-e];exact hv))).2 (h v (by simp[hv]));rw[List.length_erase_of_mem ha]at this;have:=List.length_pos_of_mem ha;simp only[V8];omega
def Ord(p:List Nat)(L:List Nat):Prop:=(∀v,v<p.length->v∈L)/\∀(i v:Nat),L[i]?=some v->v<p.length/\∀q,(XQ p v).testBit q=true->q∈L.take i
def PB(p:List Nat)(L:List Nat):Prop:=L.Nodup/\∀(i v:Nat),L[i]?=some v->v<p.length/\∀q,(XQ p v).testBit q=true->q∈L.take i
theorem Tt{p L:List Nat}(h:PB p L):L.length<=p.length:=by
 have:=yH (L:=List.range p.length) h.1 λv hv=>by obtain⟨i,hi,rfl⟩:=QX.1 hv;exact Q9.2 (h.2 i _ (Zq hi)).1
 simpa using this
theorem QD{p L:List Nat}(h:PB p L){v:Nat}(hv:v ∉ L)(hl:v<p.length)(hp:∀q,(XQ p v).testBit q=true->q∈L):PB p (L++[v]):=by
 refine⟨?_,λi u hu=>?_⟩
 ·rw[List.nodup_append];exact⟨h.1,by simp,λa ha b hb=>by simp at hb;subst hb;exact λe=>hv (e ▸ ha)⟩
 ·rcases TU i L.length with hi|hi
  ·rw[QJ hi]at hu;obtain⟨h1,h2⟩:=h.2 i u hu;exact⟨h1,λq hq=>by rw[List.take_append_of_le_length (by omega)];exact h2 q hq⟩
  ·rw[Sl hi]at hu;have:i=L.length:=by have:=(tI.1 hu).1;simp at this;omega
   subst this;simp at hu;subst hu;exact⟨hl,λq hq=>by rw[List.take_left];exact hp q hq⟩
theorem QC{p L:List Nat}(h:PB p L)(hl:p.length<=L.length):Ord p L:=by
 refine⟨λv hv=>?_,h.2⟩
 by_cases hm:v∈L
 ·exact hm
 ·have:=yH (A:=v::L) (L:=List.range p.length) (ae6.2 ⟨hm,h.1⟩) λu hu=>by
   rcases Y0.1 hu with rfl|hu
   ·exact Q9.2 hv
   ·obtain⟨i,hi,rfl⟩:=QX.1 hu;exact Q9.2 (h.2 i _ (Zq hi)).1
  simp at this;omega
theorem bE1{p L:List Nat}(h:PB p L)(hl:L.length<p.length):∃v,v<p.length/\v ∉ L:=by
 by_cases hh:∃v,v<p.length/\v ∉ L
 ·exact hh
 ·exfalso;have:=yH (A:=List.range p.length) (L:=L) aeV λv hv=>by
   by_cases h':v∈L
   ·exact h'
   ·exact absurd ⟨v,Q9.1 hv,h'⟩ hh
  simp at this;omega
def Xn(D:Nat)(L:List Nat):Prop:=D<18446744073709551616/\∀v,D.testBit v=true↔v∈L
theorem bE0{D:Nat}{L:List Nat}(h:Xn D L){v:Nat}(hv:v<64):Xn (D ||| B7 v) (L++[v]):=by
 refine⟨O2 h.1 (wG v),λu=>?_⟩;rw[x_,EG hv,T6,h.2,RY,Tn,Wa];constructor
 ·rintro (h|h)
  ·exact .inl h
  ·exact .inr h.symm
 ·rintro (h|h)
  ·exact .inl h
  ·exact .inr h.symm
theorem bD_[Z0]{d k k2:Nat}{g:G}{P P2:Nat->Prop}{v w:AV}{Z2 e:List Int}(hd:0<d)(hv:ZT P k g.h Z2 v)(hw:ZT P2 k2 g.h e w)(hl:Z2.length=e.length) :
  ae C0 d 94 [v,w] g=.val (.bool (B4 Z2 e)):=by
 obtain⟨v',e1,n⟩:=aZ hv d;obtain⟨w',o,p⟩:=aZ hw d;rw[Zn];refine dA Cq (xs:=[v',w']) (by simp only[aD,e1,o]) (by simp[nT]) hd ?_;simp only[sz,simprocAttr,nT,pX];refine bh e.length hw.1 (λj t df g=>df=[]/\St t [(0,v'),(1,w')]/\(List.range j).all (qL Z2 e)=true) ⟨rfl,by simp[St,sx],rfl⟩ (by simp[sx]) (by decide) (by rintro j t df g v s (rfl|rfl|rfl)<;>simp[St,sx]) ?_ ?_ ?_
 ·rintro j t df g f ⟨rfl,⟨h0,h1,-⟩,c⟩ h5;have n1:gz .slice v' g=.val (Z_ (e.length:Int)):=by rw[(n .nil).len,hl]
  simp only[sz,simprocAttr,h0,h1,h5,n1,St,c]
 ·rintro j t df g f ⟨rfl,⟨h0,h1,-⟩,c⟩ h5;obtain⟨x,hx,-,-⟩:=ah f;obtain⟨y,i,-,-⟩:=ah (l:=Z2) (j:=j) (by omega);have q1:j<(e.map ci).length:=by simpa using f
  have q2:j<(Z2.map ci).length:=by rw[Ju];omega
  have q3:(e.map ci)[j]?=some (ci x):=by rw[Zy,hx];rfl
  have m:(Z2.map ci)[j]?=some (ci y):=by rw[Zy,i];rfl
  have b:qL Z2 e j=(decide (x<0) || decide (x=y)):=by simp[qL,hx,i]
  have ra:∀h',ak h' 1 v'=some (Z2.map ci):=λh'=>(n h').ints;have rb:∀h',ak h' 1 w'=some (e.map ci):=λh'=>(p h').ints
  by_cases a:0<=x
  ·by_cases hxy:x=y
   ·simp only[sz,simprocAttr,h1,h5,rb,q1,q3,ci,hxy,St];have a:0<=y:=by omega
    simp only[sz,simprocAttr,a,h0,h1,h5,ra,rb,q1,q2,q3,m,ci,hxy];rw[eV,c,b];simp[hxy]
   ·simp only[sz,simprocAttr,h0,h1,h5,ra,rb,q1,q2,q3,m,ci,a,hxy];have:qL Z2 e j=false:=by rw[b];simp;omega
    rw[B4,jf f this]
  ·simp only[sz,simprocAttr,h0,h1,h5,rb,q1,q3,ci,a,St];rw[eV,c,b];simp;omega
 ·rintro t df g ⟨rfl,⟨h0,h1,-⟩,c⟩;simp only[sz,simprocAttr,pY];rw[B4,c]
theorem WP{g g':G}(hn:g.nx<=g'.nx)(h:∀i,i<g.nx->g'.h.get i=g.h.get i):Fr g g':=⟨hn,h⟩
theorem rt{C:ZO}{d:Nat}{rd:Option Nat}{body:SC}{c ti k B b:Nat}{Q:QT}{m:Nat}{lim:Int}(hlim:lim=(m:Int))(hm:m<2^63)(J:Nat->PT){t:T}{df:List ZU}{g:G}
  (h0:J 0 t df g) (hi:ZY t ti=Z_ 0) (hc:c≠ti/\b≠B)
  (hJ:∀j t df g v s,s=c\/s=ti\/s=k->J j t df g->J j (f_ t s v) df g)
  (step:∀j t df g,j<m->J j t df g->ZY t ti=Z_ (j:Int)->wp C d rd body (kR (λt df g=>J (j+1) t df g/\ZY t ti=Z_ (j:Int)) b Q) t df g)
  (fin:∀t df g,J m t df g->Q (.exit B) t df g) :
  Uk (wp C d rd (agc (.ops [o c (.bin .lss (.t ti) (.k (Z_ lim)))]) (agc (.cond (.t c) .skip (.exit B)) (agc (.blk b body) (.ops [o k (.bin .add (.t ti) (.k (Z_ 1))),o ti (.mv (.t k))]))))) Q t df g:=by
 subst hlim;obtain⟨c1,f⟩:=hc;refine gB (λn t df g=>∃j:Nat,n=m - j/\j<=m/\J j t df g/\ZY t ti=Z_ (j:Int)) m ⟨0,by omega,by omega,h0,hi⟩ ?_;rintro n t df g ⟨j,rfl,i,a,h1⟩;simp only[sz,simprocAttr,h1];refine⟨λhq=>?_,λhq=>?_⟩
 ·have hlt:j<m:=by simpa using hq
  simp only[sx];refine ch _ (step j _ df g hlt (hJ _ _ _ _ _ _ (.inl rfl) a) (by simp only[gn];rw[ZF (Vw c1),h1])) λe t df g h=>?_;have key:J (j+1) t df g/\ZY t ti=Z_ (j:Int)->wp C d rd (.ops [o k (.bin .add (.t ti) (.k (Z_ 1))),o ti (.mv (.t k))])
    (kL (λn t df g=>∃j:Nat,n=m - j/\j<=m/\J j t df g/\ZY t ti=Z_ (j:Int)) (m - j) Q) t df g:=by
   rintro⟨a1,a2⟩;simp only[sz,simprocAttr,a2];refine⟨_,?_,j+1,rfl,by omega,hJ _ _ _ _ _ _ (.inr (.inl rfl)) (hJ _ _ _ _ _ _ (.inr (.inr rfl)) a1),?_⟩
   ·omega
   ·rw[aq];rfl
  cases e with
  |norm=>exact key h
  |ret=>exact h
  | exit x =>
   rw[q_]at h;rw[mN]
   split at h
   ·rename_i e;rw[ZN e];exact key h
   ·rename_i e;rw[ZF e];exact h
 ·have:j=m:=by simp at hq;omega
  subst this;simp only[sx];exact fin _ _ _ (hJ _ _ _ _ _ _ (.inl rfl) a)
section
variable {m:jm}{c1 c2 l w c9 v35 ls v48:AV}{al:List Int}{hid kk:Int}{p:Nat}
end
theorem uQ(l:List Int)(j:Nat)(x:Int):(l.map ci).set j (ci x)=(l.set j x).map ci:=by rw[MO]
theorem Ej{x y:Nat}(hy:0<y):bN .rem (Z_ (x:Int)) (Z_ (y:Int))=.val (Z_ ((x % y:Nat):Int)):=by rw[gC .i64 (Ws x) (by omega),<-Int.natCast_emod]
def ul:Nat->Nat->List Int
 |0,_=>[]
 |f+1,n=>if n=0 then [] else ((n % 10000:Nat):Int)::ul f (n / 10000)
def GZ(n:Nat):List Int:=ul 12 n
theorem KC:∀{f n:Nat},n<10000 ^ f->ul (f+1) n=ul f n
 | 0,n,h=>by
  have:n=0:=by simp at h;exact h
  subst this;rfl
 | f+1,n,h=>by
  have ih:=KC (f:=f) (n:=n / 10000) (by rw[Rh]at h;exact (afa (by decide)).2 h);rw[ul]
  by_cases h0:n=0
  ·rw[ZN h0,ul,ZN h0]
  ·rw[ZF h0,ih]
   conv=>rhs;rw[ul,ZF h0]
theorem mE{n:Nat}(h0:n≠0)(h:n<10^48):GZ n=((n % 10000:Nat):Int)::GZ (n / 10000):=by have e:=KC (f:=12) (n:=n) h;unfold GZ;rw[<-e];rw[ul,ZF h0]
theorem oQ:GZ 0=[]:=rfl
theorem N_:∀(f n:Nat),(ul f n).length<=f
 |0,_=>ZV _
 | f+1,n=>by
  rw[ul]
  split
  ·simp
  ·have:=N_ f (n / 10000);simp;omega
theorem iG(n:Nat):(GZ n).length<=12:=N_ 12 n
theorem bD9{x:Nat}(h:x<2^63):RX .neg (Z_ (x:Int))=.val (Z_ (-(x:Int))):=by
 have e:RX .neg (Z_ (x:Int))=.val (Z_ (IntKind.wrap .i64 (-(x:Int)))):=by
  cases x with
  |zero=>rfl
  | succ n =>
   show RK (oJ (Op.unary .neg (.int .i64 (.ofNat (n+1)))))=_;unfold oJ Op.unary
   rfl
 rw[e,aq]
theorem Bu{x y:Nat}(hx:x<2^63)(hy:0<y):bN .quo (Z_ (x:Int)) (Z_ (y:Int))=.val (Z_ ((x / y:Nat):Int)):=by have h:x / y<=x:=Y2 _ _;rw[IZ .i64 (Ws x) (by omega),<-aeT];generalize x / y=z at h;rw[aq]
theorem jD[Z0]{d:Nat}{g:G}{n:Nat}(hd:0<d)(hn:n<2^63):∃r,ae C0 d 114 [Z_ (n:Int)] g=.val r/\IT 0 (GZ n) r:=by
 rw[Zn];refine aI vy (xs:=[Z_ (n:Int)]) (by simp only[aD,aU 0]) (by simp[gY]) (aE _) (by decide) hd ?_;simp only[sz,simprocAttr,gY];refine gB (λk t df g=>df=[]/\k<2^63/\St t [(0,Z_ (k:Int))]/\∃u L,ZY t 3=u/\Own g 0 u 1 ((L:List Int).map ci)/\L++GZ k=GZ n) n
  ⟨rfl,hn,by simp[sx,St],_,[],rfl,.inl ⟨by simp[sx],rfl⟩,rfl⟩ ?_
 rintro k t df g ⟨rfl,hk,⟨h0,-⟩,u,L,m,hu,c⟩;have a:L.length+(GZ k).length=(GZ n).length:=by rw[<-c,J6]
 have o:=iG n;simp only[sz,simprocAttr,kV,h0];refine ba (λhq=>?_) (λhq=>?_)
 ·have h:k≠0:=by simp at hq;omega
  have b:=mE h (by omega);have j:=Ej (x:=k) (y:=10000) (by decide);have l:=Bu (x:=k) (y:=10000) hk (by decide);have hm:=US k (show 0<10000 by decide);have f:=bD9 (x:=k % 10000) (by omega);have e:max ((k % 10000:Nat):Int) (-((k % 10000:Nat):Int))=((k % 10000:Nat):Int):=by omega
  have i:k / 10000<k:=ae8 (by omega) (by decide);generalize k % 10000=r at *;generalize k / 10000=q at *;have j:bN .rem (Z_ (k:Int)) (Z_ 10000)=.val (Z_ (r:Int)):=j;have l:bN .quo (Z_ (k:Int)) (Z_ 10000)=.val (Z_ (q:Int)):=l;simp only[sz,simprocAttr,h0,m,j,f,e];have p:L.length<(GZ n).length:=by rw[b]at a;simp at a;omega
  refine aP (new:=[ci (r:Int)]) (hu.step (Fr.new _ _)) (by simp[sx,sy,ci]) (by simp<;>omega) (by simp[aQ]<;>omega) λv2 g2 hv2 n2 f2 _ l2=>?_;simp only[sz,simprocAttr,h0,l,St];refine⟨q,i,by omega,?_,v2,L++[(r:Int)],?_,?_,?_⟩
  ·simp[sx]
  ·simp[sx]
  ·simpa using hv2
  ·rw[acq,adP,<-b,c]
 ·have h:k=0:=by simp at hq;omega
  subst h;rw[oQ,VM]at c;subst c;simp only[sz,simprocAttr,kW,m];exact⟨_,hu.ints (by omega)⟩
def GY:List Int->Int
 |[]=>0
 |x::l=>x+10000*GY l
theorem Ox{a b:Nat}(h:a<=b):(10000:Int) ^ a<=10000 ^ b:=by rw[show (10000:Int)=((10000:Nat):Int) from rfl,<-aer,<-aer];exact Int.ofNat_le.2 (Wl (by decide) h)
theorem MB{P:Nat->Prop}(h0:P 0)(hs:∀n,n≠0->P (n / 10000)->P n):∀n,P n:=by
 intro n
 induction n using Nat.strongRecOn with
 | ind n ih =>
  by_cases h:n=0
  ·subst h;exact h0
  ·exact hs n h (ih _ (ae8 (by omega) (by decide)))
theorem oR:∀n:Nat,n<10^48->GY (GZ n)=(n:Int):=by refine MB (λ_=>rfl) λn h0 ih hn=>?_;have hl:=Y2 n 10000;rw[mE h0 hn,GY,ih (by omega)];have:=QB n 10000;omega
theorem zP:∀n:Nat,n<10^48->∀x∈GZ n,0<=x/\x<10000:=by
 refine MB (λ_ x hx=>by simp[oQ]at hx) λn h0 ih hn x hx=>?_;have hl:=Y2 n 10000;have hm:=US n (show 0<10000 by decide);rw[mE h0 hn]at hx;rcases Y0.1 hx with rfl|hx
 ·omega
 ·exact ih (by omega) x hx
theorem py:∀(l r:List Int),GY (l++r)=GY l+10000 ^ l.length*GY r
 |[],r=>by simp[GY]
 | x::l,r=>by rw[ML,GY,GY,py l r,V8,Yh,aem,<-MQ,PM 10000 (10000 ^ l.length)];omega
theorem pz:∀{l:List Int},(∀x∈l,0<=x/\x<10000)->0<=GY l/\GY l<10000 ^ l.length
 |[],_=>by simp[GY]
 | x::l,h=>by have h1:=pz (l:=l) λy hy=>h y (by simp[hy]);have h2:=h x (by simp);rw[GY,V8,Yh];omega
theorem Ob:∀{l:List Int},(∀x∈l,0<=x/\x<10000)->l.getLast?≠some 0->l.length<=12->GZ (GY l).toNat=l
 |[],_,_,_=>rfl
 | x::l,h,hz,hl=>by
  have h2:=h x (by simp);have hr:∀y∈l,0<=y/\y<10000:=λy hy=>h y (by simp[hy]);have hb:=pz hr;have b:=pz h;have a:l.getLast?≠some 0:=by
   cases l with
   |nil=>simp
   |cons y l=>rw[ad8]at hz;exact hz
  have ih:=Ob hr a (by simp at hl;omega);have c:GY (x::l)≠0:=by
   intro e;rw[GY]at e;have e1:x=0:=by omega
   have k:GY l=0:=by omega
   rw[k]at ih;have:l=[]:=ih.symm;subst this;subst e1;exact hz rfl
  have hlt:(GY (x::l)).toNat<10^48:=by
   have:(10000:Int) ^ (x::l).length<=10000 ^ 12:=Ox hl;have:(10000:Int) ^ 12=10^48:=by decide
   omega
  rw[mE (by omega) hlt];have ed:GY (x::l)=x+10000*GY l:=rfl;have ed:GY (x::l)=x+10000*GY l:=rfl;have e:(GY (x::l)).toNat=x.toNat+10000*(GY l).toNat:=by rw[ed];omega
  rw[e];have e1:(x.toNat+10000*(GY l).toNat) % 10000=x.toNat:=by omega
  have k:(x.toNat+10000*(GY l).toNat) / 10000=(GY l).toNat:=by omega
  rw[e1,k,ih,Int.toNat_of_nonneg h2.1]
def sT(l:List Int):Nat->List Int
 |0=>[]
 |j+1=>if l[j]?.getD 0=0 then sT l j else l.take (j+1)
def qD(l:List Int):List Int:=sT l l.length
theorem Oc{n:Nat}(h0:n≠0)(h:n<10^48):0<(GZ n).length:=by rw[mE h0 h];simp
theorem bD8:∀n:Nat,n<10^48->(GZ n).getLast?≠some 0:=by
 refine MB (λ_=>by simp[oQ]) λn h0 ih hn=>?_;have hl:=Y2 n 10000;have ih:=ih (by omega);rw[mE h0 hn]
 by_cases hz:n / 10000=0
 ·rw[hz,oQ];simp only[List.getLast?_singleton];have:=QB n 10000;intro e;injection e with e;omega
 ·have h1:=Oc hz (by omega);obtain⟨y,l,e⟩:∃y l,GZ (n / 10000)=y::l:=by
   cases h:GZ (n / 10000) with
   |nil=>rw[h]at h1;simp at h1
   |cons y l=>exact⟨y,l,rfl⟩
  rw[e]at ih ⊢;rw[ad8];exact ih
theorem zO:∀(i n:Nat),n<10^48->(GZ n)[i]?.getD 0=((n / 10000 ^ i % 10000:Nat):Int)
 | 0,n,hn=>by
  by_cases h0:n=0
  ·subst h0;rfl
  ·rw[mE h0 hn];simp
 | i+1,n,hn=>by
  have hl:=Y2 n 10000
  by_cases h0:n=0
  ·subst h0;simp[oQ]
  ·rw[mE h0 hn,Vb,zO i _ (by omega),Rh,TF,<-Xq]
theorem Oa:∀(i n:Nat),n<10^48->(GZ n).drop i=GZ (n / 10000 ^ i)
 |0,n,hn=>by simp
 | i+1,n,hn=>by
  have hl:=Y2 n 10000
  by_cases h0:n=0
  ·subst h0;simp[oQ]
  ·rw[mE h0 hn,adX,Oa i _ (by omega),Rh,TF,<-Xq]
theorem AZ{n:Nat}(h:n<10^48):n<10000 ^ (GZ n).length:=by have h1:=(pz (zP n h)).2;rw[oR n h]at h1;exact Int.ofNat_lt.1 (by rw[aer];exact h1)
theorem Jz:∀{l:List Int},(∀x∈l,0<=x/\x<10000)->l.getLast?≠some 0->0<l.length->10000 ^ (l.length - 1)<=GY l
 |[],_,_,h=>by simp at h
 | [x],h,hz,_=>by have:=h x (by simp);have:x≠0:=λe=>hz (by rw[e];rfl);simp only[GY,ae_,Yp,Int.pow_zero];omega
 | x::y::l,h,hz,_=>by have h1:=Jz (l:=y::l) (λz hz=>h z (by simp[hz])) (by rw[ad8]at hz;exact hz) (by simp);have:=h x (by simp);rw[GY];simp only[V8,ad4]at h1 ⊢;rw[Yh];omega
theorem WJ{n:Nat}(h:n<10^48)(h0:n≠0):10000 ^ ((GZ n).length - 1)<=n:=by have h1:=Jz (zP n h) (bD8 n h) (Oc h0 h);rw[oR n h]at h1;exact Int.ofNat_le.1 (by rw[aer];exact h1)
theorem Cf{a b:Nat}(ha:a<10^48)(hb:b<10^48)(h:(GZ a).length<(GZ b).length):a<b:=by
 have h1:=AZ ha;have h0:b≠0:=λe=>by subst e;simp[oQ]at h
 have h2:=WJ hb h0;have k:10000 ^ (GZ a).length<=10000 ^ ((GZ b).length - 1):=Wl (by decide) (by omega);omega
theorem bD7{a b:Nat}(ha:a<10^48)(hb:b<10^48)(h:a<=b):(GZ a).length<=(GZ b).length :=Nat.le_of_not_lt λe=>by have:=Cf hb ha e;omega
def B9(a b:Nat):Int:=if a<b then -1 else if a=b then 0 else 1
theorem RJ{a b i:Nat}(h:a / 10000 ^ (i+1)=b / 10000 ^ (i+1))(h2:a / 10000 ^ i % 10000<b / 10000 ^ i % 10000):a<b:=by rw[Rh,<-Xq,<-Xq]at h;refine aej λe=>?_;have:=Nat.div_le_div_right (c:=10000 ^ i) e;have k:=QB (a / 10000 ^ i) 10000;have h4:=QB (b / 10000 ^ i) 10000;omega
theorem bD6{a b i:Nat}(h:a / 10000 ^ (i+1)=b / 10000 ^ (i+1))(h2:a / 10000 ^ i % 10000=b / 10000 ^ i % 10000):a / 10000 ^ i=b / 10000 ^ i:=by rw[Rh,<-Xq,<-Xq]at h;have k:=QB (a / 10000 ^ i) 10000;have h4:=QB (b / 10000 ^ i) 10000;omega
theorem H5(l:List Int):∀{j:Nat},j<=l.length->∃m,m<=j/\sT l j=l.take m/\GY (l.take m)=GY (l.take j)/\(l.take m).getLast?≠some 0
 |0,_=>⟨0,ZV _,by simp[sT],rfl,by simp⟩
 | j+1,h=>by
  obtain⟨x,hx,ht,-⟩:=ah (l:=l) (j:=j) (by omega)
  by_cases h0:x=0
  ·obtain⟨m,h1,h2,k,h4⟩:=H5 l (j:=j) (by omega);refine⟨m,by omega,?_,?_,h4⟩
   ·rw[sT,hx,Ns,ZN h0,h2]
   ·rw[k,ht,py,h0];simp[GY]
  ·refine⟨j+1,ZV _,?_,rfl,?_⟩
   ·rw[sT,hx,Ns,ZF h0]
   ·rw[ht,List.getLast?_concat];simpa using h0
theorem E8{l:List Int}{n:Nat}(h:∀x∈l,0<=x/\x<10000)(hv:GY l=(n:Int))(hn:n<10^48):qD l=GZ n:=by
 obtain⟨m,h1,h2,a,h4⟩:=H5 l (ZV l.length);rw[Xo,hv]at a;have hr:∀x∈l.take m,0<=x/\x<10000:=λx hx=>h x (Xp hx);have k:(l.take m).length<=12:=by
  refine Nat.le_of_not_lt λe=>?_;have h5:=Jz hr h4 (by omega);rw[a]at h5;have b:(10000:Int) ^ 12<=10000 ^ ((l.take m).length - 1):=Ox (by omega);have:(10000:Int) ^ 12=10^48:=by decide
  omega
 have h7:=Ob hr h4 k;rw[a]at h7;rw[qD,h2,<-h7]
 rfl
theorem E9[Z0]{d:Nat}{g:G}{b:Nat}{v:AV}{l:List Int}{K:AV->G->Prop}{D:ZU->Prop}(hv:Own g b v 1 (l.map ci))(hl:l.length<2^63)
  (k:∀v',ZT (λi=>Zi v=some i) 0 g.h (qD l) v'->K v' g):(ae C0 d 139 [v] g).sat K g D:=by
 rw[ES];refine j9 Jj (by simp[xn]) ?_;simp only[sz,simprocAttr,xn,xp];rcases hv with⟨rfl,e⟩|⟨id,ep,lo,h1,h2,rfl,m⟩
 ·have:l=[]:=by simpa using e
  subst this;have k:=k .Z6 ⟨by show 0<2^63;decide,rfl⟩;refine gB (λn t df g'=>df=[]/\g'=g/\St t [(0,.Z6)]) 0 ⟨rfl,rfl,by simp[sx,St]⟩ ?_;rintro n t df g' ⟨rfl,rfl,h0,-⟩;simp only[sz,simprocAttr,kU,h0,gz,Int.lt_irrefl];exact k
 ·rw[Ju]at *;have key:∀n≤l.length,ak g.h 1 (.ZG id ep 0 n none)=some ((l.take n).map ci):=λn f=>by rw[fX,m,dJ,ZN (by simp;omega),XI,VX]
  have sl:∀n≤l.length,ZT (λi=>Zi (.ZG id ep 0 l.length none)=some i) 0 g.h (l.take n) (.ZG id ep 0 n none):=λn f =>⟨by rw[Rk];omega,rfl,_,key n f,Y7 (λa=>ay.2 rfl) _⟩
  have Vg:∀n c:Nat,n<=l.length->c<n->Au 1 (.ZG id ep 0 n none) none (some (Z_ (c:Int))) g=.val (.ZG id ep 0 c none):=λn c f hc=>by
   have hb:(l.map ci).length.beq 0=false:=by rw[Ju];cases h:l.length with|zero=>omega|succ n=>rfl
   simp only[Au,qz,m,X_,U2,ax,Ku,aa,R1,bc,XH,Fa];rw[ZN (by rw[Ju];omega)];simp only[dU];rw[show ap (c.ble (l.map ci).length) (some c) none=some c from by rw[aa,ZN (by simp;omega)]];dsimp only;rw[hb]
   rfl
  refine gB (λn t df g'=>df=[]/\g'=g/\n<=l.length/\sT l n=qD l/\St t [(0,.ZG id ep 0 n none)]) l.length ⟨rfl,rfl,ZV _,rfl,by simp[sx,St]⟩ ?_;rintro n t df g' ⟨rfl,rfl,f,hc,h0,-⟩;have n1:∀h,gz .slice (.ZG id ep 0 n none) h=.val (Z_ (n:Int)):=λh=>rfl;have hk:=key n f;cases n with
  | zero =>
   have o:¬((0:Int)<((0:Nat):Int)):=by omega
   simp only[sz,simprocAttr,kU,h0,n1];have k:=k _ (by rw[<-hc];exact sl 0 f);exact k
  | succ n =>
   obtain⟨x,hx,ht,-⟩:=ah (l:=l) (j:=n) (by omega);have w1:IntKind.wrap .i64 (((n+1:Nat):Int) - 1)=(n:Int):=by rw[aq];omega
   have q0:(0:Int)<((n+1:Nat):Int):=by omega
   have q1:n<((l.take (n+1)).map ci).length:=by simp;omega
   have q2:((l.take (n+1)).map ci)[n]?=some (ci x):=by rw[Zy,aeE,i6,hx];rfl
   have hs:=Vg (n+1) n f (by omega)
   by_cases hx0:x=0
   ·simp only[sz,simprocAttr,h0,n1,q0,w1,hk,q1,q2,ci,hx0,Ym,Ur,hs];refine⟨n,by omega,by omega,?_,by simp[sx,St]⟩;rw[<-hc,sT,hx,Ns,ZN hx0]
   ·simp only[sz,simprocAttr,kU,h0,n1,q0,w1,hk,q1,q2,ci,hx0];have k:=k _ (by rw[<-hc,sT,hx,Ns,ZF hx0];exact sl (n+1) f);exact k
theorem uv[Z0]{d k k2:Nat}{g:G}{P P2:Nat->Prop}{v w:AV}{x y:Nat}(hd:0<d)(hv:ZT P k g.h (GZ x) v)(hw:ZT P2 k2 g.h (GZ y) w)(hx:x<10^48)(hy:y<10^48) :
  ae C0 d 112 [v,w] g=.val (Z_ (B9 x y)):=by
 obtain⟨v',e1,i⟩:=aZ hv d;obtain⟨w',o,n⟩:=aZ hw d;rw[Zn];refine cz Cn (xs:=[v',w']) (by simp only[aD,e1,o]) (by simp[nO]) hd ?_;have n1:=λg=>(i .nil).len g;have n2:=λg=>(n .nil).len g;have c:=hv.1;simp only[sz,simprocAttr,nO,n1,n2];refine ba (λhq=>?_) (λhq=>?_)
 ·have r:(GZ x).length≠(GZ y).length:=by simp at hq;omega
  simp only[sz,simprocAttr,n1,n2];refine ba (λhq2=>?_) (λhq2=>?_)
  ·have hlt:(GZ x).length<(GZ y).length:=by simp at hq2;omega
   have:=Cf hx hy hlt;simp only[sz,simprocAttr];rw[B9,ZN this]
  ·have hlt:(GZ y).length<(GZ x).length:=by simp at hq2;omega
   have:=Cf hy hx hlt;simp only[sz,simprocAttr];rw[B9,bJ,bJ]
 ·have b:(GZ x).length=(GZ y).length:=by simp at hq;omega
  have w1:IntKind.wrap .i64 (((GZ x).length:Int) - 1)=((GZ x).length:Int) - 1:=by rw[aq]
  simp only[sz,simprocAttr,n1,pO];refine uf (m:=(GZ x).length) c (λj t df g=>df=[]/\St t [(0,v'),(1,w')]/\x / 10000 ^ j=y / 10000 ^ j) ⟨rfl,by simp[St,sx],?_⟩ (by simp[sx,w1]) (by decide) (by rintro j t df g v s (rfl|rfl|rfl|rfl|rfl)<;>simp[St,sx]) ?_ ?_
  ·have h1:=AZ hx;have h2:=AZ hy;rw[<-b]at h2;rw[VW h1,VW h2]
  ·rintro j t df g f ⟨rfl,⟨h0,h1,-⟩,a⟩ h5;obtain⟨p,hp,-,-⟩:=ah f;obtain⟨q,hq,-,-⟩:=ah (l:=GZ y) (j:=j) (by omega);have ep:=zO j x hx;have eq:=zO j y hy;rw[hp,Ns]at ep;rw[hq,Ns]at eq;have q1:j<((GZ x).map ci).length:=by simpa using f
   have q2:j<((GZ y).map ci).length:=by rw[Ju];omega
   have q3:((GZ x).map ci)[j]?=some (ci p):=by rw[Zy,hp];rfl
   have e:((GZ y).map ci)[j]?=some (ci q):=by rw[Zy,hq];rfl
   have ra:∀h',ak h' 1 v'=some ((GZ x).map ci):=λh'=>(i h').ints;have rb:∀h',ak h' 1 w'=some ((GZ y).map ci):=λh'=>(n h').ints
   by_cases hpq:p=q
   ·have:=bD6 a (by omega);simp only[sz,simprocAttr,h0,h1,h5,ra,rb,q1,q2,q3,e,ci,hpq,St];exact this
   ·by_cases hlt:p<q
    ·have:=RJ a (by omega);simp only[sz,simprocAttr,h0,h1,h5,ra,rb,q1,q2,q3,e,ci,hpq,hlt];rw[B9,ZN this]
    ·have:=RJ a.symm (by omega);simp only[sz,simprocAttr,h0,h1,h5,ra,rb,q1,q2,q3,e,ci,hpq,hlt];rw[B9,bJ,bJ]
  ·rintro t df g ⟨rfl,⟨h0,h1,-⟩,a⟩;rw[ae3,X8,X8]at a;subst a;simp only[sz,simprocAttr,pP];rw[B9,bJ,ZN rfl]
theorem KE:∀{L:List Int} {p:Nat} {z:Int},p<L.length->GY (L.set p z)=GY L+(z - L[p]?.getD 0)*10000 ^ p
 |[],_,_,h=>by simp at h
 |x::L,0,z,_=>by simp[GY];omega
 | x::L,p+1,z,h=>by have ih:=KE (L:=L) (p:=p) (z:=z) (by simpa using h);rw[adL,GY,GY,ih,Vb,Yh,<-MQ,aem,PM _ (10000:Int)];generalize (z - L[p]?.getD 0)*10000 ^ p=u;omega
theorem Pb{L:List Int}{p:Nat}{z:Int}(h:∀x∈L,0<=x/\x<10000)(hz:0<=z/\z<10000):∀x∈L.set p z,0<=x/\x<10000:=λx hx=>by
 rcases adv hx with h1|rfl
 ·exact h x h1
 ·exact hz
theorem Rx{L:List Int}(h:∀x∈L,0<=x/\x<10000)(p:Nat):0<=L[p]?.getD 0/\L[p]?.getD 0<10000:=by
 cases e:L[p]? with
 |none=>simp
 |some x=>exact h x (YH e)
structure p8 (bl:List Int) (n i:Nat) (V ai:Int) (k:Nat) (c:Int) (L:List Int):Prop where
 len:L.length=n
 Yv:∀x∈L,0<=x/\x<10000
 zer:∀j,i+bl.length<=j->i+k<=j->L[j]?.getD 0=0
 kle:k<=bl.length+1
 c0:0<=c
 c1:c<10000
 ce:k=bl.length+1->c=0
 cs:k=0->c=0
 eq:GY L+c*10000 ^ (i+k)=V+ai*10000 ^ i*GY (bl.take k)
def j3(bl:List Int):Prop:=∀(k:Nat) (z:Int),bl[k]?=some z->0<=z/\z<=10000/\(0<k->z<10000)
theorem bD5{D D' c c' s l z U V W m:Int}(h1:D'=D+(z - l)*U)(h2:s=c+l+m)(h3:s=10000*c'+z)(h4:D+c*U=V+W):D'+c'*(U*10000)=V+(W+m*U):=by
 have e1:(c+l+m)*U=(10000*c'+z)*U:=by rw[<-h2,h3]
 rw[Wk,Wk,Wk,MQ]at e1;rw[Int.sub_mul]at h1;rw[<-MQ,PM _ (10000:Int)];omega
theorem bD4{bl L:List Int}{n i k:Nat}{V ai c m s:Int}(h:p8 bl n i V ai k c L)(hi:i+k<n)(h2:j3 bl)(ha:0<=ai/\ai<10000)
  (hk:k<bl.length\/k=bl.length) (hm:m=ai*bl[k]?.getD 0) (hs:s=c+L[i+k]?.getD 0+m) :
  0<=s/\s<100000000/\p8 bl n i V ai (k+1) (s / 10000) (L.set (i+k) (s % 10000)):=by
 obtain⟨a,hr,hz,o,c0,c1,ce,cs,he⟩:=h;obtain⟨q,l1⟩:=Rx hr (i+k);have hb:0<=bl[k]?.getD 0/\bl[k]?.getD 0<=10000/\(0<k->bl[k]?.getD 0<10000):=by
  cases e:bl[k]? with
  |none=>simp
  |some z=>exact h2 k z e
 obtain⟨l,b1,b2⟩:=hb;have r:0<=m:=by rw[hm];exact Vl ha.1 l
 have t:m<=9999*bl[k]?.getD 0:=by rw[hm];exact ac0 (by omega) l
 have b:0<=s/\s<100000000:=by
  by_cases hk0:k=0
  ·have:=cs hk0;omega
  ·have:=b2 (by omega);omega
 have d:k=bl.length->bl[k]?.getD 0=0:=λe=>by rw[VV (by omega)];rfl
 have f:GY (bl.take (k+1))=GY (bl.take k)+10000 ^ k*bl[k]?.getD 0:=by
  rcases hk with hk|hk
  ·obtain⟨x,hx,ht,-⟩:=ah hk;rw[ht,py,hx,Rk,NT (by omega)];simp[GY]
  ·rw[d hk,U8 (by omega),U8 (by omega)];simp
 refine⟨b.1,b.2,by simpa using a,Pb hr (by omega),λj h1 h3=>?_,by omega,by omega,by omega,λe=>?_,by omega,?_⟩
 ·rw[TS (by omega)];exact hz j h1 (by omega)
 ·have e:k=bl.length:=by omega
  have h0:=hz (i+k) (by omega) (by omega);rw[d e,afu]at hm;rw[h0,hm]at hs;omega
 ·have hd:=KE (L:=L) (p:=i+k) (z:=s % 10000) (by omega);have:=bD5 (c':=s / 10000) hd hs (by omega) he;rw[<-Nk,Yh,this,f,aem,hm,Int.pow_add];congr 2;simp only[MQ,PM,Int.mul_left_comm]
theorem bD3{bl L:List Int}{n i:Nat}{V ai:Int}(hlen:L.length=n)(hr:∀x∈L,0<=x/\x<10000)(hz:∀j,i+bl.length<=j->L[j]?.getD 0=0)(hV:GY L=V):p8 bl n i V ai 0 0 L :=⟨hlen,hr,λj h1 h2=>hz j h1,by omega,by omega,by omega,λ_=>rfl,λ_=>rfl,by simp[GY,hV]⟩
structure f9 (al bl:List Int) (i:Nat) (L:List Int):Prop where
 len:L.length=al.length+bl.length
 Yv:∀x∈L,0<=x/\x<10000
 zer:∀j,i+bl.length<=j->L[j]?.getD 0=0
 eq:GY L=GY (al.take i)*GY bl
theorem H8:∀n:Nat,GY (List.replicate n 0)=0
 |0=>rfl
 |n+1=>by rw[VZ,GY,H8 n];rfl
theorem bD2(al bl:List Int):f9 al bl 0 (List.replicate (al.length+bl.length) 0):=by
 refine⟨by simp,λx hx=>?_,λj _=>?_,by rw[H8];simp[GY]⟩
 ·have:=(adp.1 hx).2;omega
 ·rw[adH];split<;>rfl
theorem bD1{al bl L:List Int}{i k:Nat}{c x:Int}(hi:i<al.length)(hx:al[i]?=some x)(h:p8 bl (al.length+bl.length) i (GY (al.take i)*GY bl) x k c L)(hk:bl.length<=k)(hc:c=0):f9 al bl (i+1) L:=by obtain⟨a,hr,hz,d,c0,c1,ce,cs,he⟩:=h;refine⟨a,hr,λj h1=>hz j (by omega) (by omega),?_⟩;obtain⟨y,b,ht,-⟩:=ah hi;rw[hx]at b;injection b with b;subst b;rw[hc,afv,aeA,U8 hk]at he;rw[he,ht,py,Rk,NT (by omega),Wk];simp[GY,PM]
theorem bD0{al bl L:List Int}{x y:Nat}(h:f9 al bl al.length L)(ha:GY al=(x:Int))(hb:GY bl=(y:Int))(hm:x*y<10^48):qD L=GZ (x*y):=by refine E8 h.Yv ?_ hm;rw[h.eq,Xo,ha,hb,QR]
structure j1 (al bl:List Int) (i:Nat) (r:Int) (L:List Int):Prop where
 len:L.length=i
 Yv:∀x∈L,0<=x/\x<10000
 r01:r=0\/r=1
 eq:GY L=GY (al.take i) - GY (bl.take i)+r*10000 ^ i
theorem bC_(al bl:List Int):j1 al bl 0 0 []:=⟨rfl,by simp,.inl rfl,by simp[GY]⟩
theorem OP{al bl L:List Int}{i:Nat}{r x y e q:Int}(hi:i<al.length)(ha:∀x∈al,0<=x/\x<10000)(hb:∀x∈bl,0<=x/\x<10000)(h:j1 al bl i r L)(hx:al[i]?=some x)(hy:bl[i]?.getD 0=y)
  (he:(x - r - y<0/\e=x - r - y+10000/\q=1)\/(0<=x - r - y/\e=x - r - y/\q=0)):j1 al bl (i+1) q (L++[e]):=by
 obtain⟨k,hr,n,b⟩:=h;have o:=ha x (YH hx);have f:=Rx hb i;rw[hy]at f;have a:0<=e/\e<10000:=by omega
 have d:GY (bl.take (i+1))=GY (bl.take i)+10000 ^ i*y:=by
  by_cases hk:i<bl.length
  ·obtain⟨z,hz,ht,-⟩:=ah hk;rw[ht,py,Rk,NT (by omega)];rw[hz,Ns]at hy;simp[GY,hy]
  ·rw[VV (by omega),XH]at hy;rw[<-hy,U8 (by omega),U8 (by omega)];simp
 have c:GY (al.take (i+1))=GY (al.take i)+10000 ^ i*x:=by obtain⟨z,hz,ht,-⟩:=ah hi;rw[hx]at hz;injection hz with hz;rw[ht,py,Rk,NT (by omega),hz];simp[GY]
 refine⟨by simp[k],λz hz=>?_,by omega,?_⟩
 ·rcases Tn.1 hz with h1|h1
  ·exact hr z h1
  ·rw[Wa.1 h1];exact a
 ·rw[py,k,d,c,b,Yh];have e1:e=x - r - y+10000*q:=by omega
  have j:10000 ^ i*e=10000 ^ i*x - 10000 ^ i*r - 10000 ^ i*y+10000 ^ i*(10000*q):=by rw[e1];simp only[aem,Int.mul_sub]
  have l:q*(10000 ^ i*10000)=10000 ^ i*(10000*q):=by simp only[MQ,PM]
  have m:r*10000 ^ i=10000 ^ i*r:=PM _ _;simp only[GY,afu,aeA];rw[j,l,m];generalize (10000:Int) ^ i=U;generalize U*x=u1;generalize U*r=u2;generalize U*y=u3;generalize U*(10000*q)=u4;omega
theorem bC9{x y:Nat}{L:List Int}{r:Int}(hx:x<10^48)(hxy:y<=x)(h:j1 (GZ x) (GZ y) (GZ x).length r L):qD L=GZ (x - y):=by
 obtain⟨a,hr,b,k⟩:=h;have c:=bD7 (show y<10^48 by omega) hx hxy;rw[Xo,U8 c,oR x hx,oR y (by omega)]at k;have hb:=pz hr;rw[a]at hb;have:r=0:=by
  rcases b with e|e
  ·exact e
  ·rw[e,afe]at k;omega
 rw[this,afv,aeA]at k;exact E8 hr (by omega) (by omega)
theorem Kj{x y:Int}(h0:0<=x)(h1:x<2^63)(hy:0<y):bN .rem (Z_ x) (Z_ y)=.val (Z_ (x % y)):=by obtain⟨n,rfl⟩:=Wu h0;obtain⟨m,rfl⟩:=Wu (by omega:0<=y);have:=Ej (x:=n) (y:=m) (by omega);rw[this,Int.natCast_emod]
theorem AK{x y:Int}(h0:0<=x)(h1:x<2^63)(hy:0<y):bN .quo (Z_ x) (Z_ y)=.val (Z_ (x / y)):=by obtain⟨n,rfl⟩:=Wu h0;obtain⟨m,rfl⟩:=Wu (by omega:0<=y);have:=Bu (x:=n) (y:=m) (by omega) (by omega);rw[this,aeT]
theorem bC8[Z0]{d i:Nat}{v' w' u:AV}{al bl:List Int}{x V:Int}{Q:QT}{t:T}{g:G}{L:List Int}(hi:i<al.length)(hx:al[i]?=some x)(hx1:0<=x/\x<10000)(hla:al.length<=1000)(hlb:bl.length<=1000)(hb:j3 bl)
  (ra:∀h,ak h 1 v'=some (al.map ci)) (rb:∀h,ak h 1 w'=some (bl.map ci)) (n2:∀g,gz .slice w' g=.val (Z_ (bl.length:Int)))
  (ht:St t [(0,v'),(1,w'),(5,u),(6,Z_ (i:Int)),(7,Z_ 0),(8,Z_ 0)]) (hu:Own g 0 u 1 (L.map ci)) (hI:p8 bl (al.length+bl.length) i V x 0 0 L)
  (fin:∀t g L k,St t [(0,v'),(1,w'),(5,u),(6,Z_ (i:Int))]->Own g 0 u 1 (L.map ci)->p8 bl (al.length+bl.length) i V x k 0 L->bl.length<=k->Q (.exit 2) t [] g) :
  Uk (wp C0 d none fm) Q t [] g:=by
 refine gB (λn t df g=>df=[]/\∃(k:Nat) (c:Int) (L:List Int),n=bl.length+2 - k/\St t [(0,v'),(1,w'),(5,u),(6,Z_ (i:Int)),(7,Z_ c),(8,Z_ (k:Int))]/\Own g 0 u 1 (L.map ci)/\p8 bl (al.length+bl.length) i V x k c L) (bl.length+2)
  ⟨rfl,0,0,L,by omega,ht,hu,hI⟩ ?_
 rintro n t df g ⟨rfl,k,c,L,rfl,⟨h0,h1,h5,f,h7,h8,-⟩,hu,hI⟩;have B:=hI.kle;have c0:=hI.c0;have c1:=hI.c1;have w1:IntKind.wrap .i64 ((i:Int)+(k:Int))=((i+k:Nat):Int):=by rw[aq];omega
 have z:IntKind.wrap .i64 ((k:Int)+1)=((k+1:Nat):Int):=by rw[aq];omega
 have ur:=λg (hu:Own g 0 u 1 (L.map ci))=>hu.rows
 by_cases hk:k<bl.length\/(k=bl.length/\0<c)
 ·have b:i+k<L.length:=by rw[hI.len];omega
  obtain⟨p,hp,-,-⟩:=ah b;obtain⟨J,p1⟩:=hI.Yv p (YH hp);have w:IntKind.wrap .i64 (c+p)=c+p:=aq;have q1:i+k<(L.map ci).length:=by simpa using b
  have q2:(L.map ci)[i+k]?=some (ci p):=by rw[Zy,hp];rfl
  have ur:=hu.rows;have key:∀s m:Int,m=x*bl[k]?.getD 0->s=c+p+m->0<=s/\s<100000000/\p8 bl (al.length+bl.length) i V x (k+1) (s / 10000) (L.set (i+k) (s % 10000)):=λs m hm hs =>bD4 hI (by rw[<-hI.len];exact b) hb hx1 (by omega) hm (by rw[hp];exact hs)
  by_cases hk1:k<bl.length
  ·obtain⟨y,r,-,-⟩:=ah hk1;obtain⟨A,K,-⟩:=hb k y r;have q3:i<(al.map ci).length:=by simpa using hi
   have C:(al.map ci)[i]?=some (ci x):=by rw[Zy,hx];rfl
   have q5:k<(bl.map ci).length:=by simpa using hk1
   have D:(bl.map ci)[k]?=some (ci y):=by rw[Zy,r];rfl
   have a:((k:Int)<(bl.length:Int)):=by omega
   obtain⟨m,hm⟩:∃m,m=x*y:=⟨_,rfl⟩;have H:0<=m:=by rw[hm];exact Vl hx1.1 A
   have I:m<=10000*y:=by rw[hm];exact ac0 (by omega) A
   obtain⟨s,hs⟩:∃s,s=c+p+m:=⟨_,rfl⟩;obtain⟨j,E,l⟩:=key s m (by rw[r,Ns];exact hm) hs;have F:IntKind.wrap .i64 (x*y)=m:=by rw[<-hm,aq]
   have w5:IntKind.wrap .i64 (c+p+m)=s:=by rw[<-hs,aq]
   have b1:=Kj (x:=s) (y:=10000) j (by omega) (by decide);have b2:=AK (x:=s) (y:=10000) j (by omega) (by decide);simp only[sz,simprocAttr,fm,h0,h1,h5,f,h7,h8,n2,a,w1,w,F,w5,ur,q1,q2,q3,C,q5,D,ra,rb,ci,mc,md,b1];refine bZ (v:=u) (sz:=1) (n:=1) (i:=i+k) (off:=0) (x:=Z_ (s % 10000)) (row':=ci (s % 10000)) hu q2 rfl rfl rfl λg2 hu2 n2 f2=>?_;rw[uQ]at hu2;simp only[sz,simprocAttr,h8,z,b2];exact⟨bl.length+2 - (k+1),by omega,k+1,s / 10000,_,rfl,by simp[St,sx,h0,h1,h5,f],hu2,l⟩
  ·have a:¬((k:Int)<(bl.length:Int)):=by omega
   have q:(0:Int)<c:=by omega
   have o:bl[k]?.getD 0=0:=by rw[VV (by omega)];rfl
   obtain⟨s,hs⟩:∃s,s=c+p:=⟨_,rfl⟩;obtain⟨j,E,l⟩:=key s 0 (by rw[o,afu]) (by omega);rw[<-hs]at w;have b1:=Kj (x:=s) (y:=10000) j (by omega) (by decide);have b2:=AK (x:=s) (y:=10000) j (by omega) (by decide);simp only[sz,simprocAttr,fm,h1,h5,f,h7,h8,n2,a,q,w1,w,<-hs,ur,q1,q2,ci,mc,md,b1];refine bZ (v:=u) (sz:=1) (n:=1) (i:=i+k) (off:=0) (x:=Z_ (s % 10000)) (row':=ci (s % 10000)) hu q2 rfl rfl rfl λg2 hu2 n2 f2=>?_;rw[uQ]at hu2;simp only[sz,simprocAttr,h8,z,b2];exact⟨bl.length+2 - (k+1),by omega,k+1,s / 10000,_,rfl,by simp[St,sx,h0,h1,h5,f],hu2,l⟩
 ·have a:¬((k:Int)<(bl.length:Int)):=by omega
  have hc:c=0:=by
   by_cases e:k=bl.length+1
   ·exact hI.ce e
   ·omega
  subst hc;simp only[sz,simprocAttr,fm,h1,h7,h8,n2,a,Int.lt_irrefl];refine fin _ _ L k ?_ hu hI (by omega);simp[St,sx,h0,h1,h5,f]
theorem yP[Z0]{d k k2:Nat}{g:G}{P P2:Nat->Prop}{v w:AV}{x y:Nat}{bl:List Int}(hd:0<d)(hv:ZT P k g.h (GZ x) v)(hw:ZT P2 k2 g.h bl w)(hx:x<10^48)(hb:j3 bl)(hlb:bl.length<=100)(hy:GY bl=(y:Int))(hm:x*y<10^48) :
  ∃r,ae C0 d 115 [v,w] g=.val r/\IT 0 (GZ (x*y)) r:=by
 obtain⟨v',e1,l⟩:=aZ hv d;obtain⟨w',q,o⟩:=aZ hw d;rw[Zn];have f:=oR x hx;have ha:=zP x hx;have A:=iG x;generalize GZ x=al at *;refine aI Fm (xs:=[v',w']) (by simp only[aD,e1,q]) (by simp[rU]) (aE _) (by decide) hd ?_;have n1:=λg=>(l .nil).len g;have n2:=λg=>(o .nil).len g;have ra:∀h',ak h' 1 v'=some (al.map ci):=λh'=>(l h').ints;have rb:∀h',ak h' 1 w'=some (bl.map ci):=λh'=>(o h').ints;have w1:IntKind.wrap .i64 ((al.length:Int)+(bl.length:Int))=((al.length+bl.length:Nat):Int):=by rw[aq];omega
 simp only[sz,simprocAttr,rU,n1,n2,w1];refine rf (b:=0) (n:=al.length+bl.length) (by simp[aQ];omega) (by simp[aQ];omega) (Jq _) λu g1 hu hn1 hf1 hvid=>?_;have hu:Own g1 0 u 1 ((List.replicate (al.length+bl.length) (0:Int)).map ci):=by simpa [ci] using hu
 simp only[sz,simprocAttr,th];refine ro (m:=al.length) (v:=v') (by omega) n1 (λi t df g=>df=[]/\St t [(1,w'),(5,u)]/\∃L,Own g 0 u 1 (L.map ci)/\f9 al bl i L) ⟨rfl,by simp[St,sx],_,hu,bD2 al bl⟩ (by simp[sx]) (by simp[sx]) (by decide) (by rintro j t df g v s (rfl|rfl|rfl|rfl|rfl|rfl|rfl)<;>simp[St,sx]) ?_ ?_
 ·rintro i t df g hi ⟨rfl,⟨h1,h5,-⟩,L,hu,a⟩ c h0;obtain⟨p,hp,-,e⟩:=ah hi;simp only[sz,simprocAttr];refine bC8 (V:=GY (al.take i)*GY bl) (L:=L) hi hp (ha p e) (by omega) (by omega) hb ra rb n2 (by simp[St,sx,h0,h1,h5,c]) hu (bD3 a.len a.Yv a.zer a.eq) ?_;rintro t g L k ⟨h0,h1,h5,c,-⟩ hu hI hk;simp only[sx,sy,↓reduceIte];refine⟨⟨?_,L,hu,bD1 hi hp hI hk rfl⟩,c,h0⟩;simp[St,h1,h5]
 ·rintro t df g ⟨rfl,⟨h1,h5,-⟩,L,hu,a⟩ h0;have B:L.length<=200:=by have:=a.len;omega
  have z:=bD0 a f hy hm;simp only[sz,simprocAttr,tj,h5];refine E9 hu (by omega) λv2 hv2=>?_;rw[z]at hv2;simp only[sz,simprocAttr];exact⟨_,v2,rfl,hv2⟩
theorem Ls[Z0]{d i:Nat}{v' w' u:AV}{e0:Int}{L:List Int}{Q:QT}{t:T}{g:G}(ht:St t [(0,v'),(1,w'),(7,Z_ (i:Int)),(8,Z_ e0)])(h5:ZY t 5=u)(hu:Own g 0 u 1 (L.map ci))(hL:L.length<=100)(he:-20000<e0/\e0<20000)
  (fin:∀t g u e q,(e0<0/\e=e0+10000/\q=1)\/(0<=e0/\e=e0/\q=0)->St t [(0,v'),(1,w'),(7,Z_ (i:Int))]->ZY t 5=u->ZY t 6=Z_ q->Own g 0 u 1 ((L++[e]).map ci)->Q .norm t [] g) :
  wp C0 d none ip Q t [] g:=by
 obtain⟨h0,h1,h7,h8,-⟩:=ht
 by_cases h:e0<0
 ·have w1:IntKind.wrap .i64 (e0+10000)=e0+10000:=aq;simp only[sz,simprocAttr,ip,mb,h5,h8,h,w1];refine aP (new:=[ci (e0+10000)]) (hu.step (Fr.new _ _)) (by simp[sx,sy,ci]) (by simp<;>omega) (by simp[aQ]<;>omega) λv2 g2 hv2 n2 f2 _ l2=>?_;simp only[sz,simprocAttr];exact fin _ _ v2 _ _ (.inl ⟨h,rfl,rfl⟩) (by simp[St,sx,h0,h1,h7]) (by simp[sx]) (by simp[sx]) (by simpa using hv2)
 ·simp only[sz,simprocAttr,ip,mb,h5,h8,h];refine aP (new:=[ci e0]) (hu.step (Fr.new _ _)) (by simp[sx,sy,ci]) (by simp<;>omega) (by simp[aQ]<;>omega) λv2 g2 hv2 n2 f2 _ l2=>?_;simp only[sz,simprocAttr];exact fin _ _ v2 _ _ (.inr ⟨by omega,rfl,rfl⟩) (by simp[St,sx,h0,h1,h7]) (by simp[sx]) (by simp[sx]) (by simpa using hv2)
theorem bC7[Z0]{d k k2:Nat}{g:G}{P P2:Nat->Prop}{v w:AV}{x y:Nat}(hd:0<d)(hv:ZT P k g.h (GZ x) v)(hw:ZT P2 k2 g.h (GZ y) w)(hx:x<10^48)(hxy:y<=x) :
  ∃r,ae C0 d 158 [v,w] g=.val r/\IT 0 (GZ (x - y)) r:=by
 obtain⟨v',e1,l⟩:=aZ hv d;obtain⟨w',o,n⟩:=aZ hw d;rw[Zn];have ha:=zP x hx;have hb:=zP y (by omega);have C:=iG x;have D:=iG y;refine aI Fl (xs:=[v',w']) (by simp only[aD,e1,o]) (by simp[rT]) (aE _) (by decide) hd ?_;have n1:=λg=>(l .nil).len g;have n2:=λg=>(n .nil).len g;have ra:∀h',ak h' 1 v'=some ((GZ x).map ci):=λh'=>(l h').ints;have rb:∀h',ak h' 1 w'=some ((GZ y).map ci):=λh'=>(n h').ints;simp only[sz,simprocAttr,rT,tf];refine ro (m:=(GZ x).length) (v:=v') (by omega) n1 (λi t df g=>df=[]/\St t [(1,w')]/\∃(u:AV) (r:Int) (L:List Int),ZY t 5=u/\ZY t 6=Z_ r/\Own g 0 u 1 (L.map ci)/\j1 (GZ x) (GZ y) i r L) ⟨rfl,by simp[St,sx],.Z6,0,[],by simp[sx],by simp[sx],.inl ⟨rfl,rfl⟩,bC_ _ _⟩ (by simp[sx]) (by simp[sx]) (by decide) (by rintro j t df g v s (rfl|rfl|rfl|rfl|rfl|rfl|rfl)<;>simp[St,sx]) ?_ ?_
 ·rintro i t df g hi ⟨rfl,⟨h1,-⟩,u,r,L,h5,a,hu,hI⟩ h7 h0;obtain⟨p,hp,-,c⟩:=ah hi;have F:=ha p c;have q1:i<((GZ x).map ci).length:=by simpa using hi
  have q2:((GZ x).map ci)[i]?=some (ci p):=by rw[Zy,hp];rfl
  have r01:=hI.r01;have B:=hI.len;have w1:IntKind.wrap .i64 (p - r)=p - r:=aq
  by_cases hk:i<(GZ y).length
  ·obtain⟨q,hq,-,f⟩:=ah hk;have H:=hb q f;have q3:i<((GZ y).map ci).length:=by simpa using hk
   have I:((GZ y).map ci)[i]?=some (ci q):=by rw[Zy,hq];rfl
   have b:(i:Int)<((GZ y).length:Int):=by omega
   have J:IntKind.wrap .i64 (p - r - q)=p - r - q:=aq;simp only[sz,simprocAttr,h0,h1,a,h7,n2,ra,rb,q1,q2,q3,I,ci,w1,J,b];refine Ls (v':=v') (w':=w') (i:=i) (e0:=p - r - q) (by simp[St,sx,h0,h1,h7]) (by simp[sx,h5]) hu (by omega) (by omega) ?_;rintro t g u e z he ⟨h0,h1,h7,-⟩ h5 a hu;simp only[sy];exact⟨⟨by simp[St,h1],u,z,_,h5,a,hu,OP hi ha hb hI hp (by rw[hq];rfl) he⟩,h7,h0⟩
  ·have b:¬(i:Int)<((GZ y).length:Int):=by omega
   simp only[sz,simprocAttr,h0,h1,a,h7,n2,ra,q1,q2,ci,w1,b];refine Ls (v':=v') (w':=w') (i:=i) (e0:=p - r) (by simp[St,sx,h0,h1,h7]) (by simp[sx,h5]) hu (by omega) (by omega) ?_;rintro t g u e z he ⟨h0,h1,h7,-⟩ h5 a hu;simp only[sy];exact⟨⟨by simp[St,h1],u,z,_,h5,a,hu,OP (y:=0) (e:=e) (q:=z) (x:=p) (r:=r) hi ha hb hI hp (by rw[VV (by omega)];rfl) (by omega)⟩,h7,h0⟩
 ·rintro t df g ⟨rfl,⟨h1,-⟩,u,r,L,h5,a,hu,hI⟩ h0;have E:L.length<=200:=by have:=hI.len;omega
  have A:=bC9 hx hxy hI;simp only[sz,simprocAttr,tg,h5];refine E9 hu (by omega) λv2 hv2=>?_;rw[A]at hv2;simp only[sz,simprocAttr];exact⟨_,v2,rfl,hv2⟩
theorem bC6{A a b:Nat}:(10000*A+a) / b=10000*(A / b)+(10000*(A % b)+a) / b:=by
 rcases afp b with rfl|hb
 ·simp
 have h1:=QB A b;have h2:10000*A+a=(10000*(A % b)+a)+b*(10000*(A / b)):=by
  have:10000*(b*(A / b)+A % b)=10000*A:=by rw[h1]
  rw[aff,afy]at this;omega
 rw[h2,Nat.add_mul_div_left _ _ hb,MX]
theorem bC5{A a b:Nat}:(10000*A+a) % b=(10000*(A % b)+a) % b:=by
 have h1:=QB A b;have h2:10000*A+a=(10000*(A % b)+a)+b*(10000*(A / b)):=by
  have:10000*(b*(A / b)+A % b)=10000*A:=by rw[h1]
  rw[aff,afy]at this;omega
 rw[h2,Nat.add_mul_mod_self_left]
theorem bC4{r a b:Nat}(hr:r<b)(ha:a<10000):(10000*r+a) / b<10000:=by refine Xz ?_;have:r+1<=b:=hr;have:=abs 10000 this;omega
theorem bC3{r a b:Nat}(hr:r<b)(ha:a<10000):10000*r+a<10000*b:=by omega
theorem bC2{R b M:Nat}(hb:0<b)(hM:0<M):R / M / (b / M+1)<=R / b:=by
 refine (adu hb).2 ?_;have h1:R / M / (b / M+1)*(b / M+1)<=R / M:=adZ _ _;have h2:R / M*M<=R:=adZ _ _;have h:b<=(b / M+1)*M:=by have:=QB b M;have h4:=US b hM;rw[UF,VT,TF];omega
 calc R / M / (b / M+1)*b<=R / M / (b / M+1)*((b / M+1)*M):=adg _ h
  _=R / M / (b / M+1)*(b / M+1)*M:=by rw[QQ]
  _<=R / M*M:=abs _ h1
  _<=R:=h2
theorem bC1{R b M:Nat}(hM:0<M)(ht:0<b / M):R / b<=R / M / (b / M):=by
 refine (adu ht).2 ((adu hM).2 ?_);have h1:b / M*M<=b:=adZ _ _
 calc R / b*(b / M)*M=R / b*(b / M*M):=by rw[QQ]
  _<=R / b*b:=adg _ h1
  _<=R:=adZ _ _
theorem bC0{R b M:Nat}(hM:0<M)(hR:R<10000*b)(ht:0<b / M)(h:M=1\/10000<=b / M):R / M / (b / M)<=10000:=by
 rcases h with rfl|h
 ·rw[X8,X8];have:R / b<10000:=Xz (by rw[TF];exact hR);omega
 ·have k:b<(b / M+1)*M:=by have:=QB b M;have h4:=US b hM;rw[UF,VT,TF];omega
  have h4:R / M<10000*(b / M+1):=by
   refine Xz ?_;have:=Nat.mul_lt_mul_of_pos_left k (show 0<10000 by decide);have e:10000*((b / M+1)*M)=M*(10000*(b / M+1)):=by simp only[QQ,TF]
   omega
  refine Nat.le_of_lt_succ (Xz ?_);have e:b / M*(10000+1)=10000*(b / M)+b / M:=by omega
  rw[Nat.succ_eq_add_one,e];omega
theorem bB_{L:List Int}{i:Nat}{z:Int}(h:i<L.length):(L.set i z).drop i=z::L.drop (i+1):=by
 rw[Tg (by simpa using h)];congr 1
 ·simp
 ·rw[List.drop_set,i6]
theorem bB9{x b i:Nat}:x / 10000 ^ i / b=10000*(x / 10000 ^ (i+1) / b)+(10000*(x / 10000 ^ (i+1) % b)+x / 10000 ^ i % 10000) / b:=by rw[<-bC6,Rh,<-Xq];congr 1;have:=QB (x / 10000 ^ i) 10000;omega
theorem bB8{x b i:Nat}:x / 10000 ^ i % b=(10000*(x / 10000 ^ (i+1) % b)+x / 10000 ^ i % 10000) % b:=by rw[<-bC5,Rh,<-Xq];congr 1;have:=QB (x / 10000 ^ i) 10000;omega
structure j8 (x b n:Nat) (i:Nat) (L:List Int):Prop where
 len:L.length=n
 Yv:∀z∈L,0<=z/\z<10000
 eq:GY (L.drop i)=((x / 10000 ^ i / b:Nat):Int)
theorem bB7{x b n:Nat}(h:x / 10000 ^ n<b):j8 x b n n (List.replicate n 0):=by
 refine⟨by simp,λz hz=>?_,?_⟩
 ·have:=(adp.1 hz).2;omega
 ·rw[VW h,adi (by simp)];rfl
theorem bB6{x b n i q:Nat}{L:List Int}(h:j8 x b n (i+1) L)(hb:0<b)(hi:i<n)(hq:q=(10000*(x / 10000 ^ (i+1) % b)+x / 10000 ^ i % 10000) / b):j8 x b n i (L.set i (q:Int)):=by obtain⟨k,hr,he⟩:=h;have h1:=bC4 (US (x / 10000 ^ (i+1)) hb) (US (x / 10000 ^ i) (show 0<10000 by decide));rw[<-hq]at h1;refine⟨by simpa using k,Pb hr (by omega),?_⟩;rw[bB_ (by omega),GY,he,bB9 (x:=x) (b:=b) (i:=i),<-hq];omega
theorem bB5{x b n:Nat}{L:List Int}(h:j8 x b n 0 L)(hx:x<10^48):qD L=GZ (x / b):=by have:=Y2 x b;refine E8 h.Yv ?_ (by omega);have he:=h.eq;rw[ae3,X8,XI]at he;exact he
theorem qs{R i j:Nat}(h:R<10000 ^ (i+j)):R / 10000 ^ i<10000 ^ j:=Xz (by rw[<-afz];exact h)
theorem Cg(R j:Nat):R / 10000 ^ j=R / 10000 ^ (j+1)*10000+R / 10000 ^ j % 10000:=by have:=QB (R / 10000 ^ j) 10000;rw[Rh,<-Xq];omega
theorem bB4{w:AV}{l:List Int}{k:Nat}(hw:ZT ZX k .nil l w)(hne:l≠[]){c:Nat}(hc:c<=l.length) :
  ∃w',(∀g,Au 1 w (some (Z_ (c:Int))) none g=.val w')/\ZT ZX k .nil (l.drop c) w':=by
 have hlt:(l.drop c).length<2^63:=by have:=hw.1;rw[Te];omega
 have h:=hw.2;unfold NJ at h
 split at h
 ·exact absurd h hne
 ·exact absurd h hne
 ·rename_i t s rows;obtain⟨h0,h1,h2⟩:=h;have a:=h2.len;have hs:s=1:=by
   rcases h1 with e|e
   ·exact e
   ·rw[e]at a;simp at a;exact absurd a hne
  subst hs;refine⟨.Zs t 1 (rows.drop c),λg=>?_,hlt,h0,.inl rfl,h2.drop c⟩;show RK (match bc (bi rows) (bi rows) none with
   |none=>none
   | some h=>match bc 0 h (some (Z_ (.ofNat c))) with
    |none=>none
    |some l=>ap (Nat.beq 1 1) (some (.Zs t 1 (iE (h - l) (gN l rows)))) none)=_
  show RK (match bc 0 (bi rows) (some (Z_ (.ofNat c))) with
    |none=>none
    |some l=>ap (Nat.beq 1 1) (some (.Zs t 1 (iE (bi rows - l) (gN l rows)))) none)=_
  have:bc 0 (bi rows) (some (Z_ (.ofNat c)))=some c:=by show ap (Nat.ble c (bi rows)) (some c) none=_;rw[aa,ZN];rw[ax,<-a];simp;omega
  rw[this];show RK (ap (Nat.beq 1 1) (some (AV.Zs t 1 (iE (bi rows - c) (gN c rows)))) none)=_;rw[show Nat.beq 1 1=true from rfl,Uf,bE,bu,U8 (by rw[Te,ax];exact ZV _)];rfl
 ·exact h.1.elim
 ·exact h.elim
theorem RL{a b:Nat}(h:a<=b):B9 a b<=0:=by unfold B9;split<;>first|omega| (split<;>omega)
theorem bB3{a b:Nat}(h:¬a<=b):¬B9 a b<=0:=by unfold B9;rw[bJ,bJ];omega
theorem bB2{m:Nat}(h:m<=10000):j3 [(m:Int)]:=λk z hz=>by
 cases k with
 |zero=>simp at hz;omega
 |succ k=>simp at hz
theorem Ja{m:Nat}(h:m<10^48):j3 (GZ m):=λk z hz=>by have:=zP m h z (YH hz);omega
theorem LF(g:G)(x:Int):Own (g.new (Z4 1 [[Z_ x]])) 0 (.ZG g.nx 0 0 1 none) 1 ([x].map ci):=.inr ⟨g.nx,0,false,Jq _,by simp,rfl,by simp[aY,ci]⟩
def Dv(v w q r:AV)(n:Nat):List (Nat×AV):=[(0,v),(1,w),(6,Z_ (n:Int)),(7,q),(8,r)]
theorem bB1[Z0]{d k i n lo hi:Nat}{v w uq rest:AV}{y R:Nat}{P:Nat->Prop}{Q:QT}{t:T}{g:G}(hd:0<d)(hw:∀h,ZT ZX k h (GZ y) w)(hy0:0<y)(hy:y*10000<10^48)(hR:R<10^48)
  (hr:ZT P 0 g.h (GZ R) rest) (hP:∀i,P i->i<g.nx) (ht:St t ((9,Z_ (i:Int))::Dv v w uq rest n)) (h13:ZY t 13=Z_ (lo:Int)) (h14:ZY t 14=Z_ (hi:Int)) (hlo:lo<=R / y) (hhi:R / y<=hi) (hh:hi<=10000)
  (fin:∀t g',Fr g g'->St t ((9,Z_ (i:Int))::Dv v w uq rest n)->ZY t 13=Z_ ((R / y:Nat):Int)->Q (.exit 4) t [] g') :
  Uk (wp C0 d none gI) Q t [] g:=by
 refine gB (λz t df g'=>df=[]/\∃lo hi:Nat,z=hi - lo/\lo<=R / y/\R / y<=hi/\hi<=10000/\Fr g g'/\St t ((9,Z_ (i:Int))::Dv v w uq rest n)/\ZY t 13=Z_ (lo:Int)/\ZY t 14=Z_ (hi:Int)) (hi - lo)
  ⟨rfl,lo,hi,rfl,hlo,hhi,hh,Fr.refl _,ht,h13,h14⟩ ?_
 rintro z t df g' ⟨rfl,lo,hi,rfl,hlo,hhi,hh,hf,⟨h9,h0,h1,j,h7,h8,-⟩,h13,h14⟩
 by_cases hlt:lo<hi
 ·have b:(lo:Int)<(hi:Int):=by omega
  obtain⟨mid,l⟩:∃mid:Nat,mid=(lo+hi+1) / 2:=⟨_,rfl⟩;have w1:IntKind.wrap .i64 ((lo:Int)+(hi:Int))=(lo:Int)+(hi:Int):=aq;have m:IntKind.wrap .i64 ((lo:Int)+(hi:Int)+1)=(lo:Int)+(hi:Int)+1:=aq;have b1:bN .quo (Z_ ((lo:Int)+(hi:Int)+1)) (Z_ 2)=.val (Z_ (mid:Int)):=by rw[AK (by omega) (by omega) (by decide)];congr 2;omega
  have p:y*mid<=y*10000:=adg _ (by omega);have c:mid<=R / y↔y*mid<=R:=by rw[adu hy0,TF]
  simp only[sz,simprocAttr,gI,h1,h13,h14,b,w1,m,b1];have ho:=LF g' (mid:Int);refine aM (yP (d:=d) (x:=y) (y:=mid) hd (hw _) (ho.sl (α:=Int) (k:=0) (P:=λ_=>True) (by simp) (Y7 (λa=>ay.2 rfl) _) λ_ _=>trivial) (by omega) (bB2 (by omega)) (by simp) (by simp[GY]) (by omega)) λr hr2=>?_;simp only[sz,simprocAttr,h8];have f:Fr g (g'.new (Z4 1 [[Z_ (mid:Int)]])):=hf.trans (Fr.new _ _);refine aM (Q:=λz=>z=Z_ (B9 (y*mid) R)) ⟨_,uv hd (hr2.sl _) (hr.far8 (h':=(g'.new (Z4 1 [[Z_ (mid:Int)]])).h) λi hi=>f.2 i (hP i hi)) (by omega) hR,rfl⟩ ?_;rintro _ rfl
  by_cases hle:y*mid<=R
  ·have hc:=RL hle;simp only[sz,simprocAttr,hc];refine⟨hi - mid,by omega,mid,hi,rfl,c.2 hle,hhi,hh,f,?_,?_,?_⟩<;>simp[St,Dv,sx,h0,h1,j,h7,h8,h9,h14]
  ·have hc:=bB3 hle;have o:IntKind.wrap .i64 ((mid:Int) - 1)=((mid - 1:Nat):Int):=by rw[aq];omega
   have:¬mid<=R / y:=λe=>hle (c.1 e);simp only[sz,simprocAttr,hc,o];refine⟨mid - 1 - lo,by omega,lo,mid - 1,rfl,hlo,by omega,by omega,f,?_,?_,?_⟩<;>simp[St,Dv,sx,h0,h1,j,h7,h8,h9,h13]
 ·have b:¬(lo:Int)<(hi:Int):=by omega
  have e:lo=R / y:=by omega
  simp only[sz,simprocAttr,gI,h13,h14,b];refine fin _ g' hf ?_ ?_
  ·simp[St,Dv,sx,h0,h1,j,h7,h8,h9]
  ·simp[sx,h13,e]
theorem bB0[Z0]{d k i n:Nat}{v w uq rest:AV}{y R m:Nat}{P:Nat->Prop}{Q:QT}{t:T}{g:G}(hw:∀h,ZT ZX k h (GZ y) w)(hm:m=n - 1)(hn:n+1=(GZ y).length)(hy:y<10^48)(hR:R<10^48)(hRy:R<10000*y)
  (hr:ZT P 0 g.h (GZ R) rest) (ht:St t ((9,Z_ (i:Int))::Dv v w uq rest n)) (h10:ZY t 10=Z_ 0) (h11:ZY t 11=Z_ 0) (h12:ZY t 12=Z_ ((n:Int)+1))
  (fin:∀t,St t ((9,Z_ (i:Int))::Dv v w uq rest n)->ZY t 10=Z_ ((y / 10000 ^ m:Nat):Int)->ZY t 11=Z_ ((R / 10000 ^ m:Nat):Int)->Q (.exit 2) t [] g) :
  Uk (wp C0 d none eE) Q t [] g:=by
 have L:=iG y;have yb:y<10000 ^ (n+1):=by rw[hn];exact AZ hy
 have rb2:R<10000 ^ (n+2):=by rw[Rh];omega
 have r:=hr.len;have A:=hr.ints;have N:=λg=>(hw .nil).len g;have B:∀h,ak h 1 w=some ((GZ y).map ci):=λh=>(hw h).ints;have lr:=iG R;refine gB (λz t df g'=>df=[]/\g'=g/\∃j:Nat,z=j/\m<=j/\j<=n+2/\St t ((9,Z_ (i:Int))::Dv v w uq rest n)/\ZY t 10=Z_ ((y / 10000 ^ j:Nat):Int)/\ZY t 11=Z_ ((R / 10000 ^ j:Nat):Int)/\ZY t 12=Z_ ((j:Int) - 1)) (n+2)
  ⟨rfl,rfl,n+2,rfl,by omega,by omega,ht,?_,?_,?_⟩ ?_
 ·rw[h10,VW (Vd yb (Wl (by decide) (by omega)))];rfl
 ·rw[h11,VW rb2];rfl
 ·rw[h12];congr 1;omega
 rintro j t df g' ⟨rfl,rfl,_,rfl,M,K,⟨h9,h0,h1,c,h7,h8,-⟩,h10,h11,h12⟩;have w1:IntKind.wrap .i64 ((n:Int) - 1)=(n:Int) - 1:=aq;have C:max 0 ((n:Int) - 1)=(m:Int):=by omega
 by_cases hj:m<j
 ·have l:(m:Int)<=(j:Int) - 1:=by omega
  obtain⟨k,rfl⟩:∃k,j=k+1:=⟨j - 1,by omega⟩;have ek:((k+1:Nat):Int) - 1=(k:Int):=by omega
  rw[ek]at h12 l;have f1:R / 10000 ^ (k+1)<10000 ^ 2:=Vd (qs (i:=k+1) (j:=n+2 - (k+1)) (by rw[show k+1+(n+2 - (k+1))=n+2 by omega];exact rb2)) (Wl (by decide) (by omega));have f2:y / 10000 ^ (k+1)<10000 ^ 2:=Vd (qs (i:=k+1) (j:=n+2 - (k+1)) (by rw[show k+1+(n+2 - (k+1))=n+2 by omega];exact Vd yb (Wl (by decide) (by omega)))) (Wl (by decide) (by omega));have D:=Cg R k;have O:=Cg y k;have g1:=zO k R hR;have g2:=zO k y hy;have l1:=US (R / 10000 ^ k) (show 0<10000 by decide);have l2:=US (y / 10000 ^ k) (show 0<10000 by decide);have p2:10000 ^ 2=100000000:=rfl;rw[p2]at f1 f2;generalize R / 10000 ^ (k+1)=F at *;generalize y / 10000 ^ (k+1)=U at *;generalize R / 10000 ^ k % 10000=a at *;generalize y / 10000 ^ k % 10000=b at *;have E:IntKind.wrap .i64 ((F:Int)*10000)=((F*10000:Nat):Int):=by rw[aq];omega
  have tail:∀t,St t ((9,Z_ (i:Int))::Dv v w uq rest n)->ZY t 10=Z_ (U:Int)->ZY t 11=Z_ ((R / 10000 ^ k:Nat):Int)->ZY t 12=Z_ (k:Int) ->
    wp C0 d none gJ (λe t df g2=>e=.norm/\df=[]/\g2=g'/\St t ((9,Z_ (i:Int))::Dv v w uq rest n)/\ZY t 10=Z_ ((y / 10000 ^ k:Nat):Int)/\ZY t 11=Z_ ((R / 10000 ^ k:Nat):Int)/\ZY t 12=Z_ (k:Int)) t [] g':=by
   rintro t ⟨h9,h0,h1,c,h7,h8,-⟩ h10 h11 h12
   by_cases hk:k<=n
   ·have f:(k:Int)<=(n:Int):=by omega
    have o:k<(GZ y).length:=by omega
    obtain⟨q,hq,-,-⟩:=ah o;have q1:k<((GZ y).map ci).length:=by simpa using o
    have q2:((GZ y).map ci)[k]?=some (ci q):=by rw[Zy,hq];rfl
    rw[hq,Ns]at g2;subst g2;have s:IntKind.wrap .i64 ((U:Int)*10000)=((U*10000:Nat):Int):=by rw[aq];omega
    have V:IntKind.wrap .i64 (((U*10000:Nat):Int)+(b:Int))=((y / 10000 ^ k:Nat):Int):=by rw[O,aq];omega
    simp only[sz,simprocAttr,gJ,h1,c,h10,h11,h12,f,B,q1,q2,ci,s,V];simp[St,Dv,sx,h0,h1,c,h7,h8,h9]
   ·have f:¬(k:Int)<=(n:Int):=by omega
    have J:b=0:=by rw[VV (by omega),XH]at g2;omega
    have H:y / 10000 ^ k=0:=VW (Vd yb (Wl (by decide) (by omega)));have u:U=0:=by omega
    simp only[sz,simprocAttr,gJ,c,h10,h11,h12,f];simp[St,Dv,sx,h0,h1,c,h7,h8,h9,H,u]
  have x:=A
  by_cases hk:k<(GZ R).length
  ·have f:(k:Int)<((GZ R).length:Int):=by omega
   obtain⟨p,hp,-,-⟩:=ah hk;have q1:k<((GZ R).map ci).length:=by simpa using hk
   have q2:((GZ R).map ci)[k]?=some (ci p):=by rw[Zy,hp];rfl
   rw[hp,Ns]at g1;subst g1;have s:IntKind.wrap .i64 (((F*10000:Nat):Int)+(a:Int))=((R / 10000 ^ k:Nat):Int):=by rw[D,aq];omega
   simp only[sz,simprocAttr,eE,c,h8,h11,h12,w1,C,l,E,r,f,x,q1,q2,ci,s];refine ch _ (tail _ (by simp[St,Dv,sx,h0,h1,c,h7,h8,h9]) (by simp[sx,h10]) (by simp[sx]) (by simp[sx,h12])) ?_;rintro e t df g2 ⟨rfl,rfl,rfl,⟨h9,h0,h1,c,h7,h8,-⟩,h10,h11,h12⟩;have w5:IntKind.wrap .i64 ((k:Int) - 1)=(k:Int) - 1:=aq;simp only[sz,simprocAttr,kY,h12,w5];refine⟨k,by omega,k,rfl,by omega,by omega,?_,?_,?_,?_⟩<;>simp[St,Dv,sx,h0,h1,c,h7,h8,h9,h10,h11]
  ·have f:¬(k:Int)<((GZ R).length:Int):=by omega
   have I:a=0:=by rw[VV (by omega),XH]at g1;omega
   have s:((F*10000:Nat):Int)=((R / 10000 ^ k:Nat):Int):=by rw[D];omega
   simp only[sz,simprocAttr,eE,c,h8,h11,h12,w1,C,l,E,r,f];refine ch _ (tail _ (by simp[St,Dv,sx,h0,h1,c,h7,h8,h9]) (by simp[sx,h10]) (by simp[sx,s]) (by simp[sx,h12])) ?_;rintro e t df g2 ⟨rfl,rfl,rfl,⟨h9,h0,h1,c,h7,h8,-⟩,h10,h11,h12⟩;have w5:IntKind.wrap .i64 ((k:Int) - 1)=(k:Int) - 1:=aq;simp only[sz,simprocAttr,kY,h12,w5];refine⟨k,by omega,k,rfl,by omega,by omega,?_,?_,?_,?_⟩<;>simp[St,Dv,sx,h0,h1,c,h7,h8,h9,h10,h11]
 ·have l:¬(m:Int)<=(j:Int) - 1:=by omega
  have e:j=m:=by omega
  subst e;simp only[sz,simprocAttr,eE,c,h12,w1,C,l];refine fin _ ?_ ?_ ?_
  ·simp[St,Dv,sx,h0,h1,c,h7,h8,h9]
  ·simp[sx,h10]
  ·simp[sx,h11]
theorem ZT.wd{α:Type} [Rp α]{P P':Nat->Prop}{k:Nat}{h h':H}{l:List α}{v:AV}(r:ZT P k h l v)(hf:∀i,P i->P' i/\h'.get i=h.get i):ZT P' k h' l v:=by obtain⟨w,hw,q⟩:=Rp.mono (k':=k) (P':=P') (h':=h') (show Rp.rp P k h l [v] from ⟨v,rfl,r⟩) hf (ZV _);injection hw with hw;subst hw;exact q
theorem LE(g:G){b:Nat}(hb:b<=g.nx):Own (g.new (Z4 1 [])) b (.ZG g.nx 0 0 0 none) 1 []:=.inr ⟨g.nx,0,false,hb,by simp,rfl,by simp[aY]⟩
def DvJ(v w q:AV)(n x y N:Nat)(i:Nat):PT:=λt df g=>df=[]/\St t [(0,v),(1,w),(6,Z_ (n:Int)),(7,q)]/\∃rest L,ZY t 8=rest/\Own g 0 q 1 (L.map ci)/\j8 x y N i L/\ZT (λj=>j<g.nx/\Zi q≠some j) 0 g.h (GZ (x / 10000 ^ i % y)) rest
theorem bA_[Z0]{d k i n N:Nat}{v w uq rest:AV}{x y R:Nat}{P:Nat->Prop}{Q:QT}{t:T}{g:G}{L:List Int}(hd:0<d)(hw:∀h,ZT ZX k h (GZ y) w)(hy0:0<y)(hy:y*10000<10^48)(hR:R<10000*y)
  (hr:ZT P 0 g.h (GZ R) rest) (hP:∀j,P j->j<g.nx/\Zi uq≠some j) (hu:Own g 0 uq 1 (L.map ci)) (hq:j8 x y N (i+1) L) (hi:i<N) (hRx:R=10000*(x / 10000 ^ (i+1) % y)+x / 10000 ^ i % 10000)
  (ht:St t ((9,Z_ (i:Int))::Dv v w uq rest n)) (h13:ZY t 13=Z_ ((R / y:Nat):Int))
  (fin:∀t g,DvJ v w uq n x y N i t [] g->ZY t 9=Z_ (i:Int)->Q .norm t [] g) :
  wp C0 d none kZ Q t [] g:=by
 obtain⟨h9,h0,h1,r,h7,h8,-⟩:=ht;have c:i<L.length:=by rw[hq.len];exact hi
 have m:=bB6 (q:=R / y) hq hy0 hi (by rw[hRx]);have ql:R / y<10000:=Xz (by rw[TF];exact hR);have f:y*(R / y)<=R:=Nat.mul_div_le R y;have e:R - y*(R / y)=x / 10000 ^ i % y:=by rw[bB8,<-hRx];have:=QB R y;omega
 obtain⟨p,hp,-,-⟩:=ah c;have q1:i<(L.map ci).length:=by simpa using c
 have q2:(L.map ci)[i]?=some (ci p):=by rw[Zy,hp];rfl
 have ur:=hu.rows;simp only[sz,simprocAttr,kZ,h7,h9,h13,ur,q1];refine bZ (v:=uq) (sz:=1) (n:=1) (i:=i) (off:=0) (x:=Z_ ((R / y:Nat):Int)) (row':=ci ((R / y:Nat):Int)) hu q2 rfl rfl rfl λg4 hu4 n4 f4=>?_;rw[uQ]at hu4;simp only[sz,simprocAttr,h1,h8,h13];refine E9 (l:=[((R / y:Nat):Int)]) (LF g4 _) (by simp) λv5 hv5=>?_;rw[E8 (n:=R / y) (by intro z hz;rw[Wa.1 hz];exact⟨Ws _,Int.ofNat_lt.2 ql⟩) (by simp[GY]) (by omega)]at hv5;simp only[sz,simprocAttr];refine aM (yP (d:=d) (x:=y) (y:=R / y) hd (hw _) hv5 (by omega) (Ja (by omega)) (by have:=iG (R / y);omega) (oR _ (by omega)) (by omega)) λr6 hr6=>?_;simp only[sz,simprocAttr];have o:ZT (λ_=>True) 0 (g4.new (Z4 1 [[Z_ ((R / y:Nat):Int)]])).h (GZ R) rest:=hr.wd λj hj=>⟨trivial,by obtain⟨a,b⟩:=hP j hj;rw[G.new_h,aF,f4 j b]⟩
 refine aM (bC7 (d:=d) (x:=R) (y:=y*(R / y)) hd o (hr6.sl _) (by omega) f) λr8 hr8=>?_;rw[e]at hr8;simp only[sz,simprocAttr];refine fin _ _ ⟨rfl,?_,r8,_,?_,hu4.step (Fr.new _ _),m,(hr8.sl .nil).wd λ_ h=>h.elim⟩ ?_
 ·simp[St,sx,h0,h1,r,h7]
 ·simp[sx]
 ·simp[sx,h9]
theorem As[Z0]{d k k2:Nat}{g:G}{P P2:Nat->Prop}{v w:AV}{x y:Nat}(hd:0<d)(hv:ZT P k g.h (GZ x) v)(hw:ZT P2 k2 g.h (GZ y) w)(hx:x<10^48)(hy0:0<y)(hy:y*10000<10^48) :
  ∃r,ae C0 d 138 [v,w] g=.val r/\mQ (One (GZ (x / y))) (One (GZ (x % y))) ZX 0 .nil r:=by
 obtain⟨v',e1,r1⟩:=aZ hv d;obtain⟨w',e2,O⟩:=aZ hw d;rw[Zn];have he:=iG x;have hf:=iG y;have hg:=Oc (n:=y) (by omega) (by omega);refine aI Dt (xs:=[v',w']) (by simp only[aD,e1,e2]) (by simp[kX]) (bM (m:=1) (aE _) (aE _) (by decide) (by decide)) (by decide) hd ?_;have n1:=λg=>(r1 .nil).len g;have n2:=λg=>(O .nil).len g;have ra:∀h',ak h' 1 v'=some ((GZ x).map ci):=λh'=>(r1 h').ints;obtain⟨n,Z⟩:∃n,n+1=(GZ y).length:=⟨(GZ y).length - 1,by omega⟩;have w1:IntKind.wrap .i64 (((GZ y).length:Int) - 1)=(n:Int):=by rw[aq];omega
 have ybx:10000 ^ n<=y:=by have:=WJ (n:=y) (by omega) (by omega);rw[<-Z]at this;exact this
 by_cases hle:(GZ x).length<=n
 ·have l:((GZ x).length:Int)<=(n:Int):=by omega
  have hlt:x<y:=Vd (Vd (AZ hx) (Wl (by decide) hle)) ybx;simp only[sz,simprocAttr,kX,n1,n2,w1,l];refine aP (b:=0) (new:=(GZ x).map ci) (LE _ (Jq _)) (ra _) (Jq _) (by simp[aQ];omega) λv2 g2 f n2 f2 _ l2=>?_;simp only[sz,simprocAttr];refine⟨λ_=>True,.Z6,v2,rfl,?_,?_⟩
  ·rw[VW hlt];exact⟨.Z6,rfl,by show 0<2^63;decide,rfl⟩
  ·rw[adJ hlt];exact Own.ints (by simpa using f) (by omega)
 ·have l:¬((GZ x).length:Int)<=(n:Int):=by omega
  obtain⟨N,hN⟩:∃N,N+n=(GZ x).length:=⟨(GZ x).length - n,by omega⟩;have w2:IntKind.wrap .i64 (((GZ x).length:Int) - (n:Int))=(N:Int):=by rw[aq];omega
  obtain⟨w3,hs,M⟩:=bB4 (c:=N) (r1 .nil) (by intro e;rw[e]at hN hle;simp at hN hle) (by omega);rw[Oa N x hx]at M;have W:x / 10000 ^ N<10000 ^ n:=qs (by rw[hN];exact AZ hx);have D:x / 10000 ^ N<y:=Vd W ybx;simp only[sz,simprocAttr,kX,n1,n2,w1,l,w2];refine rf (b:=0) (n:=N) (by simp[aQ];omega) (by simp[aQ];omega) (Jq _) λuq g1 hu hn1 hf1 hvid=>?_;have hu:Own g1 0 uq 1 ((List.replicate N (0:Int)).map ci):=by simpa [ci] using hu
  simp only[sz,simprocAttr,n1,w2,Ym,Ur,hs];have hb:=iG (x / 10000 ^ N);refine aP (b:=g1.nx) (new:=(GZ (x / 10000 ^ N)).map ci) (LE _ (ZV _)) (M.tree (ZV _)).ints (by simp) (by simp[aQ];omega) λv4 g4 o n4 f4 _ l4=>?_;have o:Own g4 g1.nx v4 1 ((GZ (x / 10000 ^ N)).map ci):=by simpa using o
  have I:Fr g1 g4:=⟨by simp at n4;omega,λi hi=>by rw[f4 i (by simp;omega) (by intro e;injection e with e;omega),G.new_h,aF]⟩;have K:=hu.step I;have Y:gz .slice uq g4=.val (Z_ (N:Int)):=by rw[dq K.rows];simp
  have w4:IntKind.wrap .i64 ((N:Int) - 1)=(N:Int) - 1:=aq;simp only[sz,simprocAttr,Y,w4,qP,qR];refine uf (m:=N) (by omega) (DvJ v' w' uq n x y N) ⟨rfl,by simp[St,sx],v4,_,by simp[sx],K,bB7 D,?_⟩ (by simp[sx]) (by decide) (by rintro j t df g v s (rfl|rfl|rfl|rfl|rfl)<;>simp[DvJ,St,sx]) ?_ ?_
  ·rw[adJ D];exact o.sl (by omega) (Y7 (λa=>ay.2 rfl) _) λi hi=>⟨(o.lt hi).2,λe=>by have:=(hu.lt e).2;have:=(o.lt hi).1;omega⟩
  ·rintro i t df g hi ⟨rfl,⟨h0,h1,C,h7,-⟩,rest,L,h8,hu,hq,hr⟩ h9;have J:i<(GZ x).length:=by omega
   obtain⟨p,hp,-,-⟩:=ah J;have q1:i<((GZ x).map ci).length:=by simpa using J
   have q2:((GZ x).map ci)[i]?=some (ci p):=by rw[Zy,hp];rfl
   have gp:=zO i x hx;rw[hp,Ns]at gp;have ha:=US (x / 10000 ^ i) (show 0<10000 by decide);have h2:=US (x / 10000 ^ (i+1)) hy0;obtain⟨R,hR⟩:∃R,R=10000*(x / 10000 ^ (i+1) % y)+x / 10000 ^ i % 10000:=⟨_,rfl⟩;have u:R<10000*y:=by rw[hR];exact bC3 h2 ha
   have hc:=iG (x / 10000 ^ (i+1) % y);have H:qD (p::GZ (x / 10000 ^ (i+1) % y))=GZ R:=by
    refine E8 (λz hz=>?_) ?_ (by omega)
    ·rcases Y0.1 hz with rfl|hz
     ·omega
     ·exact zP _ (by omega) z hz
    ·rw[GY,oR _ (by omega),gp,hR];omega
   have w5:IntKind.wrap .i64 ((n:Int)+1)=(n:Int)+1:=aq;simp only[sz,simprocAttr,h0,h8,h9,ra,q1,q2,ci];refine aP (b:=g.nx) (rows:=[p].map ci) (new:=(GZ (x / 10000 ^ (i+1) % y)).map ci) (VQ (ZV _) _) (hr.far8 λj hj=>by rw[G.new_h,aF]).ints (by simp) (by simp[aQ];omega) λv2 g2 f n2 f2 _ l2=>?_;have f:Own g2 g.nx v2 1 ((p::GZ (x / 10000 ^ (i+1) % y)).map ci):=by simpa using f
   have X:Fr g g2:=⟨by simp at n2;omega,λi hi=>by rw[f2 i (by simp;omega) (by intro e;injection e with e;omega),G.new_h,aF]⟩;simp only[sz,simprocAttr];refine E9 f (by simp;omega) λv3 hv3=>?_;rw[H]at hv3;simp only[sz,simprocAttr,C,w5];have q:∀j,Zi v2=some j->j<g2.nx/\Zi uq≠some j:=λj hj=>⟨(f.lt hj).2,λe=>by have:=(hu.lt e).2;have:=(f.lt hj).1;omega⟩;obtain⟨m,hm⟩:∃m,m=n - 1:=⟨_,rfl⟩;refine bB0 (i:=i) (n:=n) (v:=v') (uq:=uq) (rest:=v3) (m:=m) (R:=R) (k:=max k2 d) O hm Z (by omega) (by omega) u hv3 (by simp[St,Dv,sx,h0,h1,C,h7,h9]) (by simp[sx]) (by simp[sx]) (by simp[sx]) ?_;rintro t ⟨h9,h0,h1,C,h7,h8,-⟩ Q T;have E:0<10000 ^ m:=Nat.pow_pos (by decide);have B:0<y / 10000 ^ m:=Nat.div_pos (Y1 (Wl (by decide) (by omega)) ybx) E;have h4:10000 ^ m=1\/10000<=y / 10000 ^ m:=by
    by_cases h:m=0
    ·left;rw[h]
    ·right;refine (adu E).2 (Y1 (Nat.le_of_eq ?_) ybx);rw[show n=m+1 by omega,Rh,TF]
   have d1:=bC2 (R:=R) (b:=y) hy0 E;have d2:=bC1 (R:=R) E B;have d3:=bC0 E u B h4;have t1:y / 10000 ^ m<10000 ^ 2:=qs (Vd (AZ (n:=y) (by omega)) (Wl (by decide) (by omega)));have t2:R / 10000 ^ m<10000 ^ 3:=qs (by have:=AZ (n:=y) (by omega);rw[<-Z]at this;refine Vd (m:=10000 ^ (n+2)) ?_ (Wl (by decide) (by omega));rw[Rh];omega)
   generalize y / 10000 ^ m=U at *;generalize R / 10000 ^ m=F at *;have p2:10000 ^ 2=100000000:=rfl;have p3:10000 ^ 3=1000000000000:=rfl;rw[p2]at t1;rw[p3]at t2;have w6:IntKind.wrap .i64 ((U:Int)+1)=((U+1:Nat):Int):=by rw[aq];omega
   have b1:=Bu (x:=F) (y:=U+1) (by omega) (by omega);have b2:=Bu (x:=F) (y:=U) (by omega) B;simp only[sz,simprocAttr,qQ,Q,T,w6,b1,b2];refine bB1 (d:=d+1) (i:=i) (n:=n) (v:=v') (w:=w') (uq:=uq) (rest:=v3) (y:=y) (R:=R) (k:=max k2 d) (lo:=F / (U+1)) (hi:=F / U) (abc d) O hy0 hy (by omega) hv3 (λj hj=>(q j hj).1) (by simp[St,Dv,sx,h0,h1,C,h7,h8,h9]) (by simp[sx]) (by simp[sx]) d1 d2 d3 ?_;rintro t g3 A h3 V;simp only[sx,↓reduceIte];refine bA_ (d:=d+1) (k:=max k2 d) (P:=λj=>Zi v2=some j) (N:=N) (x:=x) (abc d) O hy0 hy u (hv3.far8 λj hj=>A.2 j (q j hj).1) (λj hj=>⟨Vd (q j hj).1 A.1,(q j hj).2⟩) (hu.step (X.trans A)) hq hi hR h3 V ?_;rintro t g hJ h9;exact⟨hJ,h9⟩
  ·rintro t df g ⟨rfl,⟨h0,h1,C,h7,-⟩,rest,L,h8,hu,hq,hr⟩;have h5:=hq.len;simp only[sz,simprocAttr,qS,h7];refine E9 hu (by omega) λv9 hv9=>?_;rw[bB5 hq hx]at hv9;rw[ae3,X8]at hr;simp only[sz,simprocAttr,h8];exact⟨λ_=>True,v9,rest,rfl,⟨v9,rfl,hv9.wd λ_ _=>⟨trivial,rfl⟩⟩,⟨rest,rfl,hr.wd λ_ _=>⟨trivial,rfl⟩⟩⟩
theorem Pa[Z0]{d:Nat}{g:G}{v w:AV}{x y:Nat}(hd:0<d)(hv:IT 0 (GZ x) v)(hw:IT 0 (GZ y) w)(hx:x*10000<10^48)(hy:y*10000<10^48) :
  ∃r,ae C0 d 113 [v,w] g=.val r/\IT 0 (GZ (Nat.gcd x y)) r:=by
 rw[Zn];refine aI Jk (xs:=[v,w]) (by simp only[aD,oZ d (hv.sl g.h),oZ d (hw.sl g.h)]) (by simp[xq]) (aE _) (by decide) hd ?_;simp only[sz,simprocAttr,xq];refine gB (λn t df g=>df=[]/\∃(a b:Nat) (va vb:AV),n=b/\a*10000<10^48/\b*10000<10^48/\Nat.gcd a b=Nat.gcd x y/\ZY t 0=va/\ZY t 1=vb/\IT 0 (GZ a) va/\IT 0 (GZ b) vb) y
  ⟨rfl,x,y,v,w,rfl,hx,hy,rfl,by simp[sx],by simp[sx],hv,hw⟩ ?_
 rintro b t df g ⟨rfl,a,_,va,vb,rfl,ha,hb,hg,h0,h1,c,k⟩;have hl:=k.len
 by_cases hb0:b=0
 ·subst hb0;have q0:¬((0:Int)<((GZ 0).length:Int)):=by rw[oQ];simp
  rw[afq]at hg;subst hg;simp only[sz,simprocAttr,pQ,xr,h0,h1,hl,q0];exact⟨λ_=>True,va,rfl,(c.sl g.h).wd λ_ h=>h.elim⟩
 ·have q0:(0:Int)<((GZ b).length:Int):=by have:=Oc (n:=b) hb0 (by omega);omega
  simp only[sz,simprocAttr,pQ,h0,h1,hl,q0];refine aM (As (d:=d+1) (abc d) (c.sl g.h) (k.sl g.h) (by omega) (aeI hb0) hb) ?_;rintro _ ⟨i,e,rfl,f,h4⟩;have hlt:=US a (aeI hb0);simp only[sz,simprocAttr,h1];refine⟨a % b,hlt,b,a % b,vb,e,rfl,hb,Nb (abs _ (Nat.le_of_lt hlt)) hb,?_,?_,?_,k,h4⟩
  ·rw[<-hg,ae1 a b,ae1 b (a % b),<-Nat.gcd_rec]
  ·simp[sx]
  ·simp[sx]
theorem IB[Z0]{d k:Nat}{g:G}{P:Nat->Prop}{v:AV}{x:Nat}(hd:0<d)(hv:ZT P k g.h (GZ x) v)(hx:x<=4611686018427387903) :
  ae C0 d 170 [v] g=.val (.Zz [Z_ (x:Int),.bool true]):=by
 have key:∃r,ae C0 d 170 [v] g=.val r/\mQ (One (x:Int)) (One true) ZX 0 .nil r:=by
  obtain⟨v',e1,l⟩:=aZ hv d;rw[Zn];refine aI Fn (xs:=[v']) (by simp only[aD,e1]) (by simp[rV]) (bM (m:=1) (aE _) (aE _) (by decide) (by decide)) (by decide) hd ?_;have n1:=λg=>(l .nil).len g;have ra:∀h',ak h' 1 v'=some ((GZ x).map ci):=λh'=>(l h').ints;have q:=iG x;have w1:IntKind.wrap .i64 (((GZ x).length:Int) - 1)=((GZ x).length:Int) - 1:=aq;simp only[sz,simprocAttr,rV];obtain⟨M,y⟩:∃M:Nat,M=4611686018427387903:=⟨_,rfl⟩;have f:(M:Int)=4611686018427387903:=by omega
  have e:=λg=>jD (d:=d+1) (g:=g) (n:=M) (abc d) (by omega);rw[f]at e;refine aM (e _) λr hr=>?_;have hc:∀g,ae C0 (d+1) 112 [v',r] g=.val (Z_ (B9 x M)):=λg=>uv (abc d) (l g.h) (hr.sl g.h) (by omega) (by omega);have i:¬(0<B9 x M):=by have:=RL (a:=x) (b:=M) (by omega);omega
  simp only[sz,simprocAttr,hc,i,n1,w1,tu];refine uf (m:=(GZ x).length) (by omega) (λj t df g=>df=[]/\St t [(0,v')]/\ZY t 4=Z_ ((x / 10000 ^ j:Nat):Int)) ⟨rfl,by simp[St,sx],?_⟩ (by simp[sx]) (by decide) (by rintro j t df g v s (rfl|rfl|rfl|rfl|rfl)<;>simp[St,sx]) ?_ ?_
  ·rw[VW (AZ (by omega))];simp[sx]
  ·rintro j t df g o ⟨rfl,⟨h0,-⟩,h4⟩ h5;obtain⟨p,hp,-,-⟩:=ah o;have ep:=zO j x (by omega);rw[hp,Ns]at ep;have q1:j<((GZ x).map ci).length:=by simpa using o
   have q2:((GZ x).map ci)[j]?=some (ci p):=by rw[Zy,hp];rfl
   have hs:=Cg x j;have hl:=Y2 x (10000 ^ j);generalize x / 10000 ^ (j+1)=F at *;generalize x / 10000 ^ j % 10000=a at *;subst ep;have u:IntKind.wrap .i64 (10000*(F:Int))=((10000*F:Nat):Int):=by rw[aq];omega
   have w:IntKind.wrap .i64 (((10000*F:Nat):Int)+(a:Int))=((x / 10000 ^ j:Nat):Int):=by rw[hs,aq];omega
   simp only[sz,simprocAttr,h0,h4,h5,ra,q1,q2,ci,u,w];simp[St,sx,h0]
  ·rintro t df g ⟨rfl,⟨h0,-⟩,h4⟩;rw[ae3,X8]at h4;simp only[sz,simprocAttr,tv,h4];exact⟨λ_=>True,_,_,rfl,ay.2 rfl,cE.2 rfl⟩
 obtain⟨z,h1,a,b,rfl,h2,c⟩:=key;have h2:=ay.1 h2;have c:=cE.1 c;injection h2 with h2;injection c with c;rw[h1,h2,c]
theorem bA9{x y:Nat}(hy:0<y):0<Nat.gcd x y/\Nat.gcd x y<=y/\x / Nat.gcd x y<=x/\y / Nat.gcd x y<=y :=⟨ad0 x hy,Nat.le_of_dvd hy (aeO x y),Y2 _ _,Y2 _ _⟩
theorem bA8[Z0]{d:Nat}{g:G}{v w:AV}{x y:Nat}(hd:0<d)(hv:IT 0 (GZ x) v)(hw:IT 0 (GZ y) w)(hx:x<=4611686018427387903)(hy0:0<y)(hy:y<=4611686018427387903) :
  ae C0 d 159 [.bool false,v,w] g=.val (.Zz [.agg [Z_ (Cb x y).1,Z_ (Cb x y).2],.bool true]):=by
 have key:∃r,ae C0 d 159 [.bool false,v,w] g=.val r/\mQ (Zl (Cb x y)) (One true) ZX 0 .nil r:=by obtain⟨g0,g1,g2,g3⟩:=bA9 (x:=x) hy0;rw[Zn];refine aI Hf (xs:=[.bool false,v,w]) (by simp only[aD,Rs 0,oZ d (hv.sl g.h),oZ d (hw.sl g.h)]) (by simp[uE]) (bM (m:=2) (cH _) (aE _) (by decide) (by decide)) (by decide) hd ?_;simp only[sz,simprocAttr,uE,xu];refine aM (Pa (abc d) hv hw (by omega) (by omega)) λr hr=>?_;simp only[sz,simprocAttr];refine aM (As (abc d) (hv.sl _) (hr.sl _) (by omega) g0 (by omega)) ?_;rintro _ ⟨f,j,rfl,⟨_,k,h4⟩,-⟩;injection k with k;subst k;simp only[sz,simprocAttr];refine aM (As (abc d) (hw.sl _) (hr.sl _) (by omega) g0 (by omega)) ?_;rintro _ ⟨i,l,rfl,⟨_,h5,e⟩,-⟩;injection h5 with h5;subst h5;have e1:∀g,ae C0 (d+1) 170 [f] g=.val (.Zz [Z_ ((x / Nat.gcd x y:Nat):Int),.bool true]):=λg=>IB (abc d) (h4.tree (h':=g.h) (ZV _)) (by omega);have c:∀g,ae C0 (d+1) 170 [i] g=.val (.Zz [Z_ ((y / Nat.gcd x y:Nat):Int),.bool true]):=λg=>IB (abc d) (e.tree (h':=g.h) (ZV _)) (by omega);simp only[sz,simprocAttr,e1,c,vH];exact⟨λ_=>True,_,_,rfl,vp.2 rfl,cE.2 rfl⟩
 obtain⟨z,h1,a,b,rfl,h2,k⟩:=key;have k:=cE.1 k;injection k with k;rw[h1,vp.1 h2,k]
theorem bA7[Z0]{d:Nat}{g:G}{x y:Nat}(hd:0<d)(hx:x<=4611686018427387903)(hy0:0<y)(hy:y<=4611686018427387903) :
  ae C0 d 117 [Z_ (x:Int),Z_ (y:Int)] g=.val (.agg [Z_ (Cb x y).1,Z_ (Cb x y).2]):=by
 have mk:∀(d:Nat) (g:G),0<d->ae C0 d 140 [Z_ (x:Int),Z_ (y:Int)] g=.val (.Zz [.agg [Z_ (Cb x y).1,Z_ (Cb x y).2],.bool true]):=λd g hd=>by
  have key:∃r,ae C0 d 140 [Z_ (x:Int),Z_ (y:Int)] g=.val r/\mQ (Zl (Cb x y)) (One true) ZX 0 .nil r:=by
   rw[Zn];refine aI He (xs:=[Z_ (x:Int),Z_ (y:Int)]) (by simp only[aD,aU 0]) (by simp[uD]) (bM (m:=2) (cH _) (aE _) (by decide) (by decide)) (by decide) hd ?_;have q1:¬((x:Int)<0):=by omega
   have q2:¬((y:Int)<0):=by omega
   have qe:uz true VR.bool (AV.bool false) (AV.bool false)=.val (.bool false):=rfl;simp only[sz,simprocAttr,uD,xl,q1,q2,qe];refine aM (jD (abc d) (by omega)) λr hr=>?_;simp only[sz,simprocAttr];refine aM (jD (abc d) (by omega)) λr2 hr2=>?_;have e1:∀g,ae C0 (d+1) 159 [.bool false,r,r2] g=.val (.Zz [.agg [Z_ (Cb x y).1,Z_ (Cb x y).2],.bool true]):=λg=>bA8 (abc d) hr hr2 hx hy0 hy;simp only[sz,simprocAttr,e1];exact⟨λ_=>True,_,_,rfl,vp.2 rfl,cE.2 rfl⟩
  obtain⟨z,h1,a,b,rfl,h2,h⟩:=key;have h:=cE.1 h;injection h with h;rw[h1,vp.1 h2,h]
 have key:∃r,ae C0 d 117 [Z_ (x:Int),Z_ (y:Int)] g=.val r/\Zl (Cb x y) ZX 0 .nil r:=by rw[Zn];refine aI KN (xs:=[Z_ (x:Int),Z_ (y:Int)]) (by simp only[aD,aU 0]) (by simp[Ad]) (cH _) (by decide) hd ?_;have e1:=λg=>mk (d+1) g (abc d);simp only[sz,simprocAttr,Ad,Bd,e1];exact⟨λ_=>True,vp.2 rfl⟩
 obtain⟨z,h1,h2⟩:=key;rw[h1,vp.1 h2]
abbrev P3:Nat->Prop:=λi=>3<=i
structure HS (m:jm) (c1 c2 la lb lc:AV) (p q:Nat) (gb g:G):Prop where
 fr:Fr gb g
 mp:g.h.get p=Z4 3 [[Z_ m.Z8,c1,c2]]
 ml:g.h.get q=Z4 3 [[la,lb,lc]]
 pn:p<gb.nx
 q0:gb.nx<=q
 qn:q<g.nx
section
variable {m:jm}{c1 c2 la lb lc w c28 vi c90 vj:AV}{A B Z:List Int}{p q:Nat}
end
end
end Hx
end
end
namespace Hx
open Go
noncomputable section
variable {n:Zv}{Z2 l:List Int}{i x:Nat}{k:Int}
section
variable {p:List Nat}
theorem Ig:PA p 0:=⟨λv _ hb=>by simp at hb,λv _ hb=>by simp at hb⟩
theorem K7{q:Nat}(ih:PA p q){j:Nat}(hj:j<64)(hd:Wb (XQ p j) q):PA p (q ||| B7 j):=by
 refine⟨λv hv hb=>?_,λv hv hb=>?_⟩
 ·intro u hu;rw[x_,EG hj,T6,RY]at hb;rw[x_,T6];rcases hb with hb|hb
  ·exact .inl (ih.1 v hv hb u hu)
  ·subst hb;exact .inl (hd u hu)
 ·rw[x_,EG hj,T6,RY]at hb;cases hq:q.testBit v
  ·rw[hq]at hb;simp at hb;subst hb;rw[<-HF];intro hu;have:=NS ih.1 hd p.length j hu;rw[hq]at this;cases this
  ·exact ih.2 v hv hq
theorem AE{q:Nat}(h:PA p q)(hf:∀v,v<p.length->q.testBit v=true):AP p=true :=AD.2 λv hv=>h.2 v hv (hf v hv)
theorem bA6(hp:∀x∈p,x<2 ^ p.length)(h:AP p=true){T:Nat}(hst:∀v,v<p.length->T.testBit v=false->¬Wb (XQ p v) T):∀v,v<p.length->T.testBit v=true:=by
 rw[AD]at h;have none:∀r v,v<p.length->T.testBit v=false->Df p (XQ p v) p.length=r->False:=by
  intro r
  induction r using Nat.strongRecOn with
  | _ r ih =>
   intro v i hb hr;have d:=hst v i hb;have:∃u,(XQ p v).testBit u=true/\T.testBit u=false:=by
    apply Wx;intro c;apply d;intro u hu;cases hc:T.testBit u
    ·exact absurd ⟨u,hu,hc⟩ c
    ·rfl
   obtain⟨u,hu,f⟩:=this;have k:u<p.length:=Uq (Nj hp) hu;have hcl:=Rf hp (s:=XQ p v) (Nj hp);have a:(Df p (XQ p v) p.length).testBit u=true:=Ev _ u hu;have b:Wb (Df p (XQ p u) p.length) (Df p (XQ p v) p.length):=NS hcl (hcl u k a) _;have hlt:Df p (XQ p u) p.length<Df p (XQ p v) p.length:=by refine Nat.lt_of_le_of_ne (Yl b) λe=>?_;have:=h u k;rw[e,a]at this;cases this
   exact ih _ (by omega) u k f rfl
 intro v i;cases hc:T.testBit v
 ·exact (none _ v i hc rfl).elim
 ·rfl
end
theorem uc:∀a b:List Int,G5 (a++b)=G5 a*G5 b
 |[],b=>by simp[G5]
 |x::a,b=>by rw[ML,dN,dN,uc a b,MQ]
theorem Bl:∀{a va:List Int} (b vb:List Int),a.length=va.length->GX (a++b) (va++vb)=GX a va*G5 b+GX b vb
 |[],[],b,vb,_=>by simp[GX]
 |[],_::_,_,_,h=>by simp at h
 |_::_,[],_,_,h=>by simp at h
 | c::a,v::va,b,vb,h=>by rw[ML,ML,GX,GX,Bl b vb (by simpa using h),uc,Wk,MQ];omega
theorem LQ:∀{cs vs:List Int} (a:Int),(∀c∈cs,1<=c)->YZ cs vs->zL cs (a*G5 cs+GX cs vs)=a
 |[],[],a,_,_=>by simp[zL,G5,GX]
 |[],_::_,_,_,h=>by cases h
 |_::_,[],_,_,h=>by cases h
 | c::cs,v::vs,a,hc,h=>by
  obtain⟨⟨h1,h2⟩,k⟩:=h;have ih:=LQ (cs:=cs) (vs:=vs) (a*c+v) (λx hx=>hc x (by simp[hx])) k;have e:a*G5 (c::cs)+GX (c::cs) (v::vs)=(a*c+v)*G5 cs+GX cs vs:=by rw[dN,GX,Wk,MQ];omega
  rw[e];show zL cs _ / c=a;rw[ih,afs,Int.add_mul_ediv_right _ _ (by omega),Int.ediv_eq_zero_of_lt h1 h2];omega
theorem H7:∀{cs vs:List Int} (a:Int) (i:Nat),(∀c∈cs,1<=c)->YZ cs vs->i<cs.length->AO cs (a*G5 cs+GX cs vs) i=vs[i]?.getD 0
 |[],_,_,_,_,_,hi=>by simp at hi
 |_::_,[],_,_,_,h,_=>by cases h
 | c::cs,v::vs,a,i,hc,h,hi=>by
  obtain⟨⟨h1,h2⟩,b⟩:=h;have k:∀x∈cs,1<=x:=λx hx=>hc x (by simp[hx]);have e:a*G5 (c::cs)+GX (c::cs) (v::vs)=(a*c+v)*G5 cs+GX cs vs:=by rw[dN,GX,Wk,MQ];omega
  rw[e];cases i with
  | zero =>show zL cs _ % c=v;rw[LQ _ k b,afs,Int.add_mul_emod_self_right,aeL h1 h2]
  | succ i =>have:=H7 (a*c+v) i k b (by simpa using hi);simpa [AO] using this
theorem bA5{cs vs:List Int}(hc:∀c∈cs,1<=c)(h:YZ cs vs):EU cs (GX cs vs)=vs:=by
 have hl:=h.len;refine adG (by simp[EU,hl]) λi h1 h2=>?_;have hi:i<cs.length:=by simpa [EU] using h1
 have:=H7 0 i hc h hi;rw[afv,Int.zero_add,Zq h2,Ns]at this;simp[EU,this]
theorem Ay{cs:List Int}(hc:∀c∈cs,1<=c)(h:Int):YZ cs (EU cs h):=by refine Js (by simp[EU]) λi c v h1 h2=>?_;have hi:=(tI.1 h1).1;rw[EU,Zy,aex hi,PW,P5]at h2;have k:=hc c (YH h1);rw[<-h2,AO,h1,Ns];exact⟨adN _ (by omega),adK _ (by omega)⟩
theorem vg(cs:List Int)(h:Int):(EU cs h).length=cs.length:=by simp[EU]
theorem pd:∀{cs:List Int},(∀c∈cs,1<=c)->1<=G5 cs
 |[],_=>by decide
 | c::cs,h=>by rw[dN];have h1:=h c (by simp);have h2:=pd (cs:=cs) λx hx=>h x (by simp[hx]);exact aft h1 (by have:=aen h2 (show 0<=c by omega);omega)
theorem FK:∀(cs:List Int) (n:Nat),GX cs (List.replicate n 0)=0
 |[],n=>by cases n<;>rfl
 |_::_,0=>rfl
 |c::cs,n+1=>by rw[VZ,GX,FK cs n];simp
theorem Jr:∀{cs vs:List Int},cs.length=vs.length->(∀(i:Nat) (c:Int),cs[i]?=some c->vs[i]?.getD 0=c - 1)->GX cs vs=G5 cs - 1
 |[],[],_,_=>by decide
 |[],_::_,h,_=>by simp at h
 |_::_,[],h,_=>by simp at h
 | c::cs,v::vs,hl,h=>by
  have h0:=h 0 c rfl;have ih:=Jr (cs:=cs) (vs:=vs) (by simpa using hl) λi x hx=>by have:=h (i+1) x (by simpa using hx);simpa using this
  simp at h0;rw[GX,ih,dN,h0,Int.sub_mul];omega
theorem bA4{cs vs:List Int}(hl:cs.length=vs.length){x:Int}(hi:vs[i]?=some x)(hm:∀(j:Nat) (c:Int),i<j->cs[j]?=some c->vs[j]?.getD 0=c - 1) :
  GX cs (vs.take i++(x+1)::List.replicate (vs.length - (i+1)) 0)=GX cs vs+1:=by
 have h:=(tI.1 hi).1;obtain⟨c,hc⟩:∃c,cs[i]?=some c:=⟨_,Zq (by omega)⟩;have e1:cs=cs.take i++c::cs.drop (i+1):=by have:=Tg (l:=cs) (i:=i) (by omega);rw[gEE,P5]at hc;rw[<-hc,<-this,IV]
 have a:vs=vs.take i++x::vs.drop (i+1):=by have:=Tg (l:=vs) (i:=i) h;rw[Zq h,P5]at hi;rw[<-hi,<-this,IV]
 have hlt:(cs.take i).length=(vs.take i).length:=by simp[hl]
 have k:GX (cs.drop (i+1)) (vs.drop (i+1))=G5 (cs.drop (i+1)) - 1:=by refine Jr (by simp[hl]) λj d hj=>?_;rw[RS]at hj ⊢;exact hm _ d (by omega) hj
 have h1:GX cs vs=GX (cs.take i) (vs.take i)*G5 (c::cs.drop (i+1))+(x*G5 (cs.drop (i+1))+GX (cs.drop (i+1)) (vs.drop (i+1))):=by conv=>lhs;rw[e1,a,Bl _ _ hlt,GX]
 have h2:GX cs (vs.take i++(x+1)::List.replicate (vs.length - (i+1)) 0)=GX (cs.take i) (vs.take i)*G5 (c::cs.drop (i+1))+((x+1)*G5 (cs.drop (i+1))+0):=by conv=>lhs;rw[e1,Bl _ _ hlt,GX,FK]
 rw[h2,h1,k,Wk];omega
def IO(n:Zv):List Int:=n.Z7.map (·.Z5)
def G3(cs ps:List Int):List Int:=ps.map λp=>cs[p.toNat]?.getD 0
def ET(n:Zv):List Nat:=n.Z7.map λx=>Dn x.Z9
def Db(gr Z5:Int)(r:List Int):Bool:=decide ((r.length:Int)=Z5)&&r.all (λx=>decide (0<=x)&&decide (x<=gr))&&decide (r.sum=gr)
def zK(k:Int)(x:Node):Bool:=decide (1<=x.Z5)&&decide (x.Z5<=4)&&AW x.Z9 k
def r9(n:Zv)(x:Node):Bool:=decide ((x.rows.length:Int)=G5 (G3 (IO n) x.Z9))&&x.rows.all (Db n.Z8 x.Z5)
def Dm(n:Zv):Bool:=decide (1<=n.Z8)&&decide (n.Z8<=60)&&decide (1<=n.Z7.length)&&decide (n.Z7.length<=8)&&n.Z7.all (zK n.Z7.length)&&decide (G5 (IO n)<=1024)&&AP (ET n)&&n.Z7.all (r9 n)
structure NR (n:Zv):Prop where
 g1:1<=n.Z8
 g2:n.Z8<=60
 l1:1<=n.Z7.length
 l2:n.Z7.length<=8
 Z5:∀x∈n.Z7,1<=x.Z5/\x.Z5<=4
 places:∀x∈n.Z7,AW x.Z9 n.Z7.length=true
 worlds:G5 (IO n)<=1024
 YA:AP (ET n)=true
 rows:∀x∈n.Z7,(x.rows.length:Int)=G5 (G3 (IO n) x.Z9)
 row:∀x∈n.Z7,∀r∈x.rows,(r.length:Int)=x.Z5/\(∀y∈r,0<=y/\y<=n.Z8)/\r.sum=n.Z8
theorem bU:Dm n=true↔NR n:=by
 simp only[Dm,zK,r9,Db,Zk,RY,Xw];constructor
 ·rintro⟨⟨⟨⟨⟨⟨⟨a,b⟩,c⟩,d⟩,e⟩,f⟩,g⟩,h⟩;exact⟨a,b,c,d,λx hx=>(e x hx).1,λx hx=>(e x hx).2,f,g,λx hx=>(h x hx).1,λx hx r hr=>⟨((h x hx).2 r hr).1.1,((h x hx).2 r hr).1.2,((h x hx).2 r hr).2⟩⟩
 ·rintro⟨a,b,c,d,e1,k,f,g,h1,h2⟩;exact⟨⟨⟨⟨⟨⟨⟨a,b⟩,c⟩,d⟩,λx hx=>⟨e1 x hx,k x hx⟩⟩,f⟩,g⟩,λx hx=>⟨h1 x hx,λr hr=>⟨⟨(h2 x hx r hr).1,(h2 x hx r hr).2.1⟩,(h2 x hx r hr).2.2⟩⟩⟩
theorem fG(h:AW l k=true):∀x∈l,0<=x/\x<k:=by
 intro x hx;obtain⟨i,hi,he⟩:=QX.1 hx;have:=Xw.1 h i (Q9.2 hi);have e:l[i]?.getD 0=x:=by rw[Zq hi,he];rfl
 simp only[zH,Zk,RY,e]at this;omega
theorem Aq(h:AW l k=true){x y:Int}(hx:l[i]?=some x)(hy:l[i+1]?=some y):x<y:=by have hi:=(tI.1 hy).1;have:=Xw.1 h (i+1) (Q9.2 hi);simp only[zH,Zk,RY,hy,Ns,ad4,hx]at this;simp at this;omega
theorem bA3(h:AW l k=true):∀{i j:Nat} {x y:Int},l[i]?=some x->l[j]?=some y->i<j->x<y:=by
 intro i j
 induction j with
 |zero=>intro x y _ _ h;omega
 | succ j ih =>
  intro x y hx a b;have c:=(tI.1 a).1;have hz:l[j]?=some l[j]:=Zq (by omega);have h1:=Aq h hz a
  by_cases e:i=j
  ·subst e;rw[hx]at hz;injection hz with hz;omega
  ·have:=ih hx hz (by omega);omega
theorem my(h:AW l k=true)(hk:0<=k):(l.length:Int)<=k:=by
 have key:∀(i:Nat) (x:Int),l[i]?=some x->(i:Int)<=x:=by
  intro i
  induction i with
  |zero=>intro x hx;have:=fG h x (YH hx);omega
  | succ i ih =>intro x hx;have hi:=(tI.1 hx).1;have h1:=ih l[i] (Zq (by omega));have:=Aq h (Zq (show i<l.length by omega)) hx;omega
 by_cases hl:l.length=0
 ·omega
 ·have h1:=key (l.length - 1) l[l.length - 1] (Zq (by omega));have h2:=fG h _ (E_ (show l.length - 1<l.length by omega));omega
theorem NR.cs(h:NR n):∀c∈IO n,1<=c/\c<=4:=λc hc=>by obtain⟨x,hx,rfl⟩:=YY.1 hc;exact h.Z5 x hx
theorem aX(n:Zv):(IO n).length=n.Z7.length:=by simp[IO]
theorem ct{cs ps:List Int}(hc:∀c∈cs,1<=c/\c<=4)(hp:∀p∈ps,0<=p/\p<cs.length):∀c∈G3 cs ps,1<=c/\c<=4:=λc h=>by obtain⟨p,h1,rfl⟩:=YY.1 h;have h2:=hp p h1;rw[gEE,Ns];exact hc _ (E_ _)
theorem mw{cs ps:List Int}(h:YZ cs Z2)(hp:∀p∈ps,0<=p/\p<cs.length):YZ (G3 cs ps) (G3 Z2 ps):=by refine Js (by simp[G3]) λi c v h1 h2=>?_;simp only[G3,Zy,aee]at h1 h2;obtain⟨p,k,rfl⟩:=h1;obtain⟨p',h4,rfl⟩:=h2;rw[k]at h4;injection h4 with h4;subst h4;have h5:=hp p (YH k);have a:cs[p.toNat]?=some cs[p.toNat]:=Zq (by omega);obtain⟨v,h7,h8⟩:=h.get a;rw[a,h7,Ns,Ns];exact h8
theorem fW(cs a b:List Int):G3 cs (a++b)=G3 cs a++G3 cs b:=by simp[G3]
def Ca(n:Zv)(Z2:List Int)(v:Nat):Int:=match n.Z7[v]? with
 |none=>1
 |some x=>(x.rows[(GX (G3 (IO n) x.Z9) (G3 Z2 x.Z9)).toNat]?.getD [])[(Z2[v]?.getD 0).toNat]?.getD 0
def AS(n:Zv)(Z2:List Int):Int:=G5 ((List.range n.Z7.length).map (Ca n Z2))
theorem NR.pin(h:NR n){x:Node}(hx:x∈n.Z7):∀p∈x.Z9,0<=p/\p<(IO n).length:=λp hp=>by rw[aX];exact fG (h.places x hx) p hp
theorem Fx(h:NR n)(hv:YZ (IO n) Z2){v:Nat}{x:Node}(hx:n.Z7[v]?=some x) :
  ∃(i:Nat) (r:List Int) (c y:Int),GX (G3 (IO n) x.Z9) (G3 Z2 x.Z9)=(i:Int)/\i<x.rows.length/\x.rows[i]?=some r/\Z2[v]?=some c/\0<=c/\c<x.Z5/\r[c.toNat]?=some y/\Ca n Z2 v=y/\0<=y/\y<=n.Z8:=by
 have hm:=YH hx;have hi:=gt (ct h.cs (h.pin hm)) (mw hv (h.pin hm));rw[<-h.rows x hm]at hi;obtain⟨i,he⟩:=Wu hi.1;have k:i<x.rows.length:=by omega
 have hc:(IO n)[v]?=some x.Z5:=by simp[IO,hx]
 obtain⟨c,h1,h2,a⟩:=hv.get hc;obtain⟨d,b,-⟩:=h.row x hm x.rows[i] (E_ k);have hcl:c.toNat<(x.rows[i]).length:=by omega
 refine⟨i,x.rows[i],c,(x.rows[i])[c.toNat],he,k,Zq k,h1,h2,a,Zq hcl,?_,b _ (E_ hcl)⟩;simp only[Ca,hx,he,h1,Ya,Zq k,Ns,Zq hcl]
theorem Bt:∀{l:List Int},(∀x∈l,0<=x/\x<=60)->0<=G5 l/\G5 l<=60 ^ l.length
 |[],_=>by decide
 | x::l,h=>by have h1:=Bt (l:=l) λy hy=>h y (by simp[hy]);have h2:=h x (by simp);rw[dN,V8,Yh,PM x];refine⟨Vl h1.1 h2.1,aft (aen h2.2 h1.1) (ac0 h1.2 (by decide))⟩
theorem bA2{k:Nat}(h:k<=8):(60:Int) ^ k<=167961600000000:=by
 have hk:k=0\/k=1\/k=2\/k=3\/k=4\/k=5\/k=6\/k=7\/k=8:=by omega
 rcases hk with rfl|rfl|rfl|rfl|rfl|rfl|rfl|rfl|rfl<;>decide
theorem bA1(h:NR n)(hv:YZ (IO n) Z2){v:Nat}(hi:v<n.Z7.length):0<=Ca n Z2 v/\Ca n Z2 v<=60:=by obtain⟨i,r,c,y,-,-,-,-,-,-,-,e,a,b⟩:=Fx h hv (Zq hi);have:=h.g2;omega
theorem sM(h:NR n)(hv:YZ (IO n) Z2){j:Nat}(hj:j<=n.Z7.length):0<=G5 ((List.range j).map (Ca n Z2))/\G5 ((List.range j).map (Ca n Z2))<=167961600000000:=by
 have h1:=Bt (l:=(List.range j).map (Ca n Z2)) λx hx=>by obtain⟨i,hi,rfl⟩:=YY.1 hx;exact bA1 h hv (by have:=Q9.1 hi;omega)
 have h2:=bA2 (k:=((List.range j).map (Ca n Z2)).length) (by have:=h.l2;simp;omega);omega
theorem Az(n:Zv)(Z2:List Int)(j:Nat):G5 ((List.range (j+1)).map (Ca n Z2))=G5 ((List.range j).map (Ca n Z2))*Ca n Z2 j:=by rw[Ri,K0,List.map_singleton,yK]
def GW(n:Zv)(p:Nat->Bool):Nat->Int
 |0=>0
 |j+1=>GW n p j+if p j then AS n (EU (IO n) (j:Int)) else 0
theorem zz(h:NR n)(hv:YZ (IO n) Z2):0<=AS n Z2/\AS n Z2<=167961600000000:=sM h hv (ZV _)
theorem jz{n:Zv}(h:NR n)(p:Nat->Bool):∀j:Nat,0<=GW n p j/\GW n p j<=167961600000000*j
 |0=>by simp[GW]
 | j+1=>by
  have ih:=jz h p j;have hw:=zz h (Ay (λc hc=>(h.cs c hc).1) (j:Int));rw[GW]
  split<;>omega
theorem GI{n:Zv}{p q:Nat->Bool}:∀{j:Nat},(∀i,i<j->p i=q i)->GW n p j=GW n q j
 |0,_=>rfl
 |j+1,h=>by rw[GW,GW,GI λi hi=>h i (by omega),h j (by omega)]
def Dj(n:Zv):Nat:=(G5 (IO n)).toNat
def Dl(n:Zv)(e:List Int):Int:=GW n (λw=>B4 (EU (IO n) (w:Int)) e) (Dj n)
theorem NR.wl(h:NR n):1<=Dj n/\Dj n<=1024/\((Dj n:Nat):Int)=G5 (IO n):=by have h1:=pd λc hc=>(h.cs c hc).1;have h2:=h.worlds;unfold Dj;omega
theorem rg(h:NR n)(e:List Int):0<=Dl n e/\Dl n e<=171992678400000000:=by have h1:=jz h (λw=>B4 (EU (IO n) (w:Int)) e) (Dj n);have h2:=h.wl;unfold Dl;omega
def EQ(n:Zv)(e:List Int):Bool:=decide (e.length=n.Z7.length)&&(List.range e.length).all λv=>decide (-1<=e[v]?.getD 0)&&decide (e[v]?.getD 0<(IO n)[v]?.getD 0)
def Di(n:Zv)(e:List Int):Int:=if Dm n then (if EQ n e then 0 else 2) else 50
section
variable {rows:List (List Int)}
section
variable {b Z5:Nat}
def De(b Z5 i x:Nat):Nat:=(i / b*Z5+x)*b+i % b
def B1(b Z5 p:Nat):Nat:=p / (b*Z5)*b+p % b
def yU(b Z5 p:Nat):Nat:=p / b % Z5
theorem O6(hb:0<b)(hx:x<Z5):B1 b Z5 (De b Z5 i x)=i/\yU b Z5 (De b Z5 i x)=x:=by
 have hm:=US i hb;have h1:De b Z5 i x / b=i / b*Z5+x:=by unfold De;rw[MX,Um _ _ hb,VW hm,Ku]
 have h2:De b Z5 i x % b=i % b:=by unfold De;rw[MX,acW,Nat.mod_mod]
 have h:(i / b*Z5+x) / Z5=i / b:=by rw[MX,Um _ _ (by omega),VW hx,Ku]
 have h4:(i / b*Z5+x) % Z5=x:=by rw[MX,acW,adJ hx]
 refine⟨?_,?_⟩
 ·unfold B1;rw[<-Xq,h1,h2,h,TF];exact QB i b
 ·unfold yU;rw[h1,h4]
theorem bA0(hb:0<b)(p:Nat):De b Z5 (B1 b Z5 p) (yU b Z5 p)=p:=by
 have hm:=US p hb;have h1:B1 b Z5 p / b=p / (b*Z5):=by unfold B1;rw[MX,Um _ _ hb,VW hm,Ku]
 have h2:B1 b Z5 p % b=p % b:=by unfold B1;rw[MX,acW,Nat.mod_mod]
 unfold De yU;rw[h1,h2,<-Xq,TF (p / b / Z5) Z5,QB,TF];exact QB p b
theorem Ot(hc:0<Z5)(p:Nat):yU b Z5 p<Z5:=US _ hc
theorem bz_{A p:Nat}(hb:0<b)(hp:p<A*b*Z5):B1 b Z5 p<A*b:=by have h1:p / (b*Z5)<A:=Xz (by rw[TF (b*Z5),<-QQ];exact hp);have hm:=US p hb;unfold B1;have:(p / (b*Z5)+1)*b<=A*b:=abs _ h1;rw[UF,VT]at this;omega
theorem Jp{A:Nat}(hb:0<b)(hi:i<A*b)(hx:x<Z5):De b Z5 i x<A*b*Z5:=by have h1:i / b<A:=Xz (by rw[TF];exact hi);have hm:=US i hb;unfold De;have h2:(i / b+1)*Z5<=A*Z5:=abs _ h1;rw[UF,VT]at h2;have h:(i / b*Z5+x+1)*b<=A*Z5*b:=abs _ (by omega);rw[UF (i / b*Z5+x),VT,QQ A,TF Z5 b,<-QQ]at h;omega
def B6(rows:List (List Int))(b Z5 t:Nat):List Int:=(List.range (rows.length*Z5)).map λp=>if B1 b Z5 p*Z5+yU b Z5 p<t then (rows[B1 b Z5 p]?.getD [])[yU b Z5 p]?.getD 0 else 0
def n0(rows:List (List Int))(b Z5:Nat):List Int:=(List.range (rows.length*Z5)).map λp=>(rows[B1 b Z5 p]?.getD [])[yU b Z5 p]?.getD 0
theorem KU(rows:List (List Int))(b Z5 t:Nat):(B6 rows b Z5 t).length=rows.length*Z5:=by simp[B6]
theorem bz9(rows:List (List Int))(b Z5:Nat):B6 rows b Z5 0=List.replicate (rows.length*Z5) 0:=by refine adG (by simp[B6]) λi h1 h2=>?_;simp[B6]
theorem bz8{A:Nat}{r:List Int}{w:Int}(hb:0<b)(hA:rows.length=A*b)(hr:rows[i]?=some r)(hx:x<Z5)(hw:r[x]?=some w) :
  (B6 rows b Z5 (i*Z5+x)).set (De b Z5 i x) w=B6 rows b Z5 (i*Z5+x+1):=by
 have hi:=(tI.1 hr).1;refine adG (by simp[B6]) λp h1 h2=>?_;have hp:p<rows.length*Z5:=by simpa [B6] using h2
 obtain⟨q1,q2⟩:=O6 hb (i:=i) hx;rw[aeU]
 by_cases e:De b Z5 i x=p
 ·subst e;rw[ZN rfl];simp only[B6,aei,aeF,q1,q2];rw[i6,hr,Ns,hw,Ns]
 ·rw[ZF e];simp only[B6,aei,aeF];have hf:=Ot (b:=b) (Z5:=Z5) (by omega) p;have a:B1 b Z5 p*Z5+yU b Z5 p≠i*Z5+x:=λh=>e (by
   have e1:B1 b Z5 p=i:=by
    have h1:(B1 b Z5 p*Z5+yU b Z5 p) / Z5=B1 b Z5 p:=by rw[MX,Um _ _ (by omega),VW hf,Ku]
    have h2:(i*Z5+x) / Z5=i:=by rw[MX,Um _ _ (by omega),VW hx,Ku]
    rw[<-h1,h,h2]
   have k:yU b Z5 p=x:=by rw[e1]at h;omega
   rw[<-bA0 hb p (Z5:=Z5),e1,k])
  by_cases h:B1 b Z5 p*Z5+yU b Z5 p<i*Z5+x
  ·rw[ZN h,i6]
  ·rw[ZF h,bJ]
theorem bz7{A:Nat}(hb:0<b)(hA:rows.length=A*b):B6 rows b Z5 (rows.length*Z5)=n0 rows b Z5:=by
 unfold B6 n0;refine Sc λp hp=>?_;have hp:=Q9.1 hp;have hc:0<Z5:=aeI λe=>by subst e;simp at hp
 have h1:=bz_ (A:=A) hb (by rw[<-hA];exact hp);have h2:=Ot (b:=b) hc p;rw[ZN];rw[<-hA]at h1;have:(B1 b Z5 p+1)*Z5<=rows.length*Z5:=abs _ h1;rw[UF,VT]at this;omega
theorem bz6{A:Nat}(hb:0<b)(hA:rows.length=A*b)(hi:i<rows.length)(hx:x<Z5):(n0 rows b Z5)[De b Z5 i x]?=some ((rows[i]?.getD [])[x]?.getD 0):=by obtain⟨q1,q2⟩:=O6 hb (i:=i) hx;have hp:=Jp (A:=A) (i:=i) hb (by rw[<-hA];exact hi) hx;simp only[n0,Zy];rw[aex (by rw[hA];exact hp)];simp only[PW,q1,q2]
end
def Dh(ps:List Int)(k:Nat)(v:Int):List Int:=ps.take k++v::ps.drop k
theorem bz5(h:NR n)(hv:YZ (IO n) Z2){v:Nat}{x:Node}(hx:n.Z7[v]?=some x)(k:Nat) :
  ∃p:Nat,GX (G3 (IO n) (Dh x.Z9 k (v:Int))) (G3 Z2 (Dh x.Z9 k (v:Int)))=(p:Int)/\p<x.rows.length*x.Z5.toNat /\
   (n0 x.rows (G5 (G3 (IO n) (x.Z9.drop k))).toNat x.Z5.toNat)[p]?=some (Ca n Z2 v):=by
 have hm:=YH hx;obtain⟨i,r,c,y,e1,u,w,z,D,E,e7,F,-,-⟩:=Fx h hv hx;have b:=h.pin hm;have G:=ct h.cs b;have H:=mw hv b;have j:(IO n)[v]?=some x.Z5:=by simp[IO,hx]
 have ps:x.Z9=x.Z9.take k++x.Z9.drop k:=(IV k _).symm;have e:∀c∈G3 (IO n) (x.Z9.drop k),1<=c/\c<=4:=ct h.cs λp hp=>b p (R2 hp);have l:YZ (G3 (IO n) (x.Z9.drop k)) (G3 Z2 (x.Z9.drop k)):=mw hv λp hp=>b p (R2 hp);have s:∀c∈G3 (IO n) (x.Z9.take k),1<=c/\c<=4:=ct h.cs λp hp=>b p (Xp hp);have t:YZ (G3 (IO n) (x.Z9.take k)) (G3 Z2 (x.Z9.take k)):=mw hv λp hp=>b p (Xp hp);obtain⟨b1,b2⟩:=gt e l;obtain⟨a1,a2⟩:=gt s t;have hlt:(G3 (IO n) (x.Z9.take k)).length=(G3 Z2 (x.Z9.take k)).length:=by simp[G3]
 have ei:GX (G3 (IO n) x.Z9) (G3 Z2 x.Z9)=GX (G3 (IO n) (x.Z9.take k)) (G3 Z2 (x.Z9.take k))*G5 (G3 (IO n) (x.Z9.drop k))+GX (G3 (IO n) (x.Z9.drop k)) (G3 Z2 (x.Z9.drop k)):=by conv=>lhs;rw[ps,fW,fW,Bl _ _ hlt]
 have er:(x.rows.length:Int)=G5 (G3 (IO n) (x.Z9.take k))*G5 (G3 (IO n) (x.Z9.drop k)):=by
  rw[h.rows x hm]
  conv=>lhs;rw[ps,fW,uc]
 have ef:GX (G3 (IO n) (Dh x.Z9 k (v:Int))) (G3 Z2 (Dh x.Z9 k (v:Int))) =
   GX (G3 (IO n) (x.Z9.take k)) (G3 Z2 (x.Z9.take k))*(x.Z5*G5 (G3 (IO n) (x.Z9.drop k)))+(c*G5 (G3 (IO n) (x.Z9.drop k))+GX (G3 (IO n) (x.Z9.drop k)) (G3 Z2 (x.Z9.drop k))):=by
  rw[Dh,fW,fW,Bl _ _ hlt];have:G3 (IO n) ((v:Int)::x.Z9.drop k)=x.Z5::G3 (IO n) (x.Z9.drop k):=by simp[G3,j]
  have h2:G3 Z2 ((v:Int)::x.Z9.drop k)=c::G3 Z2 (x.Z9.drop k):=by simp[G3,z]
  rw[this,h2,dN,GX]
 have I:=pd λc hc=>(e c hc).1;generalize G5 (G3 (IO n) (x.Z9.drop k))=B at *;generalize G5 (G3 (IO n) (x.Z9.take k))=A at *;generalize GX (G3 (IO n) (x.Z9.drop k)) (G3 Z2 (x.Z9.drop k))=q at *;generalize GX (G3 (IO n) (x.Z9.take k)) (G3 Z2 (x.Z9.take k))=a at *;obtain⟨B,rfl⟩:=Wu (show 0<=B by omega);obtain⟨A,rfl⟩:=Wu (show 0<=A by omega);obtain⟨q,rfl⟩:=Wu b1;obtain⟨a,rfl⟩:=Wu a1;obtain⟨c,rfl⟩:=Wu D;obtain⟨C,hC⟩:=Wu (show 0<=x.Z5 by omega);rw[hC]at ef E ⊢;have f:0<B:=by omega
 have hq:q<B:=by omega
 have hc:c<C:=by omega
 rw[e1]at ei;have hi:i=a*B+q:=by
  have:(i:Int)=((a*B+q:Nat):Int):=by rw[ei,ad1,QR]
  omega
 have m:i / B=a:=by rw[hi,MX,Um _ _ f,VW hq,Ku]
 have o:i % B=q:=by rw[hi,MX,acW,adJ hq]
 have d:x.rows.length=A*B:=by
  have:((x.rows.length:Nat):Int)=((A*B:Nat):Int):=by rw[er,QR]
  omega
 refine⟨De B C i c,?_,?_,?_⟩
 ·rw[ef,De,m,o,UF,ad1,ad1,QR,QR,QR,MQ];omega
 ·rw[Ya,d];exact Jp f (by rw[<-d];exact u) hc
 ·rw[Ya,Ya,bz6 f d u hc,w,Ns];rw[Ya]at e7;rw[e7,F];rfl
end
theorem Ee{e:List Int}:B4 Z2 e=true↔∀i,i<e.length->e[i]?.getD 0<0\/e[i]?.getD 0=Z2[i]?.getD 0:=by simp only[B4,Xw,Q9,qL,T6,RY]
section
variable {h:H}
abbrev IR:Type:=UInt8×UInt8×List UInt8
abbrev BJ:Type:=UInt8×List IR×List UInt8
abbrev po:Type:=UInt8×UInt8×UInt8×Int
theorem Iy{P:Nat->Prop}{k:Nat}{x:IR}{cs:List AV}:Rp.rp P k h x cs↔∃a,cs=[Zt x.1,Zt x.2.1,a]/\ZT P k h x.2.2 a:=by
 constructor
 ·rintro⟨c1,b,rfl,h1,c,d,rfl,h2,⟨a,rfl,h4⟩⟩;rw[fK.1 h1,fK.1 h2];exact⟨a,rfl,h4⟩
 ·rintro⟨a,rfl,h4⟩;exact⟨[_],[_,a],rfl,fK.2 rfl,[_],[a],rfl,fK.2 rfl,⟨a,rfl,h4⟩⟩
theorem Ix{P:Nat->Prop}{k:Nat}{x:BJ}{cs:List AV}:Rp.rp P k h x cs↔∃a b,cs=[Zt x.1,a,b]/\ZT P k h x.2.1 a/\ZT P k h x.2.2 b:=by
 constructor
 ·rintro⟨c1,c,rfl,h1,d,e,rfl,⟨a,rfl,ha⟩,⟨b,rfl,hb⟩⟩;rw[fK.1 h1];exact⟨a,b,rfl,ha,hb⟩
 ·rintro⟨a,b,rfl,ha,hb⟩;exact⟨[_],[a,b],rfl,fK.2 rfl,[a],[b],rfl,⟨a,rfl,ha⟩,⟨b,rfl,hb⟩⟩
theorem L1{P:Nat->Prop}{k:Nat}{x:po}{cs:List AV}:Rp.rp P k h x cs↔cs=[Zt x.1,Zt x.2.1,Zt x.2.2.1,Z_ x.2.2.2]:=by
 constructor
 ·rintro⟨c1,b,rfl,h1,c,d,rfl,h2,e,f,rfl,a,h4⟩;rw[fK.1 h1,fK.1 h2,fK.1 a,ay.1 h4];rfl
 ·rintro rfl;exact⟨[_],[_,_,_],rfl,fK.2 rfl,[_],[_,_],rfl,fK.2 rfl,[_],[_],rfl,fK.2 rfl,ay.2 rfl⟩
end
end
end Hx
