/- A part of the proof. -/
import Derived.Test.YteaikmdilmfbeaaGreatHx6
set_option linter.all false
set_option maxRecDepth 20000
set_option maxHeartbeats 8000000
namespace Hx
open Go
noncomputable section
variable {n:Xb}{k d:Nat}{P:Nat->Prop}{g:G}{v:AV}{l XB:List Int}
end
end Hx
section
section
namespace Hx
open Go
noncomputable section
def af{α:Type}{l:List α}{j:Nat}(h:j<l.length):∃x,l[j]?=some x/\l.take (j+1)=l.take j++[x]/\x∈l :=⟨l[j],XJ h,by rw[aaq,XJ h];rfl,Zi h⟩
def vI(l:List Int):Int:=l.foldl (λs x=>IntKind.wrap .i64 (s*x)) 1
def Ta[Xr]{d:Nat}{g:G}{v:AV}(hd:0<d)(hv:DH g.h v)(hl:(q9 g.h v).length<2^63) :
  ah C0 d 48 [v] g=.val (XE (vI (q9 g.h v))):=by
 obtain⟨v',e,hr,k⟩:=Oz hv hl d;generalize q9 g.h v=l at hr k hl ⊢;rw[WL];refine cq EY (xs:=[v']) (by simp only[aD,e]) (by simp[tW]) hd ?_;simp only[sz,simprocAttr,tW];refine qB hl k (λj t df g=>df=[]/\Xs t 3=XE (vI (l.take j))) ⟨rfl,by simp[sx,vI]⟩ (by simp[sx]) (by simp[sx]) (by decide)
  (by rintro j t df g v s (rfl|rfl|rfl|rfl|rfl|rfl|rfl)<;>simp[sx]) ?_ ?_
 ·rintro j t df g b ⟨rfl,h3⟩ h4 h0;obtain⟨x,hx,a,hm⟩:=af b;simp only[sz,simprocAttr,hr,h0,h3,h4,hx,b,XN,XK,YR,ci,a,vI,ZM,Z1,List.foldl_nil]
 ·rintro t df g ⟨rfl,h3⟩ -;rw[XV]at h3;simp only[sz,simprocAttr,uJ,h3]
def zj(l:List Int)(n:Int)(i:Nat):Bool:=decide (0<=l[i]?.getD 0)&&decide (l[i]?.getD 0<n)&&(i == 0 || decide (l[i - 1]?.getD 0<l[i]?.getD 0))
def CY(l:List Int)(n:Int):Bool:=(List.range l.length).all (zj l n)
def w8(n:Nat):Nat:=1*2 ^ n % 18446744073709551616
def BL(l:List Int):Nat:=l.foldl (λs x=>s ||| w8 x.toNat) 0
def Ax(n:Nat):w8 n<2^64:=YX _ (by decide)
def Bs{α:Type}(f:α->Nat)(hf:∀a,f a<2^64):∀(l:List α) (s:Nat),s<18446744073709551616->l.foldl (λs x=>s ||| f x) s<18446744073709551616
 |[],_,h=>h
 |a::l,s,h=>Bs f hf l _ (Me h (hf a))
def xy(l:List Int):BL l<2^64:=Bs _ (λa=>Ax _) l 0 (by decide)
def FY(l:List Int)(x:Int):BL (l++[x])=BL l ||| w8 x.toNat:=by simp[BL]
def vE(k':IntKind)(n:Nat):cL .shl (R7 1) (.int k' (n:Int))=.val (R7 (w8 n:Int)):=RM k' 1 n
def o4(s v:Nat):Bool:=s / 2 ^ v &&& 1 == 1
theorem TE[Xr]{d:Nat}{g:G}{s v:Nat}(hd:0<d)(hs:s<2^64)(hv:v<2^63) :
  ah C0 d 152 [R7 (s:Int),XE (v:Int)] g=.val (.bool (o4 s v)):=by
 rw[WL];refine cM Ig (xs:=[R7 (s:Int),XE (v:Int)]) (by simp only[aD,cP 0]) (by simp[yI]) hd ?_;have h1:s / 2 ^ v<2^64:=aaJ (Zh _ _) hs;have h2:cL .and (R7 ((s / 2 ^ v:Nat):Int)) (R7 1)=.val (R7 ((s / 2 ^ v &&& 1:Nat):Int)):=Lh (s / 2 ^ v) 1 h1 (by decide);simp only[sz,simprocAttr,yI,xJ (show (0:Int)<=(v:Int) by omega) (by omega),Lq _ _ _ hs,h2,o4];congr 1;generalize s / 2 ^ v &&& 1=z;rw[Z0,decide_eq_true_iff,beq_iff_eq];omega
def yp(p:List Nat)(s:Nat)(j:Nat):Nat:=(List.range j).foldl (λs v=>if o4 s v then s ||| p[v]?.getD 0 else s) s
def AG(p:List Nat)(s:Nat)(j:Nat):Nat:=(List.range j).foldl (λs _=>yp p s p.length) s
def JH{p:List Nat}(hp:∀x∈p,x<2^64){s:Nat}(hs:s<2^64):∀j,yp p s j<2^64:=by
 intro j
 induction j with
 |zero=>exact hs
 | succ j ih =>
  unfold yp at ih ⊢;rw[YF,ZM];simp only[Z1,List.foldl_nil]
  split
  ·refine Me ih ?_;cases h:p[j]? with
   |none=>decide
   |some x=>exact hp x (XL h)
  ·exact ih
def jt(p:List Nat)(s j:Nat):yp p s (j+1)=if o4 (yp p s j) j then yp p s j ||| p[j]?.getD 0 else yp p s j:=by unfold yp;rw[YF,ZM];rfl
def TT{p:List Nat}(hp:∀x∈p,x<2^64){s:Nat}(hs:s<2^64):∀j,AG p s j<2^64:=by
 intro j
 induction j with
 |zero=>exact hs
 | succ j ih =>unfold AG at ih ⊢;rw[YF,ZM];exact JH hp ih _
def qz(p:List Nat)(s j:Nat):AG p s (j+1)=yp p (AG p s j) p.length:=by unfold AG;rw[YF,ZM];rfl
def Vt[Xr]{d k:Nat}{g:G}{P:Nat->Prop}{v:AV}{p:List Nat}{s:Nat}(hd:0<d)(hv:Xu P k g.h p v)(hs:s<2^64) :
  ah C0 d 153 [v,R7 (s:Int)] g=.val (R7 (AG p s p.length:Int)):=by
 obtain⟨v',e,a⟩:=aB hv d;have hp:=tk hv;have hl:=hv.1;rw[WL];refine cq Ih (xs:=[v',R7 (s:Int)]) (by simp only[aD,e,cP 0]) (by simp[yJ]) hd ?_;simp only[sz,simprocAttr,yJ];refine qB hl (a .nil).len (λj t df g=>df=[]/\Xs t 1=R7 (AG p s j:Int)) ⟨rfl,by simp[sx,AG]⟩ (by simp[sx]) (by simp[sx]) (by decide)
  (by rintro j t df g v s (rfl|rfl|rfl|rfl|rfl|rfl|rfl)<;>simp[sx]) ?_ ?_
 ·rintro j t df g b ⟨rfl,h1⟩ h5 h0;simp only[sz,simprocAttr];have hu:=TT hp hs j;refine qB hl (a .nil).len (λi t df g=>df=[]/\Xs t 5=XE (j:Int)/\Xs t 1=R7 (yp p (AG p s j) i:Int)) ⟨rfl,by simp[sx,h5],by simp[sx,yp,h1]⟩ (by simp[sx]) (by simp[sx,h0]) (by decide)
   (by rintro j t df g v s (rfl|rfl|rfl|rfl|rfl|rfl|rfl)<;>simp[sx]) ?_ ?_
  ·rintro i t df g hi ⟨rfl,h5,h1⟩ h6 h0;have hr:=JH hp hu i;obtain⟨x,hx,-,hm⟩:=af hi;simp only[sz,simprocAttr,h1,h6,TE (XR d) hr (show i<2^63 by omega)];refine bk (λhb=>?_) (λhb=>?_)
   ·simp only[sz,simprocAttr,h0,h1,h5,h6,(a g.h).nats,hi,hx,XN,XK,YR,cu,Gx _ _ hr (hp x hm)];rw[jt,hb,hx];rfl
   ·simp only[sx,sy,↓reduceIte,Nat.reduceEqDiff,h0,h1,h5,h6];rw[jt,hb];rfl
  ·rintro t df g ⟨rfl,h5,h1⟩ h0;simp only[sx,sy,↓reduceIte,h0,h5,h1];rw[qz]
 ·rintro t df g ⟨rfl,h1⟩ -;simp only[sz,simprocAttr,xX,h1]
def vH(p:List Nat):Bool:=(List.range p.length).all λv=>!o4 (AG p (p[v]?.getD 0) p.length) v
def Bz[Xr]{d k:Nat}{g:G}{P:Nat->Prop}{v:AV}{p:List Nat}(hd:0<d)(hv:Xu P k g.h p v) :
  ah C0 d 133 [v] g=.val (.bool (vH p)):=by
 obtain⟨v',e,c⟩:=aB hv d;have hp:=tk hv;have hl:=hv.1;rw[WL];refine cM AW (xs:=[v']) (by simp only[aD,e]) (by simp[mU]) hd ?_;simp only[sz,simprocAttr,mU];refine qB hl (c .nil).len (λj t df g=>df=[]/\(List.range j).all (λv=>!o4 (AG p (p[v]?.getD 0) p.length) v)=true) ⟨rfl,rfl⟩ (by simp[sx]) (by simp[sx]) (by decide)
  (by rintro j t df g v s (rfl|rfl|rfl|rfl|rfl|rfl|rfl)<;>simp[sx]) ?_ ?_
 ·rintro j t df g b ⟨rfl,hw⟩ h3 h0;obtain⟨x,hx,-,hm⟩:=af b;have a:=hp x hm;simp only[sz,simprocAttr,h0,h3,(c g.h).nats,b,hx,XN,XK,YR,cu,Vt (XR d) (c g.h) a,TE (XR d) (TT hp a _) (show j<2^63 by omega)];refine bk (λhb=>?_) (λhb=>?_)
  ·simp only[sz,simprocAttr];rw[vH,dI b (by rw[hx];simp[hb])]
  ·simp only[sx,sy,↓reduceIte,Nat.reduceEqDiff,h0,h3];rw[bS,hw,hx];simp[hb]
 ·rintro t df g ⟨rfl,hw⟩ h0;simp only[sz,simprocAttr,ou];rw[vH,hw]
def EO(l:List Int):Int:=l.foldl (·*·) 1
def xC(l:List Int)(x:Int):EO (l++[x])=EO l*x:=by simp[EO]
def lV{a b:Nat}(h:a<=b):(4:Int) ^ a<=4 ^ b:=by
 obtain⟨c,rfl⟩:∃c,b=a+c:=⟨b - a,by omega⟩
 induction c with
 |zero=>exact Sq _
 | succ c ih =>have:=ih (by omega);rw[show a+(c+1)=(a+c)+1 from rfl,Vv];have h0:(0:Int)<=4 ^ (a+c):=Int.le_of_lt (Int.pow_pos (by decide));omega
def dM(a:Int)(l:List Int):EO (a::l)=a*EO l:=by
 have:∀(l:List Int) (s:Int),l.foldl (·*·) s=s*l.foldl (·*·) 1:=by
  intro l
  induction l with
  |nil=>intro s;simp
  |cons x l ih=>intro s;rw[Z1,ih,Z1,ih (1*x),Ra,ZB]
 unfold EO;rw[Z1,this,Ra]
theorem cH:∀{l:List Int},(∀x∈l,1<=x/\x<=4)->1<=EO l/\EO l<=4 ^ l.length
 |[],_=>⟨by decide,by decide⟩
 | a::l,h=>by
  obtain⟨h1,h2⟩:=cH (l:=l) λx hx=>h x (by simp[hx]);obtain⟨h3,h4⟩:=h a (by simp);rw[dM,Yp,Vv,Z5 (4 ^ l.length)];constructor
  ·have:=Z_ h3 h1 (by decide) (by omega);simpa using this
  ·exact Z_ h4 h2 (by omega) (by decide)
theorem Gj{b:Int}(hb:0<=b):∀{l:List Int},(∀x∈l,0<=x/\x<=b)->0<=l.sum/\l.sum<=b*l.length
 |[],_=>by simp
 | a::l,h=>by
  obtain⟨h1,h2⟩:=Gj hb (l:=l) λx hx=>h x (by simp[hx]);obtain⟨h3,h4⟩:=h a (by simp);rw[ZH,Yp];have:b*((l.length+1:Nat):Int)=b*(l.length:Int)+b:=by rw[abv,R6];simp
  omega
def Aj(l:List Int)(x:Int):(l++[x]).sum=l.sum+x:=by simp
def ba8(m:WJ)(p:Int):Int:=(m.XD[p.toNat]?.map (·.Xx)).getD 0
def ba9(m:WJ)(r:Int):Int:=(m.roots[r.toNat]?.map λr=>(r.length:Int)).getD 0
def fM(a b:Nat):Nat:=a ^^^ (a &&& b)
def T4{n:Nat}(h:n<64):w8 n=2 ^ n:=by unfold w8;rw[Y8,Z8];exact Nat.pow_lt_pow_right (a:=2) (by decide) h
def Ep[Xr]{d k:Nat}{g:G}{P:Nat->Prop}{v:AV}{l:List Int}{n:Int}(hd:0<d)(hv:Xu P k g.h l v) :
  ah C0 d 60 [v,XE n] g=.val (.bool (CY l n)):=by
 obtain⟨v',e,c⟩:=aB hv d;rw[WL];refine cM BZ (xs:=[v',XE n]) (by simp only[aD,cP 0,e]) (by simp[oo]) hd ?_;simp only[sz,simprocAttr,oo];have hl:=hv.1;refine qB hl (c .nil).len (λj t df g=>df=[]/\Xs t 1=XE n/\(List.range j).all (zj l n)=true)
  ⟨rfl,by simp[sx],rfl⟩ (by simp[sx]) (by simp[sx]) (by decide) (by rintro j t df g v s (rfl|rfl|rfl|rfl|rfl|rfl|rfl)<;>simp[sx]) ?_ ?_
 ·rintro j t df g a ⟨rfl,h1,hw⟩ h5 h0;obtain⟨x,hx,f,hm⟩:=af a;have bad:zj l n j=false->CY l n=false:=λh=>dI a h;have rr:=(c g.h).ints;simp only[sz,simprocAttr,rr,h0,h5,hx,a,XN,XK,YR,ci];refine bk (λhb=>?_) (λhb=>?_)
  ·simp only[sz,simprocAttr,hb];rw[bad (by simp[zj,hx]at *;omega)]
  ·simp only[sz,simprocAttr,rr,hb,h0,h1,h5,hx,a,XN,XK,YR,ci];refine bk (λhc=>?_) (λhc=>?_)
   ·simp only[sz,simprocAttr,hc];rw[bad (by simp[zj,hx]at *;omega)]
   ·simp only[sz,simprocAttr,hc,h5];refine bk (λhd=>?_) (λhd=>?_)
    ·obtain⟨i,rfl⟩:∃i,j=i+1:=⟨j - 1,by simp at hd;omega⟩;obtain⟨y,b,-,-⟩:=af (l:=l) (j:=i) (by omega);have hi:i<l.length:=by omega
     have e:IntKind.wrap .i64 (((i+1:Nat):Int) - 1)=(i:Int):=by rw[an];omega
     simp only[sz,simprocAttr,rr,hd,e,h0,h5,hx,a,b,hi,XN,XK,YR,ci];refine bk (λhe=>?_) (λhe=>?_)
     ·simp only[sz,simprocAttr];rw[bad (by simp[zj,hx,b]at *;omega)]
     ·simp only[sx,sy,↓reduceIte,Nat.reduceEqDiff,h0,h1,h5];rw[bS,hw];simp[zj,hx,b]at *;omega
    ·have:j=0:=by simp at hd;omega
     subst this;simp only[sz,simprocAttr,h0,h1,h5];simp[zj,hx]at *;omega
 ·rintro t df g ⟨rfl,-,hw⟩ -;simp only[sz,simprocAttr,pU];rw[CY,hw]
def ba_(m:WJ)(x:NO):List Int:=x.frm.map (ba8 m)++x.Rl.map (ba9 m)
def bb0(m:WJ):Int:=EO (m.roots.map λr=>(r.length:Int))
end
end Hx
end
section
namespace Hx
open Go
def UX(a s:Nat):Prop:=∀v,a.testBit v=true->s.testBit v=true
def zP(s v:Nat):o4 s v=s.testBit v:=by rw[Nat.testBit_eq_decide_div_mod_eq,o4,abM];rw[Z0,beq_iff_eq,decide_eq_true_iff]
def FE{a s:Nat}:fM a s=0↔UX a s:=by
 constructor
 ·intro h v hv;have:=congrArg (·.testBit v) h;simp[fM,hv]at this;exact this
 ·intro h;refine aa3 λv=>?_;have:=h v;simp only[fM,Nat.testBit_xor,Nat.testBit_and,Nat.zero_testBit];cases ha:a.testBit v
  ·rfl
  ·rw[this ha];rfl
def wR(a b v:Nat):(a ||| b).testBit v=(a.testBit v || b.testBit v):=Nat.testBit_or a b v
def CO{n:Nat}(h:n<64)(v:Nat):(w8 n).testBit v=decide (n=v):=by rw[T4 h,abH]
section
variable {p:List Nat}
def OH(p:List Nat)(v:Nat):Nat:=p[v]?.getD 0
def Cl(p:List Nat)(s:Nat):Prop:=∀v,v<p.length->s.testBit v=true->UX (OH p v) s
def Gq{s t:Nat}(hc:Cl p t)(h:UX s t):∀j,j<=p.length->UX (yp p s j) t
 |0,_=>h
 | j+1,hj=>by
  have ih:=Gq hc h j (by omega);rw[jt]
  split
  ·rename_i hb;rw[zP]at hb;intro v hv;rw[wR,YE]at hv;rcases hv with hv|hv
   ·exact ih v hv
   ·exact hc j (by omega) (ih j hb) v hv
  ·exact ih
def K5{s t:Nat}(hc:Cl p t)(h:UX s t):∀j,UX (AG p s j) t
 |0=>h
 |j+1=>by rw[qz];exact Gq hc (K5 hc h j) _ (XH _)
def MT(p:List Nat)(s:Nat):Prop:=Cl p s/\∀v,v<p.length->s.testBit v=true->(AG p (OH p v) p.length).testBit v=false
def CI:vH p=true↔∀v,v<p.length->(AG p (OH p v) p.length).testBit v=false:=by
 unfold vH;rw[XQ];constructor
 ·intro h v hv;have:=h v (X0.2 hv);rw[zP]at this;simpa [OH] using this
 ·intro h v hv;have:=h v (X0.1 hv);rw[zP];simpa [OH] using this
def KE(s:Nat):Nat->Nat
 |0=>0
 |n+1=>KE s n+(if s.testBit n then 1 else 0)
def JV(s:Nat):∀n,KE s n<=n
 |0=>XH _
 |n+1=>by have:=JV s n;unfold KE;split<;>omega
def HL{a s:Nat}(h:UX a s):∀n,KE a n<=KE s n
 |0=>XH _
 | n+1=>by
  have:=HL h n;unfold KE
  split
  ·rename_i hb;rw[XO (h n hb)];omega
  ·split<;>omega
def OB{a s:Nat}(h:UX a s){v:Nat}(hv:s.testBit v=true)(ha:a.testBit v=false):∀n,v<n->KE a n<KE s n
 |0,h0=>by omega
 | n+1,hn=>by
  unfold KE
  by_cases hvn:v=n
  ·subst hvn;have:=HL h v;rw[XO hv,ha];simp;omega
  ·have:=OB h hv ha n (by omega)
   split
   ·rename_i hb;rw[XO (h n hb)];omega
   ·split<;>omega
def HK{s:Nat}:∀n,KE s n=n->∀v,v<n->s.testBit v=true
 |0,_,v,h=>by omega
 | n+1,h,v,hv=>by
  unfold KE at h;have:=JV s n
  split at h
  ·rename_i hb
   by_cases e:v=n
   ·subst e;exact hb
   ·exact HK n (by omega) v (by omega)
  ·omega
def Ai{a s:Nat}(h:UX a s)(h':UX s a):a=s:=aa3 λv=>by
 cases ha:a.testBit v
 ·cases hs:s.testBit v
  ·rfl
  ·rw[h' v hs]at ha;cases ha
 ·rw[h v ha]
def UP{a s:Nat}(h:UX a s):a<=s:=by
 have:a ||| s=s:=aa3 λv=>by
  rw[wR];cases ha:a.testBit v
  ·simp
  ·rw[h v ha];rfl
 rw[<-this];exact Nat.left_le_or
def uv(s:Nat):∀j,UX s (yp p s j)
 |0=>λ_ h=>h
 | j+1=>by
  have ih:=uv s j;rw[jt]
  split
  ·intro v hv;rw[wR,ih v hv];rfl
  ·exact ih
def K2{s:Nat}{j k:Nat}(h:j<=k):UX (yp p s j) (yp p s k):=by
 induction h with
 |refl=>exact λ_ h=>h
 | step _ ih =>
  rw[jt]
  split
  ·intro v hv;rw[wR,ih v hv];rfl
  ·exact ih
def Na{s:Nat}(h:yp p s p.length=s):Cl p s:=by
 intro v hv hb u hu;have h1:(yp p s v).testBit v=true:=uv s v v hb;have h2:(yp p s (v+1)).testBit u=true:=by rw[jt,zP,h1,XO rfl,wR];have:(p[v]?.getD 0).testBit u=true:=hu;rw[this];simp
 have:=K2 (show v+1<=p.length by omega) u h2;rwa [h]at this
def Rh{s n v:Nat}(h:s<2 ^ n)(hv:s.testBit v=true):v<n:=by
 rcases ZN v n with h1|h1
 ·exact h1
 ·rw[Nat.testBit_lt_two_pow (XX h (Yr (by decide) h1))]at hv;cases hv
def Vr{f:Nat->Nat}{n:Nat}(hm:∀j,UX (f j) (f (j+1)))(hb:∀j,f j<2 ^ n)(hs:∀j,f (j+1)=f j->f (j+2)=f (j+1)):f (n+1)=f n:=by
 have key:∀j,j<=KE (f j) n\/f (j+1)=f j:=by
  intro j
  induction j with
  |zero=>exact .inl (Yi _)
  | succ j ih =>
   rcases ih with ih|ih
   ·by_cases e:f (j+1)=f j
    ·exact .inr (hs j e)
    ·left;have:∃v,(f (j+1)).testBit v=true/\(f j).testBit v=false:=by
      apply Ze;intro k;apply e;refine Ai (λv hv=>?_) (hm j);cases hc:(f j).testBit v
      ·exact absurd ⟨v,hv,hc⟩ k
      ·rfl
     let⟨v,h1,h2⟩:=this;have:=OB (hm j) h1 h2 n (Rh (hb _) h1);omega
   ·exact .inr (hs j ih)
 rcases key n with h|h
 ·have hc:KE (f n) n=n:=by have:=JV (f n) n;omega
  refine Ai (λv hv=>?_) (hm n);exact HK n hc v (Rh (hb _) hv)
 ·exact h
def Ut{a b n:Nat}(h:a<2 ^ n)(h':b<2 ^ n):a ||| b<2 ^ n:=aaU h h'
def Kv{v:Nat}(hp:∀x∈p,x<2 ^ p.length):OH p v<2 ^ p.length:=by
 unfold OH;cases h:p[v]? with
 |none=>exact Nat.pow_pos (by decide)
 |some x=>exact hp x (XL h)
def Gp(hp:∀x∈p,x<2 ^ p.length){s:Nat}(hs:s<2 ^ p.length):∀j,yp p s j<2 ^ p.length
 |0=>hs
 | j+1=>by
  have ih:=Gp hp hs j;rw[jt]
  split
  ·exact Ut ih (Kv hp)
  ·exact ih
def Rk(hp:∀x∈p,x<2 ^ p.length){s:Nat}(hs:s<2 ^ p.length):∀j,AG p s j<2 ^ p.length
 |0=>hs
 |j+1=>by rw[qz];exact Gp hp (Rk hp hs j) _
def Oi(hp:∀x∈p,x<2 ^ p.length){s:Nat}(hs:s<2 ^ p.length):Cl p (AG p s p.length):=by
 apply Na;rw[<-qz];exact Vr (λj=>by rw[qz];exact uv _ _) (λj=>Rk hp hs j) (λj e=>by have e:AG p s (j+1)=AG p s j:=e;show AG p s (j+1+1)=AG p s (j+1);rw[qz,e,<-qz,e])
def Hz{s:Nat}:∀j,UX s (AG p s j)
 |0=>λ_ h=>h
 |j+1=>λv hv=>by rw[qz];exact uv _ _ v (Hz j v hv)
def po{a b:List Nat}(h:∀i∈a,∀j∈b,i≠j):meets a b=false:=by simp only[meets,abT];intro i hi hc;exact h i hi i (aad.1 hc) rfl
def cK{x y:W7}(hb:x.lk.big=false)(hb2:y.lk.big=false)(hs:x.lk.sr=[])(hs2:y.lk.sr=[])(h1:∀i∈x.wr,∀j∈y.wr,i≠j)(h2:∀i∈x.wr,∀j∈y.lk.rd,i≠j)(h3:∀i∈y.wr,∀j∈x.lk.rd,i≠j) :
  bX x y=true:=by
 have h:=po h1;have k:=po h2;have a:=po h3;have b:meets y.wr x.wr=false:=po λi hi j hj e=>h1 j hj i hi e.symm;have c:∀l:List Nat,meets l []=false:=λl=>by simp[meets]
 simp only[bX,kH,gx,hb,hb2,hs,hs2,h,k,a,b,c,Uf,Zl,ZK,VT,ZV]
 split<;>split<;>rfl
def s_{g:G}{b sz bytes:Nat}{zero:List AV}{k1 k2:IntKind}{n:Nat}{K:AV->G->Prop}{D:Xo->Prop}(hn:n<=aH)(hb:n*bytes<=aH)(hg:b<=g.nx)
  (k:∀v' g',Own g' b v' sz (List.replicate n zero)->g'.nx=g.nx+1->(∀i,i<g.nx->g'.h.get i=g.h.get i)->W5 v'=some g.nx->g'.lg=g.nx::g.lg->K v' g') :
  (DX sz bytes zero (.int k1 (n:Int)) (.int k2 (n:Int)) g).sat K g D:=by
 show (match cd aH (.int k2 (.ofNat n)) with
  | some cn=>match cd cn (.int k1 (.ofNat n)) with
   |some ln=>ax (Nat.ble (cn*bytes) aH) (OR.upd (.Xj g.nx 0 0 ln none) (g.new (Xy sz (gz cn zero)))) .fail
   |none=>.fail
  |none=>.fail).sat K g D
 simp only[cd,aa,Yt,XO hn,XH,XO hb,if_true];refine k _ _ (.inr ⟨g.nx,0,false,hg,by simp,by simp,by simp[aY,gz]⟩) (by simp) (λi hi=>?_) rfl (by simp);rw[G.new_h,aq]
def Va(n sz id ep i off:Nat)(k:IntKind){j:Nat}(h:j<n):Ki n sz (.W9 id ep i off) (.int k (j:Int))=.val (.W9 id ep i (off+j*sz)):=by show ax (Nat.blt j n) (OR.val (.W9 id ep i (off+j*sz))) .fail=_;rw[aa,XO (by simpa using h)]
def Xc(x:UInt8):AV:=.int .u8 (x.toNat:Int)
def Q8(l:List UInt8)(h:H)(d:Nat):Xm h d aF (.agg (l.map Xc))=some (.agg (l.map Xc)):=by
 have:∀l:List UInt8,aD (Hx.Xm h d 23) (l.map Xc)=some (l.map Xc):=λl=>by
  induction l with
  |nil=>rfl
  | cons x l ih =>simp only[Z7,aD,ih,show Hx.Xm h d 23 (Xc x)=some (Xc x) from rfl]
 show (match aD (Hx.Xm h d 23) (l.map Xc) with|some ys=>some (AV.agg ys)|none=>none)=_;rw[this]
def Raw(w:AV):Prop:=w=.XC\/∃rows,w=.WO 0 1 rows
abbrev JO:Type:=List UInt8×UInt16×List UInt8
def nU(us:List UInt8):List Int:=(us.take 5).map λu=>1+(u.toNat:Int) % 4
def QX{P:Nat->Prop}{k:Nat}{h:H}{x:UInt16}{cs:List AV}:Rp.rp P k h x cs↔cs=[.int .u16 (x.toNat:Int)]:=by simp[Rp.rp]
def xE{P:Nat->Prop}{k:Nat}{h:H}{x:JO}{cs:List AV}:Rp.rp P k h x cs↔∃a b,cs=[a,.int .u16 (x.2.1.toNat:Int),b]/\Xu P k h x.1 a/\Xu P k h x.2.2 b:=by
 constructor
 ·rintro⟨c1,c,rfl,⟨a,rfl,h1⟩,d,e,rfl,h2,⟨b,rfl,h3⟩⟩;rw[QX.1 h2];exact⟨a,b,rfl,h1,h3⟩
 ·rintro⟨a,b,rfl,h1,h2⟩;exact⟨[a],[_,b],rfl,⟨a,rfl,h1⟩,[_],[b],rfl,QX.2 rfl,⟨b,rfl,h2⟩⟩
def Ni[Xr]{d k:Nat}{g:G}{P:Nat->Prop}{v:AV}{x:JO}(hd:0<d)(hm:WG x P k g.h v) :
  ∃r,ah C0 d 91 [v] g=.val r/\IT 0 (nU x.1) r:=by
 obtain⟨v',e,cs,rfl,hc⟩:=mK (di x) (by decide) d hm;obtain⟨a,b,rfl,f,hB⟩:=xE.1 hc;obtain⟨rows,n,E,A,F⟩:=f.all;have n:∀h',ak h' 1 a=some rows:=n;rw[WL];refine aP vN (xs:=[.agg [a,.int .u16 (x.2.1.toNat:Int),b]]) (by simp only[aD,e]) (by simp[ib]) (aI _) (by decide) hd ?_;have hL:(nU x.1).length=min x.1.length 5:=by simp[nU];omega
 simp only[sz,simprocAttr,ib,kV];refine aU (min x.1.length 5) (by omega) (λj t df g=>df=[]/\Xs t 1=Xq 0/\g.h.get 0=Xy 3 [[a,.int .u16 (x.2.1.toNat:Int),b]]/\1<=g.nx/\∃u,Xs t 3=u/\Own g 1 u 1 (((nU x.1).take j).map ci))
  ⟨rfl,by simp[sx],by simp[sx],by simp[sx],_,rfl,.inl ⟨by simp[sx],rfl⟩⟩ (by simp[sx]) (by decide)
  (by rintro j t df g v s (rfl|rfl|rfl)<;>simp[sx]) ?_ ?_ ?_
 ·rintro j t df g q ⟨rfl,h1,hg,c,u,h3,hu⟩ h4
  by_cases hlt:(j:Int)<(x.1.length:Int)
  ·have:decide ((j:Int)<((min x.1.length 5:Nat):Int))=decide ((j:Int)<5):=by congr 1;apply propext;omega
   simp only[sz,simprocAttr,h1,h4,hg,f.len,hlt,this];exact⟨c,u,h3,hu⟩
  ·have:decide ((j:Int)<((min x.1.length 5:Nat):Int))=false:=Yq (by omega);simp only[sz,simprocAttr,h1,h4,hg,f.len,hlt,this];exact⟨c,u,h3,hu⟩
 ·rintro j t df g q ⟨rfl,h1,hg,c,u,h3,hu⟩ h4;obtain⟨y,o,-,-⟩:=af (l:=x.1) (j:=j) (by omega);obtain⟨z,hz,i,-⟩:=af (l:=nU x.1) (j:=j) (by omega);have m:z=1+(y.toNat:Int) % 4:=by
   have:(nU x.1)[j]?=some (1+(y.toNat:Int) % 4):=by simp[nU,show j<5 by omega,o]
   rw[this]at hz;injection hz with hz;exact hz.symm
  obtain⟨row,p,B⟩:=A j y o;rw[ea.1 B]at p;have hlt:j<rows.length:=by omega
  have w:y.toNat<256:=y.toNat_lt;have C:0<=(y.toNat:Int) % 4:=by omega
  have D:(y.toNat:Int) % 4<4:=by omega
  simp only[sz,simprocAttr,h1,h3,h4,hg,n,hlt,p,ef .u8 (show (0:Int)<=(y.toNat:Int) by omega) (show (0:Int)<4 by decide),an (show -2^63<=(y.toNat:Int) % 4 by omega) (show (y.toNat:Int) % 4<2^63 by omega),an (show -2^63<=1+(y.toNat:Int) % 4 by omega) (show 1+(y.toNat:Int) % 4<2^63 by omega)];refine aM (new:=[ci (1+(y.toNat:Int) % 4)]) (hu.step (Fr.new _ _)) (by simp[sx,sy,ci]) (by simp) (by simp[aH];omega) λv2 g2 hv2 n2 f2 _ l2=>?_;simp only[sz,simprocAttr,h1,h4];refine⟨?_,?_,_,rfl,?_⟩
  ·rw[f2 0 (by simp) (λe=>by have:=(hu.lt e).1;omega),G.new_h,aq,hg]
  ·simp at n2;omega
  ·rw[i,m];simpa [ci] using hv2
 ·rintro t df g ⟨rfl,h1,hg,c,u,h3,hu⟩;rw[XZ (by omega)]at hu;simp only[sz,simprocAttr,kh,h3];exact⟨_,hu.ints (by omega)⟩
def KU{g:G}{b sz:Nat}{u:AV}{rows:List (List AV)}(hu:Own g b u sz rows){n:Nat}(hn:n<=rows.length) :
  ∃y,fE sz u none (some (XE (n:Int))) g=.val y/\ak g.h sz y=some (rows.take n):=by
 rcases hu with⟨rfl,rfl⟩|⟨id,ep,lo,h1,h2,rfl,h3⟩
 ·have:n=0:=by simpa using hn
  subst this;exact⟨.XC,rfl,rfl⟩
 ·simp only[fE,ip,h3,Yl,Yl,YO,ay,YT,aa,Yt,XH,if_true,aS,YU,Zo];simp only[cd];rw[show ax (n.ble rows.length) (some n) none=some n from by rw[aa,XO (by simpa using hn)]];dsimp only
  by_cases h0:rows=[]
  ·subst h0;have:n=0:=by simpa using hn
   subst this;cases lo
   ·exact⟨_,rfl,rfl⟩
   ·exact⟨_,rfl,uh _ _ _ _⟩
  ·have hb:rows.length.beq 0=false:=by cases rows with|nil=>exact absurd rfl h0|cons a l=>rfl
   rw[hb];refine⟨_,rfl,?_⟩;rw[bi,h3,ck,dk,Zc]
def Ey{g:G}{b sz:Nat}{u:AV}{rows:List (List AV)}(hu:Own g b u sz rows){n:Nat}(hn:n<=rows.length) :
  ∃y,fE sz u (some (XE (n:Int))) none g=.val y/\ak g.h sz y=some (rows.drop n):=by
 rcases hu with⟨rfl,rfl⟩|⟨id,ep,lo,h1,h2,rfl,h3⟩
 ·have:n=0:=by simpa using hn
  subst this;exact⟨.XC,rfl,rfl⟩
 ·simp only[fE,ip,h3,Yl,Yl,YO,ay,YT,aa,Yt,XH,if_true,aS,YU,Zo];simp only[cd];rw[show ax (n.ble rows.length) (some n) none=some n from by rw[aa,XO (by simpa using hn)]];dsimp only
  by_cases h0:rows.length=n
  ·subst h0;rw[XO (Yl _),List.drop_length];cases lo
   ·exact⟨_,rfl,rfl⟩
   ·exact⟨_,rfl,uh _ _ _ _⟩
  ·rw[XS (λe=>h0 (YJ e))];refine⟨_,rfl,?_⟩;rw[bi,h3,ck,dk,XZ (by simp)]
def rH(os:List UInt8)(k:Nat):Nat:=if k<os.length then ((os[k]?.map UInt8.toNat).getD 0) % (k+1) else 0
def AC(os:List UInt8):Nat->List Int
 |0=>[]
 |k+1=>(AC os k).take (rH os k)++(k:Int)::(AC os k).drop (rH os k)
def tb(os:List UInt8):∀k,(AC os k).length=k
 |0=>rfl
 |k+1=>by simp only[AC,Yo,Yp,X5,ZD,tb os k];omega
def Ee[Xr]{d k:Nat}{g:G}{P:Nat->Prop}{v:AV}{x:JO}(hd:0<d)(hm:WG x P k g.h v) :
  ∃r,ah C0 d 47 [v] g=.val r/\IT 0 (AC x.2.2 (min x.1.length 5)) r:=by
 obtain⟨v',e,cs,rfl,hc⟩:=mK (di x) (by decide) d hm;obtain⟨a,b,rfl,B,hB⟩:=xE.1 hc;have o:∀g:G,WG x Xt (max k d) g.h (.agg [a,.int .u16 (x.2.1.toNat:Int),b]):=λg=>⟨_,rfl,xE.2 ⟨a,b,rfl,B.tree (XH _),hB.tree (XH _)⟩⟩;obtain⟨rows,w,M,I,N⟩:=hB.all;have w:∀h',ak h' 1 b=some rows:=w;rw[WL];refine aP n9 (xs:=[.agg [a,.int .u16 (x.2.1.toNat:Int),b]]) (by simp only[aD,e]) (by simp[dG]) (aI _) (by decide) hd ?_;have hL:(nU x.1).length=min x.1.length 5:=by simp[nU];omega
 simp only[sz,simprocAttr,dG,fI];refine aU (min x.1.length 5) (by omega) (λj t df g=>df=[]/\Xs t 1=Xq 0/\g.h.get 0=Xy 3 [[a,.int .u16 (x.2.1.toNat:Int),b]]/\1<=g.nx/\∃u,Xs t 3=u/\Own g 1 u 1 ((AC x.2.2 j).map ci))
  ⟨rfl,by simp[sx],by simp[sx],by simp[sx],_,rfl,.inl ⟨by simp[sx],rfl⟩⟩ (by simp[sx]) (by decide)
  (by rintro j t df g v s (rfl|rfl|rfl)<;>simp[sx]) ?_ ?_ ?_
 ·rintro j t df g D ⟨rfl,h1,hg,c,u,h3,hu⟩ h4;simp only[sz,simprocAttr,h1,h4,hg];refine aG (Ni (XR d) (o _)) λr hr=>?_;simp only[sz,simprocAttr,h1,h4,hg,(hr.sl .nil).len,hL];exact⟨c,u,h3,hu⟩
 ·rintro j t df g D ⟨rfl,h1,hg,c,u,h3,hu⟩ h4;have F:((AC x.2.2 j).map ci).length=j:=by rw[XN,tb]
  have E:rH x.2.2 j<=j:=by
   unfold rH;split
   ·have:=YX (((x.2.2)[j]?.map UInt8.toNat).getD 0) (show 0<j+1 by omega);omega
   ·omega
  have key:∀(t:T) (Q:QT),Xs t 1=Xq 0->Xs t 3=u->Xs t 4=XE (j:Int)->Xs t 5=XE (rH x.2.2 j:Int) ->
    (∀(t':T) (g':G),Xs t' 1=Xq 0->Xs t' 4=XE (j:Int)->g'.h.get 0=Xy 3 [[a,.int .u16 (x.2.1.toNat:Int),b]]->1<=g'.nx->(∃u,Xs t' 3=u/\Own g' 1 u 1 ((AC x.2.2 (j+1)).map ci))->Q .norm t' [] g') ->
    wp C0 (d+1) none cW Q t [] g:=by
   intro t Q h1 h3 h4 h5 kk;obtain⟨O,J,w1⟩:=KU hu (n:=rH x.2.2 j) (by omega);simp only[sz,simprocAttr,cW,h3,h5,YD,Yz,J];refine aM (rows:=[]) (b:=1) (.inl ⟨rfl,rfl⟩) w1 c (by simp[aH];omega) λv1 g1 hv1 n1 f1 vid1 _=>?_;simp only[sz,simprocAttr,h4];refine aM (new:=[ci (j:Int)]) (hv1.step (Fr.new _ _)) (by simp[sx,sy,ci]) (by simp) (by simp[aH,tb];omega) λv2 g2 hv2 n2 f2 vid2 _=>?_;have p:Own g1 1 u 1 ((AC x.2.2 j).map ci):=hu.fr n1 λi hi=>f1 i (hu.lt hi).2 (by simp[W5]);have m:∀i,i<g.nx->W5 v1≠some i:=λi hi e=>by
    rcases vid1 with h|⟨i',h,C⟩
    ·rw[h]at e;cases e
    ·rw[h]at e;injection e with e;omega
   have q:Own g2 1 u 1 ((AC x.2.2 j).map ci):=p.fr (by simp at n2;omega) λi hi=>by have hlt:=(hu.lt hi).2;rw[f2 i (by simp;omega) (m i hlt),G.new_h,aq]
   obtain⟨R,K,w2⟩:=Ey q (n:=rH x.2.2 j) (by omega);simp only[sz,simprocAttr,h3,h5,YD,Yz,K];refine aM hv2 w2 (by simp at n2;omega) (by simp[aH,tb];omega) λv3 g3 hv3 n3 f3 _ _=>?_;simp only[sz,simprocAttr];refine kk _ _ (by simp[sx,h1]) (by simp[sx,h4]) ?_ (by simp at n2;omega) ⟨_,rfl,?_⟩
   ·rw[f3 0 (by simp at n2;omega) (λe=>by have:=(hv2.lt e).1;omega),f2 0 (by simp) (m 0 (by omega)),G.new_h,aq,f1 0 (by omega) (by simp[W5]),hg]
   ·simp only[sx,↓reduceIte];simpa [AC,aaC,List.map_drop] using hv3
  simp only[sz,simprocAttr,h1,h4,hg,hB.len];refine bk (λhb=>?_) (λhb=>?_)
  ·have l:j<x.2.2.length:=by simp at hb;omega
   obtain⟨y,z⟩:∃y,x.2.2[j]?=some y:=⟨_,XJ l⟩;obtain⟨row,A,L⟩:=I j y z;rw[ea.1 L]at A;have H:y.toNat<256:=y.toNat_lt;have hlt:j<rows.length:=by omega
   have f:((rH x.2.2 j:Nat):Int)=(y.toNat:Int) % ((j:Int)+1):=by unfold rH;rw[XO l,z];simp
   simp only[sz,simprocAttr,h1,h4,hg,w,hlt,A,an (show -2^63<=(y.toNat:Int) by omega) (show (y.toNat:Int)<2^63 by omega),an (show -2^63<=(j:Int)+1 by omega) (show (j:Int)+1<2^63 by omega),ef .i64 (show (0:Int)<=(y.toNat:Int) by omega) (show 0<(j:Int)+1 by omega)];refine key _ _ (by simp[sx,h1]) (by simp[sx,h3]) (by simp[sx,h4]) (by simp[sx,f]) λt' g' e1 e4 e0 en eu=>?_;simp only[sy,e1,e4,e0];exact⟨en,eu⟩
  ·have f:rH x.2.2 j=0:=by unfold rH;rw[XS];simp at hb;omega
   simp only[sx];refine key _ _ (by simp[sx,h1]) (by simp[sx,h3]) (by simp[sx,h4]) (by simp[sx,f]) λt' g' e1 e4 e0 en eu=>?_;simp only[sy,e1,e4,e0];exact⟨en,eu⟩
 ·rintro t df g ⟨rfl,h1,hg,c,u,h3,hu⟩;simp only[sz,simprocAttr,e_,h3];exact⟨_,hu.ints (by rw[tb];omega)⟩
def qD(Xv:List Int):List Int->Nat->List Int×Bool
 |XB,0=>(XB,false)
 |XB,k+1=>if (XB[k]?.getD 0)+1<(Xv[k]?.getD 0) then (XB.set k ((XB[k]?.getD 0)+1),true) else qD Xv (XB.set k 0) k
def rL(Xv XB:List Int):List Int×Bool:=qD Xv XB XB.length
def ba5(Xv:List Int):Nat->List Int->List (List Int)
 |0,_=>[]
 |f+1,v=>v::(if (rL Xv v).2 then ba5 Xv f (rL Xv v).1 else [])
def bb_(Xv:List Int):List (List Int):=ba5 Xv (EO Xv).toNat (List.replicate Xv.length 0)
def tF(l:List Int)(h:Int):Int:=l.foldr (λc q=>q / c) h
def vG(l:List Int)(h:Int)(i:Nat):Int:=tF (l.drop (i+1)) h % l[i]?.getD 1
def EN(l:List Int)(h:Int):List Int:=(List.range l.length).map (vG l h)
def Mk{l:List Int}{h:Int}(hl:∀c∈l,0<c)(hh:0<=h):0<=tF l h/\tF l h<=h:=by
 induction l with
 |nil=>exact⟨hh,Sq _⟩
 | cons c l ih =>let⟨a,b⟩:=ih λx hx=>hl x (by simp[hx]);have hc:=hl c (by simp);show 0<=tF l h / c/\tF l h / c<=h;exact⟨aa4 a (by omega),abQ (Int.ediv_le_self _ a) b⟩
def Ol[Xr]{d k:Nat}{g:G}{P:Nat->Prop}{v:AV}{l:List Int}{h:Int}(hd:0<d)(hv:Xu P k g.h l v)(hl:l.length<=1000)(hc:∀c∈l,0<c)(hh:0<=h/\h<2^63) :
  ∃r,ah C0 d 104 [v,XE h] g=.val r/\IT 0 (EN l h) r:=by
 obtain⟨v',e,z⟩:=aB hv d;rw[WL];refine aP B0 (xs:=[v',XE h]) (by simp only[aD,e,cP 0]) (by simp[oq]) (aI _) (by decide) hd ?_;have vl:∀g,bC .slice v' g=.val (XE (l.length:Int)):=λg=>(z .nil).len g;simp only[sz,simprocAttr,oq,vl];refine l_ (b:=0) (n:=l.length) (by simp[aH];omega) (by simp[aH];omega) (by simp) λu g1 hu n1 f1 v1=>?_;simp only[sz,simprocAttr,vl,an (show -2^63<=(l.length:Int) - 1 by omega) (show (l.length:Int) - 1<2^63 by omega)];refine tj (m:=l.length) (by omega) (λj t df g=>df=[]/\St t [(0,v'),(1,XE (tF (l.drop j) h)),(5,u)]/\Own g 0 u 1 (((List.range l.length).map λi=>if j<=i then vG l h i else 0).map ci))
  ⟨rfl,by simp[sx,St,tF],?_⟩ (by simp[sx]) (by decide) (by rintro j t df g v s (rfl|rfl|rfl|rfl|rfl)<;>simp[sx,St]) ?_ ?_
 ·have:((List.range l.length).map λi=>if l.length<=i then vG l h i else 0).map ci=List.replicate l.length [XE 0]:=by
   refine aaX (by simp) λi h1 h2=>?_;have:i<l.length:=by simpa using h1
   simp[ci];omega
  rw[this];exact hu
 ·rintro j t df g p ⟨rfl,⟨h0,h1,h5,-⟩,ho⟩ h6;obtain⟨c,a,-,hm⟩:=af (l:=l) (j:=j) p;have f:=hc c hm;obtain⟨q0,A⟩:=Mk (l:=l.drop (j+1)) (h:=h) (λx hx=>hc x (Y2 hx)) hh.1;have hlt:j<(((List.range l.length).map λi=>if j+1<=i then vG l h i else 0).map ci).length:=by simp;omega
  have w:(((List.range l.length).map λi=>if j+1<=i then vG l h i else 0).map ci)[j]?=some (ci 0):=by rw[XK,XK,ZO p];show some (ci (if j+1<=j then _ else 0))=_;rw[aJ]
  have hcl:(l.map ci)[j]?=some (ci c):=by rw[XK,a];rfl
  have q:j<(l.map ci).length:=by simpa using p
  have y:tF (l.drop j) h=tF (l.drop (j+1)) h / c:=by
   have:l.drop j=c::l.drop (j+1):=by rw[YY p];congr 1;rw[XJ p]at a;injection a
   rw[this];rfl
  have o:vG l h j=tF (l.drop (j+1)) h % c:=by rw[vG,a];rfl
  simp only[sz,simprocAttr,h0,h1,h5,h6,ho.rows,hlt,(z g.h).ints,hcl,q,ci,ef .i64 q0 f];refine bF (row:=ci 0) (row':=ci (vG l h j)) ho w rfl rfl (by rw[o];rfl) λg2 o2 n2 f2=>?_;have e2:(((List.range l.length).map λi=>if j+1<=i then vG l h i else 0).map ci).set j (ci (vG l h j))=((List.range l.length).map λi=>if j<=i then vG l h i else 0).map ci:=by
   refine aaX (by simp) λi h1 h2=>?_;rw[List.getElem_set];simp only[abo,List.getElem_range]
   split
   ·rename_i hi;subst hi;rw[XO (XH _)]
   ·rename_i hi
    by_cases hji:j+1<=i
    ·rw[XO hji,dk]
    ·rw[XS hji,aJ]
  rw[e2]at o2;simp only[sz,simprocAttr,h0,h1,h5,h6,(z g2.h).ints,hcl,q,ci,Lp .i64 q0 f,<-y,St];have hb:=Mk (l:=l.drop j) (h:=h) (λx hx=>hc x (Y2 hx)) hh.1;refine⟨?_,o2⟩;rw[an]
 ·rintro t df g ⟨rfl,⟨h0,h1,h5,-⟩,ho⟩;simp only[sz,simprocAttr,pV,h5];have:((List.range l.length).map λi=>if 0<=i then vG l h i else 0)=EN l h:=by simp[EN]
  rw[this]at ho;exact⟨λ_=>True,ho.ints (by simp[EN];omega)⟩
def EL:List Int->List Int->Int
 |_::cs,v::vs=>v*EO cs+EL cs vs
 |_,_=>0
def Wr(Xv XB:List Int):Prop:=Xl (λc v=>(0:Int)<=v/\v<c) Xv XB
def bz:∀{Xv XB:List Int},(∀c∈Xv,1<=c/\c<=4)->Wr Xv XB->0<=EL Xv XB/\EL Xv XB<EO Xv
 |[],[],_,_=>⟨Sq _,by decide⟩
 | c::cs,v::vs,hc,h=>by let⟨a,b⟩:=bz (λx hx=>hc x (by simp[hx])) h.2;obtain⟨k,-⟩:=cH (l:=cs) λx hx=>hc x (by simp[hx]);have hv:=h.1;rw[dM];show 0<=v*EO cs+EL cs vs/\v*EO cs+EL cs vs<c*EO cs;have h1:0<=v*EO cs:=Zg hv.1 (by omega);have h2:(v+1)*EO cs<=c*EO cs:=YI (by omega) (by omega);rw[Zz,Ra]at h2;omega
 |[],_::_,_,h=>h.elim
 |_::_,[],_,h=>h.elim
def Wr.drop:∀{Xv XB:List Int} (j:Nat),Wr Xv XB->Wr (Xv.drop j) (XB.drop j)
 |_,_,0,h=>h
 |[],[],j+1,_=>trivial
 |_::_,_::_,j+1,h=>Wr.drop j h.2
 |[],_::_,_,h=>h.elim
 |_::_,[],_,h=>h.elim
def Wr.len{Xv XB:List Int}(h:Wr Xv XB):XB.length=Xv.length:=(Xl.len h).symm
def Ix[Xr]{d k k2:Nat}{g:G}{P P2:Nat->Prop}{v w:AV}{Xv XB:List Int}(hd:0<d)(hv:Xu P k g.h Xv v)(hw:Xu P2 k2 g.h XB w)(hl:Xv.length<=13)(hc:∀c∈Xv,1<=c/\c<=4)(hin:Wr Xv XB) :
  ah C0 d 67 [v,w] g=.val (XE (EL Xv XB)):=by
 obtain⟨v',e,E⟩:=aB hv d;obtain⟨w',e2,I⟩:=aB hw d;have H:=hin.len;rw[WL];refine cq Dh (xs:=[v',w']) (by simp only[aD,e,e2]) (by simp[qR]) hd ?_;have vl:∀g,bC .slice v' g=.val (XE (Xv.length:Int)):=λg=>(E .nil).len g;simp only[sz,simprocAttr,qR,vl,an (show -2^63<=(Xv.length:Int) - 1 by omega) (show (Xv.length:Int) - 1<2^63 by omega)];refine tj (m:=Xv.length) (by omega) (λj t df g=>df=[]/\St t [(0,v'),(1,w'),(5,XE (EL (Xv.drop j) (XB.drop j))),(6,XE (EO (Xv.drop j)))])
  ⟨rfl,?_⟩ (by simp[sx]) (by decide) (by rintro j t df g v s (rfl|rfl|rfl|rfl|rfl)<;>simp[sx,St]) ?_ ?_
 ·simp[sx,St,EL,EO]
 ·rintro j t df g p ⟨rfl,⟨h0,h1,h5,h6,-⟩⟩ h7;obtain⟨c,a,-,hm⟩:=af (l:=Xv) (j:=j) p;obtain⟨x,b,-,-⟩:=af (l:=XB) (j:=j) (by omega);have dc:Xv.drop j=c::Xv.drop (j+1):=by rw[YY p];rw[XJ p]at a;injection a with a;rw[a]
  have dv:XB.drop j=x::XB.drop (j+1):=by rw[YY (by omega)];rw[NP]at b;injection b with b;rw[b]
  have i:=hin.drop j;have o:∀y∈Xv.drop j,1<=y/\y<=4:=λy hy=>hc y (Y2 hy);have f:=bz o i;obtain⟨C,D⟩:=cH o;have F:=bz (λy hy=>hc y (Y2 hy)) (hin.drop (j+1));obtain⟨J,q2⟩:=cH (l:=Xv.drop (j+1)) λy hy=>hc y (Y2 hy);have pw:∀n,n<=13->(4:Int) ^ n<=67108864:=λn hn=>by
   have:=lV hn;have e:(4:Int) ^ 13=67108864:=by decide
   omega
  have pw1:=pw (Xv.drop j).length (by simp;omega);rw[dc,dv]at f i;rw[dc]at C D pw1;have z:0<=x/\x<c:=i.1;have B:0<=x*EO (Xv.drop (j+1)):=Zg z.1 (by omega);rw[dM]at f C D;have f:0<=x*EO (Xv.drop (j+1))+EL (Xv.drop (j+1)) (XB.drop (j+1))/\x*EO (Xv.drop (j+1))+EL (Xv.drop (j+1)) (XB.drop (j+1))<c*EO (Xv.drop (j+1)):=f;have r:j<(Xv.map ci).length:=by simpa using p
  have u:j<(XB.map ci).length:=by rw[XN];omega
  have hcl:(Xv.map ci)[j]?=some (ci c):=by rw[XK,a];rfl
  have A:(XB.map ci)[j]?=some (ci x):=by rw[XK,b];rfl
  have q:EO (Xv.drop (j+1))*c=c*EO (Xv.drop (j+1)):=Z5 _ _;simp only[sz,simprocAttr,h0,h1,h5,h6,h7,(E g.h).ints,(I g.h).ints,hcl,r,u,A,ci,an (show -2^63<=x*EO (Xv.drop (j+1)) by omega) (show x*EO (Xv.drop (j+1))<2^63 by omega),an (show -2^63<=EL (Xv.drop (j+1)) (XB.drop (j+1))+x*EO (Xv.drop (j+1)) by omega) (show EL (Xv.drop (j+1)) (XB.drop (j+1))+x*EO (Xv.drop (j+1))<2^63 by omega),an (show -2^63<=EO (Xv.drop (j+1))*c by omega) (show EO (Xv.drop (j+1))*c<2^63 by omega),St];refine⟨?_,?_⟩
  ·rw[dc,dv];show XE (_+_)=XE (x*EO (Xv.drop (j+1))+EL _ _);rw[abP]
  ·rw[dc,dM,q]
 ·rintro t df g ⟨rfl,⟨h0,h1,h5,h6,-⟩⟩;simp only[sz,simprocAttr,sg,h5]
def gE{l:List Int}(hc:∀c∈l,1<=c/\c<=4)(hl:l.length<=13):vI l=EO l:=by
 have pw:∀n,n<=13->(4:Int) ^ n<=67108864:=λn hn=>by
  have:=lV hn;have e:(4:Int) ^ 13=67108864:=by decide
  omega
 have key:∀j,j<=l.length->vI (l.take j)=EO (l.take j):=by
  intro j
  induction j with
  |zero=>intro _;rfl
  | succ j ih =>intro k;obtain⟨x,hx,h,hm⟩:=af (l:=l) (j:=j) (by omega);have ih:=ih (by omega);have hb:=cH (l:=l.take (j+1)) λy hy=>hc y (Ym hy);have:=pw (l.take (j+1)).length (by simp;omega);rw[h]at hb this ⊢;rw[xC]at hb ⊢;show vI (l.take j++[x])=_;unfold vI at ih ⊢;rw[ZM,ih];show IntKind.wrap .i64 (EO (l.take j)*x)=_;rw[an]
 have:=key l.length (XH _);rwa [XV]at this
end
end Hx
end
section
namespace Hx
open Go
def bb1(x:NO)(roots:List Int)(V:Nat->Int):List Int:=(x.frm.map λq=>V q.toNat)++(x.Rl.map λr=>roots[r.toNat]?.getD 0)
def bb2(m:WJ)(roots act:List Int)(V:Nat->Int)(i:Nat)(x:NO):Int:=if 0<=act[i]?.getD 0 then act[i]?.getD 0 else x.out[(EL (ba_ m x) (bb1 x roots V)).toNat]?.getD 0
def Sol(m:WJ)(roots act:List Int)(V:Nat->Int):Prop:=∀(i:Nat) (x:NO),m.XD[i]?=some x->V i=bb2 m roots act V i x
noncomputable def S.V(m:WJ)(roots act:List Int):Nat->Int:=Classical.epsilon (Sol m roots act)
noncomputable def bc_(m:WJ)(roots act:List Int):List Int:=(List.range m.XD.length).map (S.V m roots act)
def GT{Xv XB:List Int}(hl:Xv.length=XB.length)(h:∀(i:Nat) c v,Xv[i]?=some c->XB[i]?=some v->0<=v/\v<c):Wr Xv XB:=by
 induction Xv generalizing XB with
 | nil=>cases XB with
  |nil=>trivial
  |cons v XB=>simp at hl
 | cons c Xv ih=>cases XB with
  |nil=>simp at hl
  |cons v XB=>exact⟨h 0 c v rfl rfl,ih (by simpa using hl) λi c' v' h1 h2=>h (i+1) c' v' (by simpa using h1) (by simpa using h2)⟩
def Wr.get{Xv XB:List Int}(h:Wr Xv XB){i:Nat}{c:Int}(hc:Xv[i]?=some c):∃v,XB[i]?=some v/\0<=v/\v<c:=Xl.get h hc
def e6(cs vs:List Int)(a:Int):Int:=(cs.zip vs).foldl (λa p=>a*p.1+p.2) a
def yP:∀(cs vs:List Int) (a:Int),cs.length=vs.length->e6 cs vs a=a*EO cs+EL cs vs
 |[],[],a,_=>by simp[e6,EO,EL]
 | c::cs,v::vs,a,h=>by show e6 cs vs (a*c+v)=_;rw[yP cs vs _ (by simpa using h),dM];show _=_+(v*EO cs+EL cs vs);rw[Zz,ZB,Int.add_assoc]
 |[],_::_,_,h=>by simp at h
 |_::_,[],_,h=>by simp at h
end Hx
end
section
namespace Hx
open Go
noncomputable section
def hz(cs vs:List Int)(j:Nat):Int:=((cs.zip vs).take j).foldl (λa p=>a*p.1+p.2) 0
def Wr.take{Xv XB:List Int}(h:Wr Xv XB)(j:Nat):Wr (Xv.take j) (XB.take j):=Xl.take h j
section
variable {d k:Nat}{m:WJ}{roots act:List Int}{V:Nat->Int}{a b w u:AV}{p1 p2 p3 p4 iu:Nat}{hid:Int}{r:Nat->Nat}
end
def bj(ag:Bool)(n l sz off:Nat)(row:List AV)(g:G):uW ag n (.Xn l sz [row] 0 off) g=VW (cD ag n row off):=rfl
section
variable {d:Nat}{m:WJ}{a b:AV}
end
def lB{C:Xg}{d:Nat}{r:List SR}{t:T}{g:G}{K:AV->G->Prop}{id:Nat}(hg:g.h.get id=.Xi true)(h:vp r t (g.put id (.Xi false)) λvs=>K (fg vs) (g.put id (.Xi false))):mN C d r t [.mark id] g K:=by
 unfold mN;have:eE (I C) d [.mark id] g=some (g.put id (.Xi false)):=by simp only[eE,G.get_eq,hg]
 rw[this];exact h
def Fam(g:G)(b K:Nat)(V:Nat->AV)(W:Nat->List (List AV)):Prop :=(∀k,k<K->Own g b (V k) 1 (W k))/\∀k l,k<K->l<K->k≠l->∀id,W5 (V k)=some id->W5 (V l)≠some id
def VI(c:Nat->Int)(V:Nat->AV)(i:Nat):List AV:=[XE (c i),V (3*i+1),V (3*i+2),V (3*i+3)]
def QV(n:Nat)(c:Nat->Int)(V:Nat->AV):List (List AV):=(List.range n).map (VI c V)
structure ME where
 (n p4 q i5 p7 i9 b:Nat)
 (nv w5 w9 e7:AV)
 (gr:Int)
 (WA:List AV)
 (Wj:List (List AV))
 (us:List UInt8)
structure ME.Ok (e:ME):Prop where
 ord:1<e.q/\e.q<e.p4/\e.p4<e.i5/\e.i5<e.p7/\e.p7<e.i9/\e.i9<e.b
 n1:1<=e.n/\e.n<=4
 g1:2<=e.gr/\e.gr<=12
 vn:W5 e.nv=some e.q
 v5:W5 e.w5=some e.i5
 v9:W5 e.w9=some e.i9
 l7:Xu Xt 0 .nil e.us e.e7
structure MI (e:ME) (g:G) (V:Nat->AV) (W:Nat->List (List AV)) (c:Nat->Int) (ow:List Bool) (cap:Nat):Prop where
 h0:g.h.get 0=Xy 5 [e.WA]
 h1:g.h.get 1=Xy 3 [[XE 0,.XC,.XC]]
 hN:Own g 0 e.nv 4 (QV e.n c V)
 h4:g.h.get e.p4=Xy 3 [[XE e.gr,V 0,e.nv]]
 h5:Own g 0 e.w5 4 e.Wj
 h7:∃cc:Int,0<=cc/\cc<=(cap:Int)/\g.h.get e.p7=Xy 2 [[e.e7,XE cc]]
 h9:Own g 0 e.w9 1 (ow.map λx=>[.bool x])
 fam:Fam g e.b (3*e.n+1) V W
 nx:e.b<=g.nx
section
variable {e:ME}{g g':G}{V:Nat->AV}{W:Nat->List (List AV)}{c:Nat->Int}{ow:List Bool}{cap:Nat}
def qA{v:AV}{i j:Nat}(h:W5 v=some i)(h':W5 v=some j):i=j:=by rw[h]at h';injection h'
structure MP (e:ME) (g:G) (V V':Nat->AV) (W:Nat->List (List AV)) (c:Nat->Int) (ow:List Bool) (cap:Nat):Prop where
 h0:g.h.get 0=Xy 5 [e.WA]
 h1:g.h.get 1=Xy 3 [[XE 0,.XC,.XC]]
 hN:Own g 0 e.nv 4 (QV e.n c V)
 h4:g.h.get e.p4=Xy 3 [[XE e.gr,V 0,e.nv]]
 h5:Own g 0 e.w5 4 e.Wj
 h7:∃cc:Int,0<=cc/\cc<=(cap:Int)/\g.h.get e.p7=Xy 2 [[e.e7,XE cc]]
 h9:Own g 0 e.w9 1 (ow.map λx=>[.bool x])
 fam:Fam g e.b (3*e.n+1) V' W
 nx:e.b<=g.nx
end
structure MD (e:ME) (W:Nat->List (List AV)) (R:List (List Int)) (F N O:Nat->List Int):Prop where
 r:Xl (Rp.rp Xt 0 .nil) R (W 0)
 f:∀i,i<e.n->W (3*i+1)=(F i).map ci
 n:∀i,i<e.n->W (3*i+2)=(N i).map ci
 o:∀i,i<e.n->W (3*i+3)=(O i).map ci
def SB{g:G}{b:Nat}(hb:b<=g.nx)(cs:List AV):Own (g.new (Xy 1 [cs])) b (.Xj g.nx 0 0 1 none) 1 [cs] :=.inr ⟨g.nx,0,false,hb,by simp,rfl,by simp[aY]⟩
def As{α β γ:Type}{R:β->γ->Prop}{f:α->β}{h:α->γ}:∀{l:List α},(∀x∈l,R (f x) (h x))->Xl R (l.map f) (l.map h)
 |[],_=>trivial
 |a::l,hl=>⟨hl a (by simp),As λx hx=>hl x (by simp[hx])⟩
def Xu.wide{α:Type} [Rp α]{P:Nat->Prop}{k k':Nat}{h h':H}{l:List α}{v:AV}(r:Xu Xt k h l v)(hk:k<=k'):Xu P k' h' l v:=by let⟨w,hw,q⟩:=Rp.tree (P:=P) (k':=k') (h':=h') (show Rp.rp Xt k h l [v] from ⟨v,rfl,r⟩) hk;cases hw;exact q
structure M0 (n p4 q i5 p7:Nat) (nv w5 cl:AV) (WA:List AV) (Wj:List (List AV)) (gr:Int) (g:G) (cf:Nat->Int):Prop where
 h0:g.h.get 0=Xy 5 [WA]
 h1:g.h.get 1=Xy 3 [[XE 0,.XC,.XC]]
 hN:Own g 2 nv 4 (QV n cf λ_=>.XC)
 h4:g.h.get p4=Xy 3 [[XE gr,.XC,nv]]
 h5:Own g 2 w5 4 Wj
 h7:g.h.get p7=Xy 2 [[cl,XE 0]]
 nx:p7<g.nx
section
variable {n p4 q i5 p7:Nat}{nv w5 cl:AV}{WA:List AV}{Wj:List (List AV)}{gr:Int}{g g':G}{cf cf':Nat->Int}
end
def MX:AV->Option Nat
 |.Xj id _ _ _ _=>some id
 |.W9 id _ _ _=>some id
 |_=>none
def Bx(g:G)(b:Nat)(v:AV)(row:List AV):Prop:=∃id,b<=id/\id<g.nx/\v=Xq id/\g.h.get id=Xy row.length [row]
inductive En where
 |sl (sz:Nat) (rows:List (List AV))
 |bx (row:List AV)
def En.ok(g:G)(b:Nat)(v:AV):En->Prop
 |.sl sz rows=>Own g b v sz rows
 |.bx row=>Bx g b v row
def cJ{g:G}{b:Nat}{v:AV}{sz:Nat}{rows:List (List AV)}(h:Own g b v sz rows):MX v=W5 v:=by rcases h with⟨rfl,-⟩|⟨id,ep,lo,h1,h2,rfl,h3⟩<;>rfl
def En.lt{g:G}{b:Nat}{v:AV}{e:En}(h:e.ok g b v){i:Nat}(hi:MX v=some i):b<=i/\i<g.nx:=by
 cases e with
 | sl sz rows =>have h:Own g b v sz rows:=h;rw[cJ h]at hi;exact h.lt hi
 | bx row =>obtain⟨id,h1,h2,rfl,h3⟩:=h;cases hi;exact⟨h1,h2⟩
def En.fr{g g':G}{b:Nat}{v:AV}{e:En}(h:e.ok g b v)(hn:g.nx<=g'.nx)(hf:∀i,MX v=some i->g'.h.get i=g.h.get i):e.ok g' b v:=by
 cases e with
 | sl sz rows =>have h:Own g b v sz rows:=h;exact h.fr hn λi hi=>hf i (by rw[cJ h];exact hi)
 | bx row =>obtain⟨id,h1,h2,rfl,h3⟩:=h;exact⟨id,h1,by omega,rfl,by rw[hf id rfl,h3]⟩
section
variable {κ:Type}
structure Hp (g:G) (b:Nat) (L:κ->Prop) (V:κ->AV) (E:κ->En):Prop where
 ok:∀k,L k->(E k).ok g b (V k)
 sep:∀k l,L k->L l->k≠l->∀id,MX (V k)=some id->MX (V l)≠some id
 nx:b<=g.nx
variable {g g':G}{b:Nat}{L L':κ->Prop}{V:κ->AV}{E:κ->En}{k:κ}
def Hp.sub(h:Hp g b L V E)(hl:∀k,L' k->L k):Hp g b L' V E:=⟨λk hk=>h.ok k (hl k hk),λk l hk hl2=>h.sep k l (hl k hk) (hl l hl2),h.nx⟩
def Hp.step(h:Hp g b L V E)(hn:g.nx<=g'.nx)(hf:∀i,b<=i->i<g.nx->g'.h.get i=g.h.get i):Hp g' b L V E :=⟨λk hk=>En.fr (h.ok k hk) hn λi hi=>hf i (En.lt (h.ok k hk) hi).1 (En.lt (h.ok k hk) hi).2,h.sep,Ya h.nx hn⟩
def Hp.same(h:Hp g b L V E)(hf:g'.h=g.h)(hn:g.nx<=g'.nx):Hp g' b L V E:=h.step hn λi _ _=>by rw[hf]
def Hp.own(h:Hp g b L V E)(hk:L k){sz:Nat}{rows:List (List AV)}(he:E k=.sl sz rows):Own g b (V k) sz rows:=by have:=h.ok k hk;rw[he]at this;exact this
def Hp.box(h:Hp g b L V E)(hk:L k){row:List AV}(he:E k=.bx row):Bx g b (V k) row:=by have:=h.ok k hk;rw[he]at this;exact this
end
section
variable {κ:Type} [DecidableEq κ]
def ups{α:Type}(f:κ->α)(k:κ)(x:α):κ->α:=λj=>if j=k then x else f j
def au{α:Type}(f:κ->α)(k:κ)(x:α):ups f k x k=x:=XO rfl
def ae{α:Type}{f:κ->α}{k j:κ}{x:α}(h:j≠k:=by simp<;>omega):ups f k x j=f j:=XS h
def Rm{α:Type}{f:κ->α}{k:κ}{x:α}(h:f k=x):ups f k x=f:=by
 funext j;by_cases e:j=k
 ·subst e;rw[au,h]
 ·exact ae e
variable {g g':G}{b:Nat}{L L':κ->Prop}{V:κ->AV}{E:κ->En}{k:κ}
def Hp.set(h:Hp g b L V E){v':AV}{e':En}(hk:L k)(ho:e'.ok g' b v')(hn:g.nx<=g'.nx)(hf:∀i,b<=i->i<g.nx->MX (V k)≠some i->g'.h.get i=g.h.get i)
  (hv:MX v'=MX (V k)\/∃i,MX v'=some i/\g.nx<=i):Hp g' b L (ups V k v') (ups E k e'):=by
 refine⟨λj hj=>?_,λj l hj hl hne id e1 e2=>?_,Ya h.nx hn⟩
 ·by_cases e:j=k
  ·subst e;rw[au,au];exact ho
  ·rw[ae e,ae e];exact En.fr (h.ok j hj) hn λi hi=>hf i (En.lt (h.ok j hj) hi).1 (En.lt (h.ok j hj) hi).2 λe2=>h.sep j k hj hk e i hi e2
 ·have key:∀j,L j->j≠k->∀id,MX (V j)=some id->MX v'≠some id:=λj hj hne id e1 e2=>by
   rcases hv with hv|⟨i,hv,hi⟩
   ·exact h.sep j k hj hk hne id e1 (hv ▸ e2)
   ·rw[hv]at e2;injection e2 with e2;have:=(En.lt (h.ok j hj) e1).2;omega
  by_cases a:j=k
  ·subst a;rw[au]at e1;rw[ae (Y5 hne)]at e2;exact key l hl (Y5 hne) id e2 e1
  ·rw[ae a]at e1
   by_cases c:l=k
   ·subst c;rw[au]at e2;exact key j hj a id e1 e2
   ·rw[ae c]at e2;exact h.sep j l hj hl hne id e1 e2
def Hp.add(h:Hp g b L V E){v':AV}{e':En}(hk:¬L k)(ho:e'.ok g' b v')(hn:g.nx<=g'.nx)(hf:∀i,b<=i->i<g.nx->g'.h.get i=g.h.get i)
  (hv:∀i,MX v'=some i->g.nx<=i) (hl:∀j,L' j->L j\/j=k):Hp g' b L' (ups V k v') (ups E k e'):=by
 refine⟨λj a=>?_,λj l a hl2 hne id e1 e2=>?_,Ya h.nx hn⟩
 ·rcases hl j a with a|rfl
  ·have e:j≠k:=λe=>hk (e ▸ a);rw[ae e,ae e];exact En.fr (h.ok j a) hn λi hi=>hf i (En.lt (h.ok j a) hi).1 (En.lt (h.ok j a) hi).2
  ·rw[au,au];exact ho
 ·have key:∀j,L j->∀id,MX (V j)=some id->MX v'≠some id:=λj a id e1 e2=>by have:=hv id e2;have:=(En.lt (h.ok j a) e1).2;omega
  rcases hl j a with a|rfl
  ·have e:j≠k:=λe=>hk (e ▸ a);rw[ae e]at e1;rcases hl l hl2 with hl2|rfl
   ·have e':l≠k:=λe=>hk (e ▸ hl2);rw[ae e']at e2;exact h.sep j l a hl2 hne id e1 e2
   ·rw[au]at e2;exact key j a id e1 e2
  ·rw[au]at e1;rcases hl l hl2 with hl2|rfl
   ·have e':l≠j:=λe=>hne e.symm;rw[ae e']at e2;exact key l hl2 id e2 e1
   ·exact hne rfl
def Hp.app(h:Hp g b L V E)(hk:L k){sz bytes:Nat}{rows new:List (List AV)}(he:E k=.sl sz rows){x:AV}{K:AV->G->Prop}{D:Xo->Prop}(hx:ak g.h sz x=some new)
  (hr:(rows.length+new.length)*bytes<=aH)
  (kk:∀v' g',Hp g' b L (ups V k v') (ups E k (.sl sz (rows++new)))->g.nx<=g'.nx->(∀i,i<b->g'.h.get i=g.h.get i)->(∀i,i<g.nx->MX (V k)≠some i->g'.h.get i=g.h.get i)->(∀i∈g'.lg,i∈g.lg\/b<=i)->v'.cells=[v']->v'.isTup=false->K v' g') :
  (cZ sz bytes (V k) x g).sat K g D:=by
 have ho:=h.own hk he;refine aM ho hx h.nx hr λv' g' hv' hn hf hvid hlg=>?_;refine kk v' g' (h.set hk hv' hn (λi _ hi hne=>hf i hi (by rw[<-cJ ho];exact hne)) ?_) hn (λi hi=>hf i (XX hi h.nx) λe=>by have:=(ho.lt e).1;omega)
  (λi hi hne=>hf i hi (by rw[<-cJ ho];exact hne)) hlg hv'.cell.1 hv'.cell.2
 rw[cJ hv',cJ ho];exact hvid
def Hp.put(h:Hp g b L V E)(hk:L k){sz n i off:Nat}{rows:List (List AV)}{row row':List AV}(he:E k=.sl sz rows){x:AV}{K:AV->G->Prop}{D:Xo->Prop}(hr:rows[i]?=some row)
  (hl:x.cells.length=n) (ht:x.isTup=false) (hp:cN row off x.cells=some row')
  (kk:∀g',Hp g' b L V (ups E k (.sl sz (rows.set i row')))->g'.nx=g.nx->(∀i,i<b->g'.h.get i=g.h.get i)->(∀i,MX (V k)≠some i->g'.h.get i=g.h.get i)->K .undef g'):(pA n (jK sz (V k) i off) x g).sat K g D:=by
 have ho:=h.own hk he;refine bF ho hr hl ht hp λg' hv' hn hf=>?_;have:=h.set hk (e':=.sl sz (rows.set i row')) hv' (by omega) (λi _ hi hne=>hf i (by rw[<-cJ ho];exact hne)) (.inl rfl);rw[Rm (f:=V) rfl]at this;exact kk g' this hn (λi hi=>hf i λe=>by have:=(ho.lt e).1;omega) λi hne=>hf i (by rw[<-cJ ho];exact hne)
def Hp.putb(h:Hp g b L V E)(hk:L k){row row':List AV}(he:E k=.bx row){id:Nat}(hv:V k=Xq id)(hl:row'.length=row.length):Hp (g.put id (Xy row.length [row'])) b L V (ups E k (.bx row')):=by
 obtain⟨id',h1,h2,h3,h4⟩:=h.box hk he;rw[hv]at h3;injection h3 with h3;subst h3;have:=h.set (g':=g.put id (Xy row.length [row'])) hk (e':=.bx row') (v':=Xq id) ⟨id,h1,by simpa using h2,rfl,by rw[hl];simp[aY]⟩ (by simp) (λi _ hi hne=>by rw[G.put_h,aq (λe=>hne (by rw[hv,e];rfl))]) (.inl (by rw[hv]))
 rw[Rm (f:=V) hv]at this;exact this
end
def bP{C:Xg}{d:Nat}{rd:Option Nat}{l:List SI}{b:SC}{Q:QT}{t:T}{df:List Xo}{g:G}{P:PT}(h1:Qz C d rd l P t df g)(h2:∀t df g,P t df g->wp C d rd b Q t df g):wp C d rd (Xw (.ops l) b) Q t df g:=by
 rw[cX];have:wp C d rd (.ops l) (λe t df g=>e=.norm/\P t df g) t df g:=by rw[HE];simpa using h1
 refine ch _ this ?_;rintro e t df g ⟨rfl,h⟩;exact h2 t df g h
structure Bnd (K:Nat) (m:WJ):Prop where
 r:m.roots.length<=K
 rr:∀x∈m.roots,x.length<=K
 n:m.XD.length<=K
 f:∀x∈m.XD,x.frm.length<=K/\x.Rl.length<=K/\x.out.length<=K
abbrev Ky:Type:=Nat×Nat
structure BD (K R n:Nat) (V:Ky->AV) (E:Ky->En) (Rt:Nat->List Int) (c:Nat->Int) (F:Nat->Nat->List Int):Prop where
 r:∀i,i<R->E (0,i)=.sl 1 ((Rt i).map ci)/\(Rt i).length<=K
 f:∀q i,1<=q->q<=3->i<n->E (q,i)=.sl 1 ((F q i).map ci)/\(F q i).length<=K
 rs:E (4,0)=.sl 1 ((List.range R).map λi=>[V (0,i)])
 ns:E (4,1)=.sl 4 ((List.range n).map λi=>[XE (c i),V (1,i),V (2,i),V (3,i)])
structure TI (g:G) (q:Nat) (m:WJ) (k1 k2 act u1 u2 u3:AV) (A B W:List Int):Prop where
 a1:g.h.get 1=Xy 1 [[act]]
 a2:g.h.get 2=Xy 3 [[.XC,.XC,.XC]]
 a4:g.h.get 4=Xy 4 [[XE m.Xz,k1,k2,XE (bb0 m)]]
 bq:g.h.get q=Xy 3 [[u1,u2,u3]]
 o1:Own g 5 u1 1 (A.map ci)
 o2:Own g 5 u2 1 (B.map ci)
 o3:Own g 5 u3 1 (W.map ci)
 q5:5<=q/\q<g.nx
 n1:∀i,W5 u1=some i->i≠q/\W5 u2≠some i/\W5 u3≠some i
 n2:∀i,W5 u2=some i->i≠q/\W5 u3≠some i
 n3:∀i,W5 u3=some i->i≠q
section
variable {g g':G}{q:Nat}{m:WJ}{k1 k2 act u1 u2 u3:AV}{A B W:List Int}
end
def jR{C:Xg}{d:Nat}{rd:Option Nat}{a b:SC}{Q:QT}{t:T}{df:List Xo}{g:G}{P:PT}(h1:wp C d rd a (λe t df g=>e=.norm/\P t df g) t df g)(h2:∀t df g,P t df g->wp C d rd b Q t df g):wp C d rd (.seq a b) Q t df g:=by rw[cX];refine ch _ h1 ?_;rintro e t df g ⟨rfl,h⟩;exact h2 t df g h
abbrev QI:=Int×Int
def zb{x:QI}{P:Nat->Prop}{k:Nat}{h:H}{v:AV}:WG x P k h v↔v=.agg [XE x.1,XE x.2]:=by
 constructor
 ·rintro⟨cs,rfl,hc⟩;obtain⟨a,b,rfl,h1,h2⟩:=Mr.1 hc;rw[aK.1 h1,aK.1 h2];rfl
 ·rintro rfl;exact⟨_,rfl,Mr.2 ⟨[XE x.1],[XE x.2],rfl,aK.2 rfl,aK.2 rfl⟩⟩
def tD(n d:Nat):QI:=(((n / Nat.gcd n d:Nat):Int),((d / Nat.gcd n d:Nat):Int))
def S0(a:Xo)(K:AV->G->Prop)(g:G)(D:Xo->Prop):(OR.Xi a).sat K g D=D a:=rfl
def Sk(W:PT)(t:T)(df:List Xo)(g:G)(a:Xo):kD W none t df g a=W t (a::df) g:=rfl
def N4{C:Xg}{d n:Nat}{t:T}{g:G}{f:Nat}{first cap:List AV}(h:Xs t n=.W_ f first cap):SO.run C d none t g (.raw (.defer ⟨.value (.tmp n),#[],#[]⟩))=.Xi (.call (.W_ f [] cap) (first++[])):=by
 have:(gp AV.undef n).run t=.W_ f first cap:=by rw[Wz];exact h
 simp only[SO.run,cI,Jc,aW,cp,this]
def KO{C:Xg}{d n:Nat}{t:T}{g:G}{f:Nat}{first cap:List AV}(h:Xs t n=.W_ f first cap):(cI C (.defer ⟨.value (.tmp n),#[],#[]⟩)).run (I C) d none t g=.Xi (.call (.W_ f [] cap) (first++[])):=N4 h
def Nk{C:Xg}{d:Nat}{r:List SR}{t:T}{g g':G}{K:AV->G->Prop}{f:Nat}{cap:List AV}{v:AV}(hc:(I C).call d f cap g=.ok v g')(h:vp r t g' λvs=>K (fg vs) g'):mN C d r t [.call (.W_ f [] cap) []] g K:=by
 unfold mN;have:eE (I C) d [.call (.W_ f [] cap) []] g=some g':=by simp only[eE,X3,hc]
 rw[this];exact h
def Jq{C:Xg}{d:Nat}{rd:Option Nat}{t:T}{g:G}:SO.run C d rd t g (.raw (.call ⟨.builtin .recover,#[],#[]⟩))=.val .WB:=rfl
def k0(XB e:List Int)(i:Nat):Bool:=decide (e[i]?.getD 0<0) || decide (e[i]?.getD 0=XB[i]?.getD 0)
def yn(XB e:List Int):Bool:=(List.range e.length).all (k0 XB e)
def Xu.far8{α:Type} [Rp α]{P:Nat->Prop}{k:Nat}{h h':H}{l:List α}{v:AV}(r:Xu P k h l v)(hf:∀i,P i->h'.get i=h.get i):Xu P k h' l v:=by let⟨w,e,q⟩:=Rp.mono (P':=P) (k':=k) (h':=h') (show Rp.rp P k h l [v] from ⟨v,rfl,r⟩) (λi hi=>⟨hi,hf i hi⟩) (XH _);cases e;exact q
def bd0(s a:List Int):List Int:=(List.range s.length).map λi=>if a[i]?.getD 0<0 then -1 else s[i]?.getD 0
def qw{α:Type}{C:α->Prop}{S:α->VS}{j:Nat}(h:∀a,Q6 (S a) j):Q6 (λP k h v=>∃a,C a/\S a P k h v) j :=
 ⟨λ{P k hh v n} d r hn=>by
  let⟨a,c,r⟩:=r;let⟨v',e,r'⟩:=(h a).Xm d r hn;exact⟨v',e,a,c,r'⟩,λ{k hh v n} r hn=>by
  let⟨a,c,r⟩:=r;exact (h a).tag r hn⟩
theorem xz:∀{A L:List Nat},A.Nodup->(∀v∈A,v∈L)->A.length<=L.length
 |[],_,_,_=>Yi _
 | a::A,L,hA,h=>by rw[List.nodup_cons]at hA;have ha:=h a (by simp);have:=xz (A:=A) (L:=L.erase a) hA.2 λv hv=>(List.mem_erase_of_ne (λe=>hA.1 (by rw[<-e];exact hv))).2 (h v (by simp[hv]));rw[List.length_erase_of_mem ha]at this;have:=List.length_pos_of_mem ha;simp only[Yp];omega
def Ord(p:List Nat)(L:List Nat):Prop:=(∀v,v<p.length->v∈L)/\∀(i v:Nat),L[i]?=some v->v<p.length/\∀q,(OH p v).testBit q=true->q∈L.take i
def MV(p:List Nat)(L:List Nat):Prop:=L.Nodup/\∀(i v:Nat),L[i]?=some v->v<p.length/\∀q,(OH p v).testBit q=true->q∈L.take i
def Qo{p L:List Nat}(h:MV p L):L.length<=p.length:=by
 have:=xz h.1 λv hv=>by obtain⟨i,hi,rfl⟩:=Y7.1 hv;exact X0.2 (h.2 i _ (XJ hi)).1
 simpa using this
def NI{p L:List Nat}(h:MV p L){v:Nat}(hv:v ∉ L)(hl:v<p.length)(hp:∀q,(OH p v).testBit q=true->q∈L):MV p (L++[v]):=by
 refine⟨?_,λi u hu=>?_⟩
 ·rw[List.nodup_append];exact⟨h.1,by simp,λa ha b hb=>by simp at hb;subst hb;exact λe=>hv (e ▸ ha)⟩
 ·rcases ZN i L.length with hi|hi
  ·rw[XW hi]at hu;let⟨h1,h2⟩:=h.2 i u hu;exact⟨h1,λq hq=>by rw[aam (by omega)];exact h2 q hq⟩
  ·rw[X_ hi]at hu;have:i=L.length:=by have:=(XI.1 hu).1;simp at this;omega
   subst this;simp at hu;subst hu;exact⟨hl,λq hq=>by rw[List.take_left];exact hp q hq⟩
def NH{p L:List Nat}(h:MV p L)(hl:p.length<=L.length):Ord p L:=by
 refine⟨λv hv=>?_,h.2⟩
 by_cases hm:v∈L
 ·exact hm
 ·have:=xz (List.nodup_cons.2 ⟨hm,h.1⟩) λu hu=>by
   rcases Yh.1 hu with rfl|hu
   ·exact X0.2 hv
   ·obtain⟨i,hi,rfl⟩:=Y7.1 hu;exact X0.2 (h.2 i _ (XJ hi)).1
  simp at this;omega
def Sp{p L:List Nat}(h:MV p L)(hl:L.length<p.length):∃v,v<p.length/\v ∉ L:=by
 by_cases hh:∃v,v<p.length/\v ∉ L
 ·exact hh
 ·exfalso;have:=xz List.nodup_range λv hv=>by
   by_cases h':v∈L
   ·exact h'
   ·exact absurd ⟨v,X0.1 hv,h'⟩ hh
  simp at this;omega
def TZ(D:Nat)(L:List Nat):Prop:=D<18446744073709551616/\∀v,D.testBit v=true↔v∈L
def N5{D:Nat}{L:List Nat}(h:TZ D L){v:Nat}(hv:v<64):TZ (D ||| w8 v) (L++[v]):=by
 refine⟨Me h.1 (Ax v),λu=>?_⟩;rw[wR,CO hv,YE,h.2,X9,Yf,Yy];constructor
 ·rintro (h|h)
  ·exact .inl h
  ·exact .inr h.symm
 ·rintro (h|h)
  ·exact .inl h
  ·exact .inr h.symm
def wV[Xr]{d k k2:Nat}{g:G}{P P2:Nat->Prop}{v w:AV}{XB e:List Int}(hd:0<d)(hv:Xu P k g.h XB v)(hw:Xu P2 k2 g.h e w)(hl:XB.length=e.length) :
  ah C0 d 65 [v,w] g=.val (.bool (yn XB e)):=by
 obtain⟨v',e1,o⟩:=aB hv d;obtain⟨w',e2,p⟩:=aB hw d;rw[WL];refine cM AY (xs:=[v',w']) (by simp only[aD,e1,e2]) (by simp[mW]) hd ?_;simp only[sz,simprocAttr,mW,oD];refine aU e.length hw.1 (λj t df g=>df=[]/\St t [(0,v'),(1,w')]/\(List.range j).all (k0 XB e)=true) ⟨rfl,by simp[St,sx],rfl⟩ (by simp[sx]) (by decide) (by rintro j t df g v s (rfl|rfl|rfl)<;>simp[St,sx]) ?_ ?_ ?_
 ·rintro j t df g f ⟨rfl,⟨h0,h1,-⟩,c⟩ h5;have n1:bC .slice v' g=.val (XE (e.length:Int)):=by rw[(o .nil).len,hl]
  simp only[sz,simprocAttr,h0,h1,h5,n1,St,c]
 ·rintro j t df g f ⟨rfl,⟨h0,h1,-⟩,c⟩ h5;obtain⟨x,hx,-,-⟩:=af f;obtain⟨y,m,-,-⟩:=af (l:=XB) (j:=j) (by omega);have i:j<(e.map ci).length:=by simpa using f
  have q2:j<(XB.map ci).length:=by rw[XN];omega
  have q3:(e.map ci)[j]?=some (ci x):=by rw[XK,hx];rfl
  have n:(XB.map ci)[j]?=some (ci y):=by rw[XK,m];rfl
  have b:k0 XB e j=(decide (x<0) || decide (x=y)):=by simp[k0,hx,m]
  have ra:∀h',ak h' 1 v'=some (XB.map ci):=λh'=>(o h').ints;have rb:∀h',ak h' 1 w'=some (e.map ci):=λh'=>(p h').ints
  by_cases a:0<=x
  ·by_cases hxy:x=y
   ·simp only[sz,simprocAttr,h1,h5,rb,i,q3,ci,hxy,St];have a:0<=y:=by omega
    simp only[sz,simprocAttr,a,h0,h1,h5,ra,rb,i,q2,q3,n,ci,hxy];rw[bS,c,b];simp[hxy]
   ·simp only[sz,simprocAttr,h0,h1,h5,ra,rb,i,q2,q3,n,ci,a,hxy];have:k0 XB e j=false:=by rw[b];simp;omega
    rw[yn,dI f this]
  ·simp only[sz,simprocAttr,h0,h1,h5,rb,i,q3,ci,a,St];rw[bS,c,b];simp;omega
 ·rintro t df g ⟨rfl,⟨h0,h1,-⟩,c⟩;simp only[sz,simprocAttr,oE];rw[yn,c]
def Tv{g g':G}(hn:g.nx<=g'.nx)(h:∀i,i<g.nx->g'.h.get i=g.h.get i):Fr g g':=⟨hn,h⟩
def xd{C:Xg}{d:Nat}{rd:Option Nat}{body:SC}{c ti k B b:Nat}{Q:QT}{m:Nat}{lim:Int}(hlim:lim=(m:Int))(hm:m<2^63)(J:Nat->PT){t:T}{df:List Xo}{g:G}
  (h0:J 0 t df g) (hi:Xs t ti=XE 0) (hc:c≠ti/\b≠B)
  (hJ:∀j t df g v s,s=c\/s=ti\/s=k->J j t df g->J j (eT t s v) df g)
  (step:∀j t df g,j<m->J j t df g->Xs t ti=XE (j:Int)->wp C d rd body (kR (λt df g=>J (j+1) t df g/\Xs t ti=XE (j:Int)) b Q) t df g)
  (fin:∀t df g,J m t df g->Q (.exit B) t df g) :
  VY (wp C d rd (Xw (.ops [o c (.bin .lss (.t ti) (.k (XE lim)))]) (Xw (.cond (.t c) .skip (.exit B)) (Xw (.blk b body) (.ops [o k (.bin .add (.t ti) (.k (XE 1))),o ti (.mv (.t k))]))))) Q t df g:=by
 subst hlim;let⟨c1,f⟩:=hc;refine gi (λn t df g=>∃j:Nat,n=m - j/\j<=m/\J j t df g/\Xs t ti=XE (j:Int)) m ⟨0,by omega,by omega,h0,hi⟩ ?_;rintro n t df g ⟨j,rfl,i,a,h1⟩;simp only[sz,h1];refine⟨λhq=>?_,λhq=>?_⟩
 ·have hlt:j<m:=by simpa using hq
  simp only[sx];refine ch _ (step j _ df g hlt (hJ _ _ _ _ _ _ (.inl rfl) a) (by simp only[cw];rw[XS (Y5 c1),h1])) λe t df g h=>?_;have key:J (j+1) t df g/\Xs t ti=XE (j:Int)->wp C d rd (.ops [o k (.bin .add (.t ti) (.k (XE 1))),o ti (.mv (.t k))])
    (kL (λn t df g=>∃j:Nat,n=m - j/\j<=m/\J j t df g/\Xs t ti=XE (j:Int)) (m - j) Q) t df g:=by
   rintro⟨a1,a2⟩;simp only[sz,a2];refine⟨_,?_,j+1,rfl,by omega,hJ _ _ _ _ _ _ (.inr (.inl rfl)) (hJ _ _ _ _ _ _ (.inr (.inr rfl)) a1),?_⟩
   ·omega
   ·rw[an];rfl
  cases e with
  |norm=>exact key h
  |ret=>exact h
  | exit x =>
   rw[qo]at h;rw[t_]
   split at h
   ·rename_i e;rw[XO e];exact key h
   ·rename_i e;rw[XS e];exact h
 ·have:j=m:=by simp at hq;omega
  subst this;simp only[sx];exact fin _ _ _ (hJ _ _ _ _ _ _ (.inl rfl) a)
section
variable {m:WJ}{c1 c2 l w c9 v35 ls v48:AV}{al:List Int}{hid kk:Int}{p:Nat}
end
def ub(l:List Int)(j:Nat)(x:Int):(l.map ci).set j (ci x)=(l.set j x).map ci:=by rw[YS]
def Hh{x y:Nat}(hy:0<y):cL .rem (XE (x:Int)) (XE (y:Int))=.val (XE ((x % y:Nat):Int)):=by rw[ef .i64 (ZS x) (by omega),<-aax]
def pG:Nat->Nat->List Int
 |0,_=>[]
 |f+1,n=>if n=0 then [] else ((n % 10000:Nat):Int)::pG f (n / 10000)
def EM(n:Nat):List Int:=pG 12 n
def H8:∀{f n:Nat},n<10000 ^ f->pG (f+1) n=pG f n
 | 0,n,h=>by
  have:n=0:=by simp at h;exact h
  subst this;rfl
 | f+1,n,h=>by
  have ih:=H8 (by rw[Zn]at h;exact (abA (by decide)).2 h);rw[pG]
  by_cases h0:n=0
  ·rw[XO h0,pG,XO h0]
  ·rw[XS h0,ih]
   conv=>rhs;rw[pG,XS h0]
def nC{n:Nat}(h0:n≠0)(h:n<10^48):EM n=((n % 10000:Nat):Int)::EM (n / 10000):=by have e:=H8 (f:=12) (n:=n) h;unfold EM;rw[<-e];rw[pG,XS h0]
def pJ:EM 0=[]:=rfl
def LA:∀(f n:Nat),(pG f n).length<=f
 |0,_=>XH _
 | f+1,n=>by
  rw[pG]
  split
  ·simp
  ·have:=LA f (n / 10000);simp;omega
def mM(n:Nat):(EM n).length<=12:=LA 12 n
def Ss{x:Nat}(h:x<2^63):unV .neg (XE (x:Int))=.val (XE (-(x:Int))):=by
 have e:unV .neg (XE (x:Int))=.val (XE (IntKind.wrap .i64 (-(x:Int)))):=by
  cases x with
  |zero=>rfl
  | succ n =>
   show VW (tc (Op.unary .neg (.int .i64 (.ofNat (n+1)))))=_;unfold tc Op.unary
   rfl
 rw[e,an]
def Cy{x y:Nat}(hx:x<2^63)(hy:0<y):cL .quo (XE (x:Int)) (XE (y:Int))=.val (XE ((x / y:Nat):Int)):=by have h:x / y<=x:=Zh _ _;rw[Lp .i64 (ZS x) (by omega),<-Int.natCast_ediv];generalize x / y=z at h;rw[an]
theorem AR[Xr]{d:Nat}{g:G}{n:Nat}(hd:0<d)(hn:n<2^63):∃r,ah C0 d 117 [XE (n:Int)] g=.val r/\IT 0 (EM n) r:=by
 rw[WL];refine aP BX (xs:=[XE (n:Int)]) (by simp only[aD,cP 0]) (by simp[oh]) (aI _) (by decide) hd ?_;simp only[sz,simprocAttr,oh];refine gi (λk t df g=>df=[]/\k<2^63/\St t [(0,XE (k:Int))]/\∃u L,Xs t 3=u/\Own g 0 u 1 ((L:List Int).map ci)/\L++EM k=EM n) n
  ⟨rfl,hn,by simp[sx,St],_,[],rfl,.inl ⟨by simp[sx],rfl⟩,rfl⟩ ?_
 rintro k t df g ⟨rfl,hk,⟨h0,-⟩,u,L,h3,hu,hL⟩;have a:L.length+(EM k).length=(EM n).length:=by rw[<-hL,Yo]
 have l:=mM n;simp only[sz,simprocAttr,pO,h0];refine bk (λhq=>?_) (λhq=>?_)
 ·have h:k≠0:=by simp at hq;omega
  have b:=nC h (by omega);have i:=Hh (x:=k) (y:=10000) (by decide);have j:=Cy (x:=k) (y:=10000) hk (by decide);have hm:=YX k (show 0<10000 by decide);have e:=Ss (x:=k % 10000) (by omega);have c:max ((k % 10000:Nat):Int) (-((k % 10000:Nat):Int))=((k % 10000:Nat):Int):=by omega
  have f:k / 10000<k:=Nat.div_lt_self (by omega) (by decide);generalize k % 10000=r at *;generalize k / 10000=q at *;have i:cL .rem (XE (k:Int)) (XE 10000)=.val (XE (r:Int)):=i;have j:cL .quo (XE (k:Int)) (XE 10000)=.val (XE (q:Int)):=j;simp only[sz,simprocAttr,h0,h3,i,e,c];have m:L.length<(EM n).length:=by rw[b]at a;simp at a;omega
  refine aM (new:=[ci (r:Int)]) (hu.step (Fr.new _ _)) (by simp[sx,sy,ci]) (by simp<;>omega) (by simp[aH]<;>omega) λv2 g2 hv2 n2 f2 _ l2=>?_;simp only[sz,simprocAttr,h0,j,St];refine⟨q,f,by omega,?_,v2,L++[(r:Int)],?_,?_,?_⟩
  ·simp[sx]
  ·simp[sx]
  ·simpa using hv2
  ·rw[YA,aaW,<-b,hL]
 ·have h:k=0:=by simp at hq;omega
  subst h;rw[pJ,X6]at hL;subst hL;simp only[sz,simprocAttr,pP,h3];exact⟨_,hu.ints (by omega)⟩
def C1:List Int->Int
 |[]=>0
 |x::l=>x+10000*C1 l
def LM{a b:Nat}(h:a<=b):(10000:Int) ^ a<=10000 ^ b:=by rw[show (10000:Int)=((10000:Nat):Int) from rfl,<-aa6,<-aa6];exact Int.ofNat_le.2 (Yr (by decide) h)
def J8{P:Nat->Prop}(h0:P 0)(hs:∀n,n≠0->P (n / 10000)->P n):∀n,P n:=by
 intro n
 induction n using Nat.strongRecOn with
 | ind n ih =>
  by_cases h:n=0
  ·subst h;exact h0
  ·exact hs n h (ih _ (Nat.div_lt_self (by omega) (by decide)))
def tG:∀n:Nat,n<10^48->C1 (EM n)=(n:Int):=by refine J8 (λ_=>rfl) λn h0 ih hn=>?_;have hl:=Zh n 10000;rw[nC h0 hn,C1,ih (by omega)];have:=YW n 10000;omega
def yz:∀n:Nat,n<10^48->∀x∈EM n,0<=x/\x<10000:=by
 refine J8 (λ_ x hx=>by simp[pJ]at hx) λn h0 ih hn x hx=>?_;rw[nC h0 hn]at hx;rcases Yh.1 hx with rfl|hx
 ·omega
 ·exact ih (by omega) x hx
def nV:∀(l r:List Int),C1 (l++r)=C1 l+10000 ^ l.length*C1 r
 |[],r=>by simp[C1]
 | x::l,r=>by rw[XY,C1,C1,nV l r,Yp,Vv,R6,<-ZB,Z5 10000 (10000 ^ l.length)];omega
def nW:∀{l:List Int},(∀x∈l,0<=x/\x<10000)->0<=C1 l/\C1 l<10000 ^ l.length
 |[],_=>by simp[C1]
 | x::l,h=>by have h1:=nW (l:=l) λy hy=>h y (by simp[hy]);have h2:=h x (by simp);rw[C1,Yp,Vv];omega
theorem LC:∀{l:List Int},(∀x∈l,0<=x/\x<10000)->l.getLast?≠some 0->l.length<=12->EM (C1 l).toNat=l
 |[],_,_,_=>rfl
 | x::l,h,hz,hl=>by
  have h2:=h x (by simp);have hr:∀y∈l,0<=y/\y<10000:=λy hy=>h y (by simp[hy]);have hb:=nW hr;have a:=nW h;have k:l.getLast?≠some 0:=by
   cases l with
   |nil=>simp
   |cons y l=>rw[aaM]at hz;exact hz
  have ih:=LC hr k (by simp at hl;omega);have b:C1 (x::l)≠0:=by
   intro e;rw[C1]at e;have e1:x=0:=by omega
   have e2:C1 l=0:=by omega
   rw[e2]at ih;have:l=[]:=ih.symm;subst this;subst e1;exact hz rfl
  have hlt:(C1 (x::l)).toNat<10^48:=by
   have:(10000:Int) ^ (x::l).length<=10000 ^ 12:=LM hl;have:(10000:Int) ^ 12=10^48:=by decide
   omega
  rw[nC (by omega) hlt];have ed:C1 (x::l)=x+10000*C1 l:=rfl;have ed:C1 (x::l)=x+10000*C1 l:=rfl;have e:(C1 (x::l)).toNat=x.toNat+10000*(C1 l).toNat:=by rw[ed];omega
  rw[e];have e1:(x.toNat+10000*(C1 l).toNat) % 10000=x.toNat:=by omega
  have e2:(x.toNat+10000*(C1 l).toNat) / 10000=(C1 l).toNat:=by omega
  rw[e1,e2,ih,abF h2.1]
def Vp{w:AV}{l:List Int}{k:Nat}(hw:Xu Xt k .nil l w)(hne:l≠[]){c:Nat}(hc:c<=l.length) :
  ∃w',(∀g,fE 1 w none (some (XE (c:Int))) g=.val w')/\Xu Xt k .nil (l.take c) w':=by
 have hlt:(l.take c).length<2^63:=by have:=hw.1;rw[X5];omega
 have h:=hw.2;unfold Oe at h
 split at h
 ·exact absurd h hne
 ·exact absurd h hne
 ·rename_i t s rows;let⟨h0,h1,h2⟩:=h;have a:=h2.len;have hs:s=1:=by
   rcases h1 with e|e
   ·exact e
   ·rw[e]at a;simp at a;exact absurd a hne
  subst hs;refine⟨.WO t 1 (rows.take c),λg=>?_,hlt,h0,.inl rfl,h2.take c⟩;show VW (match aS (bD rows) (bD rows) (some (XE (.ofNat c))) with
   |none=>none
   | some h=>match aS 0 h none with
    |none=>none
    |some l=>ax (Nat.beq 1 1) (some (.WO t 1 (h_ (h - l) (gG l rows)))) none)=_
  have:aS (bD rows) (bD rows) (some (XE (.ofNat c)))=some c:=by show ax (Nat.ble c (bD rows)) (some c) none=_;rw[aa,XO];rw[ay,<-a];simp;omega
  rw[this];show VW (ax (Nat.beq 1 1) (some (AV.WO t 1 (h_ (c - 0) (gG 0 rows)))) none)=_;rw[show Nat.beq 1 1=true from rfl,WK,bI,bK,Zc,Zo];rfl
 ·exact h.1.elim
 ·exact h.elim
def nT(l:List Int):Nat->List Int
 |0=>[]
 |j+1=>if l[j]?.getD 0=0 then nT l j else l.take (j+1)
def kP(l:List Int):List Int:=nT l l.length
def LD{n:Nat}(h0:n≠0)(h:n<10^48):0<(EM n).length:=by rw[nC h0 h];simp
def RX:∀n:Nat,n<10^48->(EM n).getLast?≠some 0:=by
 refine J8 (λ_=>by simp[pJ]) λn h0 ih hn=>?_;have ih:=ih (by omega);rw[nC h0 hn]
 by_cases hz:n / 10000=0
 ·rw[hz,pJ];simp only[List.getLast?_singleton];have:=YW n 10000;intro e;injection e with e;omega
 ·have h1:=LD hz (by omega);obtain⟨y,l,e⟩:∃y l,EM (n / 10000)=y::l:=by
   cases h:EM (n / 10000) with
   |nil=>rw[h]at h1;simp at h1
   |cons y l=>exact⟨y,l,rfl⟩
  rw[e]at ih ⊢;rw[aaM];exact ih
def yy:∀(i n:Nat),n<10^48->(EM n)[i]?.getD 0=((n / 10000 ^ i % 10000:Nat):Int)
 | 0,n,hn=>by
  by_cases h0:n=0
  ·subst h0;rfl
  ·rw[nC h0 hn];simp
 | i+1,n,hn=>by
  have hl:=Zh n 10000
  by_cases h0:n=0
  ·subst h0;simp[pJ]
  ·rw[nC h0 hn,ZY,yy i _ (by omega),Zn,Zm,<-Y1]
def LB:∀(i n:Nat),n<10^48->(EM n).drop i=EM (n / 10000 ^ i)
 |0,n,hn=>by simp
 | i+1,n,hn=>by
  have hl:=Zh n 10000
  by_cases h0:n=0
  ·subst h0;simp[pJ]
  ·rw[nC h0 hn,aak,LB i _ (by omega),Zn,Zm,<-Y1]
def zA{n:Nat}(h:n<10^48):n<10000 ^ (EM n).length:=by have h1:=(nW (yz n h)).2;rw[tG n h]at h1;exact Int.ofNat_lt.1 (by rw[aa6];exact h1)
def GY:∀{l:List Int},(∀x∈l,0<=x/\x<10000)->l.getLast?≠some 0->0<l.length->10000 ^ (l.length - 1)<=C1 l
 |[],_,_,h=>by simp at h
 | [x],h,hz,_=>by have:=h x (by simp);have:x≠0:=λe=>hz (by rw[e];rfl);simp only[C1,Zj,YN,Int.pow_zero];omega
 | x::y::l,h,hz,_=>by have h1:=GY (l:=y::l) (λz hz=>h z (by simp[hz])) (by rw[aaM]at hz;exact hz) (by simp);have:=h x (by simp);rw[C1];simp only[Yp,Zu]at h1 ⊢;rw[Vv];omega
def Tq{n:Nat}(h:n<10^48)(h0:n≠0):10000 ^ ((EM n).length - 1)<=n:=by have h1:=GY (yz n h) (RX n h) (LD h0 h);rw[tG n h]at h1;exact Int.ofNat_le.1 (by rw[aa6];exact h1)
def AP{a b:Nat}(ha:a<10^48)(hb:b<10^48)(h:(EM a).length<(EM b).length):a<b:=by
 have h1:=zA ha;have h0:b≠0:=λe=>by subst e;simp[pJ]at h
 have h2:=Tq hb h0;have h3:10000 ^ (EM a).length<=10000 ^ ((EM b).length - 1):=Yr (by decide) (by omega);omega
def Nj{a b:Nat}(ha:a<10^48)(hb:b<10^48)(h:a<=b):(EM a).length<=(EM b).length :=Nat.le_of_not_lt λe=>by have:=AP hb ha e;omega
def tB(a b:Nat):Int:=if a<b then -1 else if a=b then 0 else 1
def O0{a b i:Nat}(h:a / 10000 ^ (i+1)=b / 10000 ^ (i+1))(h2:a / 10000 ^ i % 10000<b / 10000 ^ i % 10000):a<b:=by rw[Zn,<-Y1,<-Y1]at h;refine abp λe=>?_;have:=Nat.div_le_div_right (c:=10000 ^ i) e;have h3:=YW (a / 10000 ^ i) 10000;have h4:=YW (b / 10000 ^ i) 10000;omega
def T_{a b i:Nat}(h:a / 10000 ^ (i+1)=b / 10000 ^ (i+1))(h2:a / 10000 ^ i % 10000=b / 10000 ^ i % 10000):a / 10000 ^ i=b / 10000 ^ i:=by rw[Zn,<-Y1,<-Y1]at h;have h3:=YW (a / 10000 ^ i) 10000;have h4:=YW (b / 10000 ^ i) 10000;omega
def FD(l:List Int):∀{j:Nat},j<=l.length->∃m,m<=j/\nT l j=l.take m/\C1 (l.take m)=C1 (l.take j)/\(l.take m).getLast?≠some 0
 |0,_=>⟨0,XH _,by simp[nT],rfl,by simp⟩
 | j+1,h=>by
  obtain⟨x,hx,ht,-⟩:=af (l:=l) (j:=j) (by omega)
  by_cases h0:x=0
  ·obtain⟨m,h1,h2,h3,h4⟩:=FD l (j:=j) (by omega);refine⟨m,by omega,?_,?_,h4⟩
   ·rw[nT,hx,XP,XO h0,h2]
   ·rw[h3,ht,nV,h0];simp[C1]
  ·refine⟨j+1,XH _,?_,rfl,?_⟩
   ·rw[nT,hx,XP,XS h0]
   ·rw[ht,List.getLast?_concat];simpa using h0
def C_{l:List Int}{n:Nat}(h:∀x∈l,0<=x/\x<10000)(hv:C1 l=(n:Int))(hn:n<10^48):kP l=EM n:=by
 let⟨m,h1,h2,h3,h4⟩:=FD l (XH l.length);rw[XV,hv]at h3;have hr:∀x∈l.take m,0<=x/\x<10000:=λx hx=>h x (Ym hx);have k:(l.take m).length<=12:=by
  refine Nat.le_of_not_lt λe=>?_;have h5:=GY hr h4 (by omega);rw[h3]at h5;have h6:(10000:Int) ^ 12<=10000 ^ ((l.take m).length - 1):=LM (by omega);have:(10000:Int) ^ 12=10^48:=by decide
  omega
 have h7:=LC hr h4 k;rw[h3]at h7;rw[kP,h2,<-h7]
 rfl
def Da[Xr]{d:Nat}{g:G}{b:Nat}{v:AV}{l:List Int}{K:AV->G->Prop}{D:Xo->Prop}(hv:Own g b v 1 (l.map ci))(hl:l.length<2^63)
  (k:∀v',Xu (λi=>W5 v=some i) 0 g.h (kP l) v'->K v' g):(ah C0 d 161 [v] g).sat K g D:=by
 rw[CV];refine xl GG (by simp[vS]) ?_;simp only[sz,simprocAttr,vS,vT];rcases hv with⟨rfl,e⟩|⟨id,ep,lo,h1,h2,rfl,h3⟩
 ·have:l=[]:=by simpa using e
  subst this;have k:=k .XC ⟨by show 0<2^63;decide,rfl⟩;refine gi (λn t df g'=>df=[]/\g'=g/\St t [(0,.XC)]) 0 ⟨rfl,rfl,by simp[sx,St]⟩ ?_;rintro n t df g' ⟨rfl,rfl,h0,-⟩;simp only[sz,simprocAttr,j6,h0,bC,aaB];exact k
 ·rw[XN]at *;have key:∀n≤l.length,ak g.h 1 (.Xj id ep 0 n none)=some ((l.take n).map ci):=λn f=>by rw[bi,h3,ck,XO (by simp;omega),Zc,aaC]
  have sl:∀n≤l.length,Xu (λi=>W5 (.Xj id ep 0 l.length none)=some i) 0 g.h (l.take n) (.Xj id ep 0 n none):=λn f =>⟨by rw[X5];omega,rfl,_,key n f,VJ (λa=>aK.2 rfl) _⟩
  have OK:∀n c:Nat,n<=l.length->c<n->fE 1 (.Xj id ep 0 n none) none (some (XE (c:Int))) g=.val (.Xj id ep 0 c none):=λn c f hc=>by
   have hb:(l.map ci).length.beq 0=false:=by rw[XN];cases h:l.length with|zero=>omega|succ n=>rfl
   simp only[fE,ip,h3,Yl,YO,ay,YT,aa,Yt,aS,YU,Zo];rw[XO (by rw[XN];omega)];simp only[cd];rw[show ax (c.ble (l.map ci).length) (some c) none=some c from by rw[aa,XO (by simp;omega)]];dsimp only;rw[hb]
   rfl
  refine gi (λn t df g'=>df=[]/\g'=g/\n<=l.length/\nT l n=kP l/\St t [(0,.Xj id ep 0 n none)]) l.length ⟨rfl,rfl,XH _,rfl,by simp[sx,St]⟩ ?_;rintro n t df g' ⟨rfl,rfl,f,hc,h0,-⟩;have n1:∀h,bC .slice (.Xj id ep 0 n none) h=.val (XE (n:Int)):=λh=>rfl;have hk:=key n f;cases n with
  | zero =>
   have o:¬((0:Int)<((0:Nat):Int)):=by omega
   simp only[sz,simprocAttr,j6,h0,n1];have k:=k _ (by rw[<-hc];exact sl 0 f);exact k
  | succ n =>
   obtain⟨x,hx,ht,-⟩:=af (l:=l) (j:=n) (by omega);have w1:IntKind.wrap .i64 (((n+1:Nat):Int) - 1)=(n:Int):=by rw[an];omega
   have q0:(0:Int)<((n+1:Nat):Int):=by omega
   have m:n<((l.take (n+1)).map ci).length:=by simp;omega
   have q2:((l.take (n+1)).map ci)[n]?=some (ci x):=by rw[XK,ZC,dk,hx];rfl
   have hs:=OK (n+1) n f (by omega)
   by_cases hx0:x=0
   ·simp only[sz,simprocAttr,h0,n1,q0,w1,hk,m,q2,ci,hx0,YD,Yz,hs];refine⟨n,by omega,by omega,?_,by simp[sx,St]⟩;rw[<-hc,nT,hx,XP,XO hx0]
   ·simp only[sz,simprocAttr,j6,h0,n1,q0,w1,hk,m,q2,ci,hx0];have k:=k _ (by rw[<-hc,nT,hx,XP,XS hx0];exact sl (n+1) f);exact k
def C6[Xr]{d k k2:Nat}{g:G}{P P2:Nat->Prop}{v w:AV}{x y:Nat}(hd:0<d)(hv:Xu P k g.h (EM x) v)(hw:Xu P2 k2 g.h (EM y) w)(hx:x<10^48)(hy:y<10^48) :
  ah C0 d 162 [v,w] g=.val (XE (tB x y)):=by
 obtain⟨v',e1,n⟩:=aB hv d;obtain⟨w',e2,o⟩:=aB hw d;rw[WL];refine cq AU (xs:=[v',w']) (by simp only[aD,e1,e2]) (by simp[mQ]) hd ?_;have n1:=λg=>(n .nil).len g;have n2:=λg=>(o .nil).len g;have c:=hv.1;simp only[sz,simprocAttr,mQ,n1,n2];refine bk (λhq=>?_) (λhq=>?_)
 ·have r:(EM x).length≠(EM y).length:=by simp at hq;omega
  simp only[sz,simprocAttr,n1,n2];refine bk (λhq2=>?_) (λhq2=>?_)
  ·have hlt:(EM x).length<(EM y).length:=by simp at hq2;omega
   have:=AP hx hy hlt;simp only[sz,simprocAttr];rw[tB,XO this]
  ·have hlt:(EM y).length<(EM x).length:=by simp at hq2;omega
   have:=AP hy hx hlt;simp only[sz,simprocAttr];rw[tB,aJ,aJ]
 ·have b:(EM x).length=(EM y).length:=by simp at hq;omega
  have w1:IntKind.wrap .i64 (((EM x).length:Int) - 1)=((EM x).length:Int) - 1:=by rw[an]
  simp only[sz,simprocAttr,n1,od];refine tj (m:=(EM x).length) c (λj t df g=>df=[]/\St t [(0,v'),(1,w')]/\x / 10000 ^ j=y / 10000 ^ j) ⟨rfl,by simp[St,sx],?_⟩ (by simp[sx,w1]) (by decide) (by rintro j t df g v s (rfl|rfl|rfl|rfl|rfl)<;>simp[St,sx]) ?_ ?_
  ·have h1:=zA hx;have h2:=zA hy;rw[<-b]at h2;rw[Zw h1,Zw h2]
  ·rintro j t df g i ⟨rfl,⟨h0,h1,-⟩,a⟩ h5;obtain⟨p,hp,-,-⟩:=af i;obtain⟨q,hq,-,-⟩:=af (l:=EM y) (j:=j) (by omega);have ep:=yy j x hx;have eq:=yy j y hy;rw[hp,XP]at ep;rw[hq,XP]at eq;have e:j<((EM x).map ci).length:=by simpa using i
   have q2:j<((EM y).map ci).length:=by rw[XN];omega
   have q3:((EM x).map ci)[j]?=some (ci p):=by rw[XK,hp];rfl
   have f:((EM y).map ci)[j]?=some (ci q):=by rw[XK,hq];rfl
   have ra:∀h',ak h' 1 v'=some ((EM x).map ci):=λh'=>(n h').ints;have rb:∀h',ak h' 1 w'=some ((EM y).map ci):=λh'=>(o h').ints
   by_cases hpq:p=q
   ·have:=T_ a (by omega);simp only[sz,simprocAttr,h0,h1,h5,ra,rb,e,q2,q3,f,ci,hpq,St];exact this
   ·by_cases hlt:p<q
    ·have:=O0 a (by omega);simp only[sz,simprocAttr,h0,h1,h5,ra,rb,e,q2,q3,f,ci,hpq,hlt];rw[tB,XO this]
    ·have:=O0 a.symm (by omega);simp only[sz,simprocAttr,h0,h1,h5,ra,rb,e,q2,q3,f,ci,hpq,hlt];rw[tB,aJ,aJ]
  ·rintro t df g ⟨rfl,⟨h0,h1,-⟩,a⟩;rw[abu,R5,R5]at a;subst a;simp only[sz,simprocAttr,oe];rw[tB,aJ,XO rfl]
theorem H_:∀{L:List Int} {p:Nat} {z:Int},p<L.length->C1 (L.set p z)=C1 L+(z - L[p]?.getD 0)*10000 ^ p
 |[],_,_,h=>by simp at h
 |x::L,0,z,_=>by simp[C1];omega
 | x::L,p+1,z,h=>by have ih:=H_ (L:=L) (p:=p) (z:=z) (by simpa using h);rw[aaa,C1,C1,ih,ZY,Vv,<-ZB,R6,Z5 _ (10000:Int)];generalize (z - L[p]?.getD 0)*10000 ^ p=u;omega
def Mq{L:List Int}{p:Nat}{z:Int}(h:∀x∈L,0<=x/\x<10000)(hz:0<=z/\z<10000):∀x∈L.set p z,0<=x/\x<10000:=λx hx=>by
 rcases Zy hx with h1|rfl
 ·exact h x h1
 ·exact hz
def OA{L:List Int}(h:∀x∈L,0<=x/\x<10000)(p:Nat):0<=L[p]?.getD 0/\L[p]?.getD 0<10000:=by
 cases e:L[p]? with
 |none=>simp
 |some x=>exact h x (XL e)
structure j2 (bl:List Int) (n i:Nat) (V ai:Int) (k:Nat) (c:Int) (L:List Int):Prop where
 len:L.length=n
 SL:∀x∈L,0<=x/\x<10000
 zer:∀j,i+bl.length<=j->i+k<=j->L[j]?.getD 0=0
 kle:k<=bl.length+1
 c0:0<=c
 c1:c<10000
 ce:k=bl.length+1->c=0
 cs:k=0->c=0
 eq:C1 L+c*10000 ^ (i+k)=V+ai*10000 ^ i*C1 (bl.take k)
def c7(bl:List Int):Prop:=∀(k:Nat) (z:Int),bl[k]?=some z->0<=z/\z<=10000/\(0<k->z<10000)
def Tj{D D' c c' s l z U V W m:Int}(h1:D'=D+(z - l)*U)(h2:s=c+l+m)(h3:s=10000*c'+z)(h4:D+c*U=V+W):D'+c'*(U*10000)=V+(W+m*U):=by
 have e1:(c+l+m)*U=(10000*c'+z)*U:=by rw[<-h2,h3]
 rw[Zz,Zz,Zz,ZB]at e1;rw[Int.sub_mul]at h1;rw[<-ZB,Z5 _ (10000:Int)];omega
def Tk{bl L:List Int}{n i k:Nat}{V ai c m s:Int}(h:j2 bl n i V ai k c L)(hi:i+k<n)(h2:c7 bl)(ha:0<=ai/\ai<10000)
  (hk:k<bl.length\/k=bl.length) (hm:m=ai*bl[k]?.getD 0) (hs:s=c+L[i+k]?.getD 0+m) :
  0<=s/\s<100000000/\j2 bl n i V ai (k+1) (s / 10000) (L.set (i+k) (s % 10000)):=by
 let⟨a,hr,hz,o,c0,c1,ce,cs,he⟩:=h;let⟨q,l1⟩:=OA hr (i+k);have hb:0<=bl[k]?.getD 0/\bl[k]?.getD 0<=10000/\(0<k->bl[k]?.getD 0<10000):=by
  cases e:bl[k]? with
  |none=>simp
  |some z=>exact h2 k z e
 let⟨l,b1,b2⟩:=hb;have r:0<=m:=by rw[hm];exact Zg ha.1 l
 have t:m<=9999*bl[k]?.getD 0:=by rw[hm];exact YI (by omega) l
 have b:0<=s/\s<100000000:=by
  by_cases hk0:k=0
  ·have:=cs hk0;omega
  ·have:=b2 (by omega);omega
 have d:k=bl.length->bl[k]?.getD 0=0:=λe=>by rw[Yg (by omega)];rfl
 have f:C1 (bl.take (k+1))=C1 (bl.take k)+10000 ^ k*bl[k]?.getD 0:=by
  rcases hk with hk|hk
  ·obtain⟨x,hx,ht,-⟩:=af hk;rw[ht,nV,hx,X5,YG (by omega)];simp[C1]
  ·rw[d hk,XZ (by omega),XZ (by omega)];simp
 refine⟨b.1,b.2,by simpa using a,Mq hr (by omega),λj h1 h3=>?_,by omega,by omega,by omega,λe=>?_,by omega,?_⟩
 ·rw[aag (by omega)];exact hz j h1 (by omega)
 ·have e:k=bl.length:=by omega
  have h0:=hz (i+k) (by omega) (by omega);rw[d e,abS]at hm;rw[h0,hm]at hs;omega
 ·have hd:=H_ (L:=L) (p:=i+k) (z:=s % 10000) (by omega);have:=Tj (c':=s / 10000) hd hs (by omega) he;rw[<-Qc,Vv,this,f,R6,hm,Int.pow_add];congr 2;simp only[ZB,Z5,Int.mul_left_comm]
def Re{bl L:List Int}{n i:Nat}{V ai:Int}(hlen:L.length=n)(hr:∀x∈L,0<=x/\x<10000)(hz:∀j,i+bl.length<=j->L[j]?.getD 0=0)(hV:C1 L=V):j2 bl n i V ai 0 0 L :=⟨hlen,hr,λj h1 h2=>hz j h1,by omega,by omega,by omega,λ_=>rfl,λ_=>rfl,by simp[C1,hV]⟩
structure T7 (al bl:List Int) (i:Nat) (L:List Int):Prop where
 len:L.length=al.length+bl.length
 SL:∀x∈L,0<=x/\x<10000
 zer:∀j,i+bl.length<=j->L[j]?.getD 0=0
 eq:C1 L=C1 (al.take i)*C1 bl
def FG:∀n:Nat,C1 (List.replicate n 0)=0
 |0=>rfl
 |n+1=>by rw[Y4,C1,FG n];rfl
def Rf(al bl:List Int):T7 al bl 0 (List.replicate (al.length+bl.length) 0):=by
 refine⟨by simp,λx hx=>?_,λj _=>?_,by rw[FG];simp[C1]⟩
 ·have:=(ZT.1 hx).2;omega
 ·rw[Zp];split<;>rfl
def Tl{al bl L:List Int}{i k:Nat}{c x:Int}(hi:i<al.length)(hx:al[i]?=some x)(h:j2 bl (al.length+bl.length) i (C1 (al.take i)*C1 bl) x k c L)(hk:bl.length<=k)(hc:c=0):T7 al bl (i+1) L:=by let⟨a,hr,hz,d,c0,c1,ce,cs,he⟩:=h;refine⟨a,hr,λj h1=>hz j (by omega) (by omega),?_⟩;obtain⟨y,b,ht,-⟩:=af hi;rw[hx]at b;cases b;rw[hc,abr,abc,XZ hk]at he;rw[he,ht,nV,X5,YG (by omega),Zz];simp[C1,Z5]
def UQ{al bl L:List Int}{x y:Nat}(h:T7 al bl al.length L)(ha:C1 al=(x:Int))(hb:C1 bl=(y:Int))(hm:x*y<10^48):kP L=EM (x*y):=by refine C_ h.SL ?_ hm;rw[h.eq,XV,ha,hb,ZP]
structure c6 (al bl:List Int) (i:Nat) (r:Int) (L:List Int):Prop where
 len:L.length=i
 SL:∀x∈L,0<=x/\x<10000
 r01:r=0\/r=1
 eq:C1 L=C1 (al.take i) - C1 (bl.take i)+r*10000 ^ i
def P7(al bl:List Int):c6 al bl 0 0 []:=⟨rfl,by simp,.inl rfl,by simp[C1]⟩
def L7{al bl L:List Int}{i:Nat}{r x y e q:Int}(hi:i<al.length)(ha:∀x∈al,0<=x/\x<10000)(hb:∀x∈bl,0<=x/\x<10000)(h:c6 al bl i r L)(hx:al[i]?=some x)(hy:bl[i]?.getD 0=y)
  (he:(x - r - y<0/\e=x - r - y+10000/\q=1)\/(0<=x - r - y/\e=x - r - y/\q=0)):c6 al bl (i+1) q (L++[e]):=by
 let⟨k,hr,l,b⟩:=h;have m:=ha x (XL hx);have f:=OA hb i;rw[hy]at f;have a:0<=e/\e<10000:=by omega
 have d:C1 (bl.take (i+1))=C1 (bl.take i)+10000 ^ i*y:=by
  by_cases hk:i<bl.length
  ·obtain⟨z,hz,ht,-⟩:=af hk;rw[ht,nV,X5,YG (by omega)];rw[hz,XP]at hy;simp[C1,hy]
  ·rw[Yg (by omega),YU]at hy;rw[<-hy,XZ (by omega),XZ (by omega)];simp
 have c:C1 (al.take (i+1))=C1 (al.take i)+10000 ^ i*x:=by obtain⟨z,hz,ht,-⟩:=af hi;rw[hx]at hz;injection hz with hz;rw[ht,nV,X5,YG (by omega),hz];simp[C1]
 refine⟨by simp[k],λz hz=>?_,by omega,?_⟩
 ·rcases Yf.1 hz with h1|h1
  ·exact hr z h1
  ·rw[Yy.1 h1];exact a
 ·rw[nV,k,d,c,b,Vv];have e1:e=x - r - y+10000*q:=by omega
  have e2:10000 ^ i*e=10000 ^ i*x - 10000 ^ i*r - 10000 ^ i*y+10000 ^ i*(10000*q):=by rw[e1];simp only[R6,Int.mul_sub]
  have e3:q*(10000 ^ i*10000)=10000 ^ i*(10000*q):=by simp only[ZB,Z5]
  have j:r*10000 ^ i=10000 ^ i*r:=Z5 _ _;simp only[C1,abS,abc];rw[e2,e3,j];generalize (10000:Int) ^ i=U;generalize U*x=u1;generalize U*r=u2;generalize U*y=u3;generalize U*(10000*q)=u4;omega
def Uj{x y:Nat}{L:List Int}{r:Int}(hx:x<10^48)(hxy:y<=x)(h:c6 (EM x) (EM y) (EM x).length r L):kP L=EM (x - y):=by
 let⟨a,hr,b,k⟩:=h;have c:=Nj (show y<10^48 by omega) hx hxy;rw[XV,XZ c,tG x hx,tG y (by omega)]at k;have hb:=nW hr;rw[a]at hb;have:r=0:=by
  rcases b with e|e
  ·exact e
  ·rw[e,Ra]at k;omega
 rw[this,abr,abc]at k;exact C_ hr (by omega) (by omega)
def HO{x y:Int}(h0:0<=x)(h1:x<2^63)(hy:0<y):cL .rem (XE x) (XE y)=.val (XE (x % y)):=by obtain⟨n,rfl⟩:=XU h0;obtain⟨m,rfl⟩:=XU (by omega:0<=y);have:=Hh (x:=n) (y:=m) (by omega);rw[this,aax]
def zf{x y:Int}(h0:0<=x)(h1:x<2^63)(hy:0<y):cL .quo (XE x) (XE y)=.val (XE (x / y)):=by obtain⟨n,rfl⟩:=XU h0;obtain⟨m,rfl⟩:=XU (by omega:0<=y);have:=Cy (x:=n) (y:=m) (by omega) (by omega);rw[this,Int.natCast_ediv]
theorem Ri[Xr]{d i:Nat}{v' w' u:AV}{al bl:List Int}{x V:Int}{Q:QT}{t:T}{g:G}{L:List Int}(hi:i<al.length)(hx:al[i]?=some x)(hx1:0<=x/\x<10000)(hla:al.length<=1000)(hlb:bl.length<=1000)(hb:c7 bl)
  (ra:∀h,ak h 1 v'=some (al.map ci)) (rb:∀h,ak h 1 w'=some (bl.map ci)) (n2:∀g,bC .slice w' g=.val (XE (bl.length:Int)))
  (ht:St t [(0,v'),(1,w'),(5,u),(6,XE (i:Int)),(7,XE 0),(8,XE 0)]) (hu:Own g 0 u 1 (L.map ci)) (hI:j2 bl (al.length+bl.length) i V x 0 0 L)
  (fin:∀t g L k,St t [(0,v'),(1,w'),(5,u),(6,XE (i:Int))]->Own g 0 u 1 (L.map ci)->j2 bl (al.length+bl.length) i V x k 0 L->bl.length<=k->Q (.exit 2) t [] g) :
  VY (wp C0 d none eA) Q t [] g:=by
 refine gi (λn t df g=>df=[]/\∃(k:Nat) (c:Int) (L:List Int),n=bl.length+2 - k/\St t [(0,v'),(1,w'),(5,u),(6,XE (i:Int)),(7,XE c),(8,XE (k:Int))]/\Own g 0 u 1 (L.map ci)/\j2 bl (al.length+bl.length) i V x k c L) (bl.length+2)
  ⟨rfl,0,0,L,by omega,ht,hu,hI⟩ ?_
 rintro n t df g ⟨rfl,k,c,L,rfl,⟨h0,h1,h5,h6,h7,h8,-⟩,hu,hI⟩;have A:=hI.kle;have c0:=hI.c0;have c1:=hI.c1;have w1:IntKind.wrap .i64 ((i:Int)+(k:Int))=((i+k:Nat):Int):=by rw[an];omega
 have w2:IntKind.wrap .i64 ((k:Int)+1)=((k+1:Nat):Int):=by rw[an];omega
 have ur:=λg (hu:Own g 0 u 1 (L.map ci))=>hu.rows
 by_cases hk:k<bl.length\/(k=bl.length/\0<c)
 ·have b:i+k<L.length:=by rw[hI.len];omega
  obtain⟨p,hp,-,-⟩:=af b;obtain⟨I,J⟩:=hI.SL p (XL hp);have r:IntKind.wrap .i64 (c+p)=c+p:=an;have w:i+k<(L.map ci).length:=by simpa using b
  have q2:(L.map ci)[i+k]?=some (ci p):=by rw[XK,hp];rfl
  have ur:=hu.rows;have key:∀s m:Int,m=x*bl[k]?.getD 0->s=c+p+m->0<=s/\s<100000000/\j2 bl (al.length+bl.length) i V x (k+1) (s / 10000) (L.set (i+k) (s % 10000)):=λs m hm hs =>Tk hI (by rw[<-hI.len];exact b) hb hx1 (by omega) hm (by rw[hp];exact hs)
  by_cases hk1:k<bl.length
  ·obtain⟨y,q,-,-⟩:=af hk1;obtain⟨z,K,-⟩:=hb k y q;have q3:i<(al.map ci).length:=by simpa using hi
   have B:(al.map ci)[i]?=some (ci x):=by rw[XK,hx];rfl
   have q5:k<(bl.map ci).length:=by simpa using hk1
   have C:(bl.map ci)[k]?=some (ci y):=by rw[XK,q];rfl
   have a:((k:Int)<(bl.length:Int)):=by omega
   obtain⟨m,hm⟩:∃m,m=x*y:=⟨_,rfl⟩;have F:0<=m:=by rw[hm];exact Zg hx1.1 z
   have H:m<=10000*y:=by rw[hm];exact YI (by omega) z
   obtain⟨s,hs⟩:∃s,s=c+p+m:=⟨_,rfl⟩;obtain⟨f,D,j⟩:=key s m (by rw[q,XP];exact hm) hs;have E:IntKind.wrap .i64 (x*y)=m:=by rw[<-hm,an]
   have w5:IntKind.wrap .i64 (c+p+m)=s:=by rw[<-hs,an]
   have b1:=HO (x:=s) (y:=10000) f (by omega) (by decide);have b2:=zf (x:=s) (y:=10000) f (by omega) (by decide);simp only[sz,simprocAttr,eA,h0,h1,h5,h6,h7,h8,n2,a,w1,r,E,w5,ur,w,q2,q3,B,q5,C,ra,rb,ci,lF,lH,b1];refine bF (v:=u) (sz:=1) (n:=1) (i:=i+k) (off:=0) (x:=XE (s % 10000)) (row':=ci (s % 10000)) hu q2 rfl rfl rfl λg2 hu2 n2 f2=>?_;rw[ub]at hu2;simp only[sz,simprocAttr,h8,w2,b2];exact⟨bl.length+2 - (k+1),by omega,k+1,s / 10000,_,rfl,by simp[St,sx,h0,h1,h5,h6],hu2,j⟩
  ·have a:¬((k:Int)<(bl.length:Int)):=by omega
   have o:(0:Int)<c:=by omega
   have l:bl[k]?.getD 0=0:=by rw[Yg (by omega)];rfl
   obtain⟨s,hs⟩:∃s,s=c+p:=⟨_,rfl⟩;obtain⟨f,D,j⟩:=key s 0 (by rw[l,abS]) (by omega);rw[<-hs]at r;have b1:=HO (x:=s) (y:=10000) f (by omega) (by decide);have b2:=zf (x:=s) (y:=10000) f (by omega) (by decide);simp only[sz,simprocAttr,eA,h1,h5,h6,h7,h8,n2,a,o,w1,r,<-hs,ur,w,q2,ci,lF,lH,b1];refine bF (v:=u) (sz:=1) (n:=1) (i:=i+k) (off:=0) (x:=XE (s % 10000)) (row':=ci (s % 10000)) hu q2 rfl rfl rfl λg2 hu2 n2 f2=>?_;rw[ub]at hu2;simp only[sz,simprocAttr,h8,w2,b2];exact⟨bl.length+2 - (k+1),by omega,k+1,s / 10000,_,rfl,by simp[St,sx,h0,h1,h5,h6],hu2,j⟩
 ·have a:¬((k:Int)<(bl.length:Int)):=by omega
  have hc:c=0:=by
   by_cases e:k=bl.length+1
   ·exact hI.ce e
   ·omega
  subst hc;simp only[sz,simprocAttr,eA,h1,h7,h8,n2,a,aaB];refine fin _ _ L k ?_ hu hI (by omega);simp[St,sx,h0,h1,h5,h6]
def Gc[Xr]{d k k2:Nat}{g:G}{P P2:Nat->Prop}{v w:AV}{x y:Nat}{bl:List Int}(hd:0<d)(hv:Xu P k g.h (EM x) v)(hw:Xu P2 k2 g.h bl w)(hx:x<10^48)(hb:c7 bl)(hlb:bl.length<=100)(hy:C1 bl=(y:Int))(hm:x*y<10^48) :
  ∃r,ah C0 d 163 [v,w] g=.val r/\IT 0 (EM (x*y)) r:=by
 obtain⟨v',e1,f⟩:=aB hv d;obtain⟨w',e2,l⟩:=aB hw d;rw[WL];have e:=tG x hx;have ha:=yz x hx;have q:=mM x;generalize EM x=al at *;refine aP Df (xs:=[v',w']) (by simp only[aD,e1,e2]) (by simp[qP]) (aI _) (by decide) hd ?_;have n1:=λg=>(f .nil).len g;have n2:=λg=>(l .nil).len g;have ra:∀h',ak h' 1 v'=some (al.map ci):=λh'=>(f h').ints;have rb:∀h',ak h' 1 w'=some (bl.map ci):=λh'=>(l h').ints;have w1:IntKind.wrap .i64 ((al.length:Int)+(bl.length:Int))=((al.length+bl.length:Nat):Int):=by rw[an];omega
 simp only[sz,simprocAttr,qP,n1,n2,w1];refine l_ (b:=0) (n:=al.length+bl.length) (by simp[aH];omega) (by simp[aH];omega) (Yi _) λu g1 hu hn1 hf1 hvid=>?_;have hu:Own g1 0 u 1 ((List.replicate (al.length+bl.length) (0:Int)).map ci):=by simpa [ci] using hu
 simp only[sz,simprocAttr,rY];refine qB (m:=al.length) (v:=v') (by omega) n1 (λi t df g=>df=[]/\St t [(1,w'),(5,u)]/\∃L,Own g 0 u 1 (L.map ci)/\T7 al bl i L) ⟨rfl,by simp[St,sx],_,hu,Rf al bl⟩ (by simp[sx]) (by simp[sx]) (by decide) (by rintro j t df g v s (rfl|rfl|rfl|rfl|rfl|rfl|rfl)<;>simp[St,sx]) ?_ ?_
 ·rintro i t df g hi ⟨rfl,⟨h1,h5,-⟩,L,hu,a⟩ h6 h0;obtain⟨p,hp,-,c⟩:=af hi;simp only[sz,simprocAttr];refine Ri (V:=C1 (al.take i)*C1 bl) (L:=L) hi hp (ha p c) (by omega) (by omega) hb ra rb n2 (by simp[St,sx,h0,h1,h5,h6]) hu (Re a.len a.SL a.zer a.eq) ?_;rintro t g L k ⟨h0,h1,h5,h6,-⟩ hu o hk;simp only[sx,sy,↓reduceIte];refine⟨⟨?_,L,hu,Tl hi hp o hk rfl⟩,h6,h0⟩;simp[St,h1,h5]
 ·rintro t df g ⟨rfl,⟨h1,h5,-⟩,L,hu,a⟩ h0;have z:L.length<=200:=by have:=a.len;omega
  have e3:=UQ a e hy hm;simp only[sz,simprocAttr,rZ,h5];refine Da hu (by omega) λv2 hv2=>?_;rw[e3]at hv2;simp only[sz,simprocAttr];exact⟨_,v2,rfl,hv2⟩
def IP[Xr]{d i:Nat}{v' w' u:AV}{e0:Int}{L:List Int}{Q:QT}{t:T}{g:G}(ht:St t [(0,v'),(1,w'),(7,XE (i:Int)),(8,XE e0)])(h5:Xs t 5=u)(hu:Own g 0 u 1 (L.map ci))(hL:L.length<=100)(he:-20000<e0/\e0<20000)
  (fin:∀t g u e q,(e0<0/\e=e0+10000/\q=1)\/(0<=e0/\e=e0/\q=0)->St t [(0,v'),(1,w'),(7,XE (i:Int))]->Xs t 5=u->Xs t 6=XE q->Own g 0 u 1 ((L++[e]).map ci)->Q .norm t [] g) :
  wp C0 d none gt Q t [] g:=by
 obtain⟨h0,h1,h7,h8,-⟩:=ht
 by_cases h:e0<0
 ·have w1:IntKind.wrap .i64 (e0+10000)=e0+10000:=an;simp only[sz,simprocAttr,gt,lD,h5,h8,h,w1];refine aM (new:=[ci (e0+10000)]) (hu.step (Fr.new _ _)) (by simp[sx,sy,ci]) (by simp<;>omega) (by simp[aH]<;>omega) λv2 g2 hv2 n2 f2 _ l2=>?_;simp only[sz];exact fin _ _ v2 _ _ (.inl ⟨h,rfl,rfl⟩) (by simp[St,sx,h0,h1,h7]) (by simp[sx]) (by simp[sx]) (by simpa using hv2)
 ·simp only[sz,simprocAttr,gt,lD,h5,h8,h];refine aM (new:=[ci e0]) (hu.step (Fr.new _ _)) (by simp[sx,sy,ci]) (by simp<;>omega) (by simp[aH]<;>omega) λv2 g2 hv2 n2 f2 _ l2=>?_;simp only[sz];exact fin _ _ v2 _ _ (.inr ⟨by omega,rfl,rfl⟩) (by simp[St,sx,h0,h1,h7]) (by simp[sx]) (by simp[sx]) (by simpa using hv2)
def NT[Xr]{d k k2:Nat}{g:G}{P P2:Nat->Prop}{v w:AV}{x y:Nat}(hd:0<d)(hv:Xu P k g.h (EM x) v)(hw:Xu P2 k2 g.h (EM y) w)(hx:x<10^48)(hxy:y<=x) :
  ∃r,ah C0 d 164 [v,w] g=.val r/\IT 0 (EM (x - y)) r:=by
 obtain⟨v',e1,n⟩:=aB hv d;obtain⟨w',e2,o⟩:=aB hw d;rw[WL];have ha:=yz x hx;have hb:=yz y (by omega);have B:=mM x;have C:=mM y;refine aP De (xs:=[v',w']) (by simp only[aD,e1,e2]) (by simp[qO]) (aI _) (by decide) hd ?_;have n1:=λg=>(n .nil).len g;have n2:=λg=>(o .nil).len g;have ra:∀h',ak h' 1 v'=some ((EM x).map ci):=λh'=>(n h').ints;have rb:∀h',ak h' 1 w'=some ((EM y).map ci):=λh'=>(o h').ints;simp only[sz,simprocAttr,qO,rV];refine qB (m:=(EM x).length) (v:=v') (by omega) n1 (λi t df g=>df=[]/\St t [(1,w')]/\∃(u:AV) (r:Int) (L:List Int),Xs t 5=u/\Xs t 6=XE r/\Own g 0 u 1 (L.map ci)/\c6 (EM x) (EM y) i r L) ⟨rfl,by simp[St,sx],.XC,0,[],by simp[sx],by simp[sx],.inl ⟨rfl,rfl⟩,P7 _ _⟩ (by simp[sx]) (by simp[sx]) (by decide) (by rintro j t df g v s (rfl|rfl|rfl|rfl|rfl|rfl|rfl)<;>simp[St,sx]) ?_ ?_
 ·rintro i t df g hi ⟨rfl,⟨h1,-⟩,u,r,L,h5,h6,hu,a⟩ h7 h0;obtain⟨p,hp,-,c⟩:=af hi;have E:=ha p c;have l:i<((EM x).map ci).length:=by simpa using hi
  have q2:((EM x).map ci)[i]?=some (ci p):=by rw[XK,hp];rfl
  have r01:=a.r01;have A:=a.len;have w1:IntKind.wrap .i64 (p - r)=p - r:=an
  by_cases hk:i<(EM y).length
  ·obtain⟨q,hq,-,f⟩:=af hk;have F:=hb q f;have q3:i<((EM y).map ci).length:=by simpa using hk
   have H:((EM y).map ci)[i]?=some (ci q):=by rw[XK,hq];rfl
   have b:(i:Int)<((EM y).length:Int):=by omega
   have w2:IntKind.wrap .i64 (p - r - q)=p - r - q:=an;simp only[sz,simprocAttr,h0,h1,h6,h7,n2,ra,rb,l,q2,q3,H,ci,w1,w2,b];refine IP (v':=v') (w':=w') (i:=i) (e0:=p - r - q) (by simp[St,sx,h0,h1,h7]) (by simp[sx,h5]) hu (by omega) (by omega) ?_;rintro t g u e z he ⟨h0,h1,h7,-⟩ h5 h6 hu;simp only[sy];exact⟨⟨by simp[St,h1],u,z,_,h5,h6,hu,L7 hi ha hb a hp (by rw[hq];rfl) he⟩,h7,h0⟩
  ·have b:¬(i:Int)<((EM y).length:Int):=by omega
   simp only[sz,simprocAttr,h0,h1,h6,h7,n2,ra,l,q2,ci,w1,b];refine IP (v':=v') (w':=w') (i:=i) (e0:=p - r) (by simp[St,sx,h0,h1,h7]) (by simp[sx,h5]) hu (by omega) (by omega) ?_;rintro t g u e z he ⟨h0,h1,h7,-⟩ h5 h6 hu;simp only[sy];exact⟨⟨by simp[St,h1],u,z,_,h5,h6,hu,L7 (y:=0) (e:=e) (q:=z) (x:=p) (r:=r) hi ha hb a hp (by rw[Yg (by omega)];rfl) (by omega)⟩,h7,h0⟩
 ·rintro t df g ⟨rfl,⟨h1,-⟩,u,r,L,h5,h6,hu,a⟩ h0;have D:L.length<=200:=by have:=a.len;omega
  have e3:=Uj hx hxy a;simp only[sz,simprocAttr,rW,h5];refine Da hu (by omega) λv2 hv2=>?_;rw[e3]at hv2;simp only[sz,simprocAttr];exact⟨_,v2,rfl,hv2⟩
def Pa{A a b:Nat}:(10000*A+a) / b=10000*(A / b)+(10000*(A % b)+a) / b:=by
 rcases aaI b with rfl|hb
 ·simp
 have h1:=YW A b;have h2:10000*A+a=(10000*(A % b)+a)+b*(10000*(A / b)):=by
  have:10000*(b*(A / b)+A % b)=10000*A:=by rw[h1]
  rw[Nat.mul_add,abY]at this;omega
 rw[h2,Nat.add_mul_div_left _ _ hb,abX]
def Qb{A a b:Nat}:(10000*A+a) % b=(10000*(A % b)+a) % b:=by
 have h1:=YW A b;have h2:10000*A+a=(10000*(A % b)+a)+b*(10000*(A / b)):=by
  have:10000*(b*(A / b)+A % b)=10000*A:=by rw[h1]
  rw[Nat.mul_add,abY]at this;omega
 rw[h2,Nat.add_mul_mod_self_left]
def Ug{r a b:Nat}(hr:r<b)(ha:a<10000):(10000*r+a) / b<10000:=by refine ZW ?_;have:r+1<=b:=hr;have:=Ye 10000 this;omega
def O_{r a b:Nat}(hr:r<b)(ha:a<10000):10000*r+a<10000*b:=by omega
def RZ{R b M:Nat}(hb:0<b)(hM:0<M):R / M / (b / M+1)<=R / b:=by
 refine (aae hb).2 ?_;have h1:R / M / (b / M+1)*(b / M+1)<=R / M:=aay _ _;have h2:R / M*M<=R:=aay _ _;have h3:b<=(b / M+1)*M:=by have:=YW b M;have h4:=YX b hM;rw[Yk,Y8,Zm];omega
 calc R / M / (b / M+1)*b<=R / M / (b / M+1)*((b / M+1)*M):=aaz _ h3
  _=R / M / (b / M+1)*(b / M+1)*M:=by rw[aaD]
  _<=R / M*M:=Ye _ h1
  _<=R:=h2
def O9{R b M:Nat}(hM:0<M)(ht:0<b / M):R / b<=R / M / (b / M):=by
 refine (aae ht).2 ((aae hM).2 ?_);have h1:b / M*M<=b:=aay _ _
 calc R / b*(b / M)*M=R / b*(b / M*M):=by rw[aaD]
  _<=R / b*b:=aaz _ h1
  _<=R:=aay _ _
def R0{R b M:Nat}(hM:0<M)(hR:R<10000*b)(ht:0<b / M)(h:M=1\/10000<=b / M):R / M / (b / M)<=10000:=by
 rcases h with rfl|h
 ·rw[R5,R5];have:R / b<10000:=ZW (by rw[Zm];exact hR);omega
 ·have h3:b<(b / M+1)*M:=by have:=YW b M;have h4:=YX b hM;rw[Yk,Y8,Zm];omega
  have h4:R / M<10000*(b / M+1):=by
   refine ZW ?_;have:=Nat.mul_lt_mul_of_pos_left h3 (show 0<10000 by decide);have e:10000*((b / M+1)*M)=M*(10000*(b / M+1)):=by simp only[aaD,Zm]
   omega
  refine Nat.le_of_lt_succ (ZW ?_);have e:b / M*(10000+1)=10000*(b / M)+b / M:=by omega
  rw[Nat.succ_eq_add_one,e];omega
def Pb{L:List Int}{i:Nat}{z:Int}(h:i<L.length):(L.set i z).drop i=z::L.drop (i+1):=by
 rw[YY (by simpa using h)];congr 1
 ·simp
 ·rw[List.drop_set,dk]
def J9{x b i:Nat}:x / 10000 ^ i / b=10000*(x / 10000 ^ (i+1) / b)+(10000*(x / 10000 ^ (i+1) % b)+x / 10000 ^ i % 10000) / b:=by rw[<-Pa,Zn,<-Y1];congr 1;have:=YW (x / 10000 ^ i) 10000;omega
def Kn{x b i:Nat}:x / 10000 ^ i % b=(10000*(x / 10000 ^ (i+1) % b)+x / 10000 ^ i % 10000) % b:=by rw[<-Qb,Zn,<-Y1];congr 1;have:=YW (x / 10000 ^ i) 10000;omega
structure e5 (x b n:Nat) (i:Nat) (L:List Int):Prop where
 len:L.length=n
 SL:∀z∈L,0<=z/\z<10000
 eq:C1 (L.drop i)=((x / 10000 ^ i / b:Nat):Int)
def QB{x b n:Nat}(h:x / 10000 ^ n<b):e5 x b n n (List.replicate n 0):=by
 refine⟨by simp,λz hz=>?_,?_⟩
 ·have:=(ZT.1 hz).2;omega
 ·rw[Zw h,abt (by simp)];rfl
def SH{x b n i q:Nat}{L:List Int}(h:e5 x b n (i+1) L)(hb:0<b)(hi:i<n)(hq:q=(10000*(x / 10000 ^ (i+1) % b)+x / 10000 ^ i % 10000) / b):e5 x b n i (L.set i (q:Int)):=by let⟨k,hr,he⟩:=h;have h1:=Ug (YX (x / 10000 ^ (i+1)) hb) (YX (x / 10000 ^ i) (show 0<10000 by decide));rw[<-hq]at h1;refine⟨by simpa using k,Mq hr (by omega),?_⟩;rw[Pb (by omega),C1,he,J9 (x:=x) (b:=b) (i:=i),<-hq];omega
def UA{x b n:Nat}{L:List Int}(h:e5 x b n 0 L)(hx:x<10^48):kP L=EM (x / b):=by have:=Zh x b;refine C_ h.SL ?_ (by omega);have he:=h.eq;rw[abu,R5,Zc]at he;exact he
def pq{R i j:Nat}(h:R<10000 ^ (i+j)):R / 10000 ^ i<10000 ^ j:=ZW (by rw[<-abZ];exact h)
def AQ(R j:Nat):R / 10000 ^ j=R / 10000 ^ (j+1)*10000+R / 10000 ^ j % 10000:=by have:=YW (R / 10000 ^ j) 10000;rw[Zn,<-Y1];omega
def MF{w:AV}{l:List Int}{k:Nat}(hw:Xu Xt k .nil l w)(hne:l≠[]){c:Nat}(hc:c<=l.length) :
  ∃w',(∀g,fE 1 w (some (XE (c:Int))) none g=.val w')/\Xu Xt k .nil (l.drop c) w':=by
 have hlt:(l.drop c).length<2^63:=by have:=hw.1;rw[ZD];omega
 have h:=hw.2;unfold Oe at h
 split at h
 ·exact absurd h hne
 ·exact absurd h hne
 ·rename_i t s rows;let⟨h0,h1,h2⟩:=h;have a:=h2.len;have hs:s=1:=by
   rcases h1 with e|e
   ·exact e
   ·rw[e]at a;simp at a;exact absurd a hne
  subst hs;refine⟨.WO t 1 (rows.drop c),λg=>?_,hlt,h0,.inl rfl,h2.drop c⟩;show VW (match aS (bD rows) (bD rows) none with
   |none=>none
   | some h=>match aS 0 h (some (XE (.ofNat c))) with
    |none=>none
    |some l=>ax (Nat.beq 1 1) (some (.WO t 1 (h_ (h - l) (gG l rows)))) none)=_
  show VW (match aS 0 (bD rows) (some (XE (.ofNat c))) with
    |none=>none
    |some l=>ax (Nat.beq 1 1) (some (.WO t 1 (h_ (bD rows - l) (gG l rows)))) none)=_
  have:aS 0 (bD rows) (some (XE (.ofNat c)))=some c:=by show ax (Nat.ble c (bD rows)) (some c) none=_;rw[aa,XO];rw[ay,<-a];simp;omega
  rw[this];show VW (ax (Nat.beq 1 1) (some (AV.WO t 1 (h_ (bD rows - c) (gG c rows)))) none)=_;rw[show Nat.beq 1 1=true from rfl,WK,bI,bK,XZ (by rw[ZD,ay];exact XH _)];rfl
 ·exact h.1.elim
 ·exact h.elim
def O1{a b:Nat}(h:a<=b):tB a b<=0:=by unfold tB;split<;>first|omega| (split<;>omega)
def Ua{a b:Nat}(h:¬a<=b):¬tB a b<=0:=by unfold tB;rw[aJ,aJ];omega
def O8{m:Nat}(h:m<=10000):c7 [(m:Int)]:=λk z hz=>by
 cases k with
 |zero=>simp at hz;omega
 |succ k=>simp at hz
def RY{m:Nat}(h:m<10^48):c7 (EM m):=λk z hz=>by have:=yz m h z (XL hz);omega
def I9(g:G)(x:Int):Own (g.new (Xy 1 [[XE x]])) 0 (.Xj g.nx 0 0 1 none) 1 ([x].map ci):=.inr ⟨g.nx,0,false,Yi _,by simp,rfl,by simp[aY,ci]⟩
def Dv(v w q r:AV)(n:Nat):List (Nat×AV):=[(0,v),(1,w),(6,XE (n:Int)),(7,q),(8,r)]
def R1[Xr]{d k i n lo hi:Nat}{v w uq rest:AV}{y R:Nat}{P:Nat->Prop}{Q:QT}{t:T}{g:G}(hd:0<d)(hw:∀h,Xu Xt k h (EM y) w)(hy0:0<y)(hy:y*10000<10^48)(hR:R<10^48)
  (hr:Xu P 0 g.h (EM R) rest) (hP:∀i,P i->i<g.nx) (ht:St t ((9,XE (i:Int))::Dv v w uq rest n)) (h13:Xs t 13=XE (lo:Int)) (h14:Xs t 14=XE (hi:Int)) (hlo:lo<=R / y) (hhi:R / y<=hi) (hh:hi<=10000)
  (fin:∀t g',Fr g g'->St t ((9,XE (i:Int))::Dv v w uq rest n)->Xs t 13=XE ((R / y:Nat):Int)->Q (.exit 4) t [] g') :
  VY (wp C0 d none fG) Q t [] g:=by
 refine gi (λz t df g'=>df=[]/\∃lo hi:Nat,z=hi - lo/\lo<=R / y/\R / y<=hi/\hi<=10000/\Fr g g'/\St t ((9,XE (i:Int))::Dv v w uq rest n)/\Xs t 13=XE (lo:Int)/\Xs t 14=XE (hi:Int)) (hi - lo)
  ⟨rfl,lo,hi,rfl,hlo,hhi,hh,Fr.refl _,ht,h13,h14⟩ ?_
 rintro z t df g' ⟨rfl,lo,hi,rfl,hlo,hhi,hh,hf,⟨h9,h0,h1,h6,h7,h8,-⟩,h13,h14⟩
 by_cases hlt:lo<hi
 ·have b:(lo:Int)<(hi:Int):=by omega
  obtain⟨mid,j⟩:∃mid:Nat,mid=(lo+hi+1) / 2:=⟨_,rfl⟩;have w1:IntKind.wrap .i64 ((lo:Int)+(hi:Int))=(lo:Int)+(hi:Int):=an;have w2:IntKind.wrap .i64 ((lo:Int)+(hi:Int)+1)=(lo:Int)+(hi:Int)+1:=an;have b1:cL .quo (XE ((lo:Int)+(hi:Int)+1)) (XE 2)=.val (XE (mid:Int)):=by rw[zf (by omega) (by omega) (by decide)];congr 2;omega
  have m:y*mid<=y*10000:=aaz _ (by omega);have c:mid<=R / y↔y*mid<=R:=by rw[aae hy0,Zm]
  simp only[sz,simprocAttr,fG,h1,h13,h14,b,w1,w2,b1];have ho:=I9 g' (mid:Int);refine aG (Gc (d:=d) (x:=y) (y:=mid) hd (hw _) (ho.sl (α:=Int) (k:=0) (P:=λ_=>True) (by simp) (VJ (λa=>aK.2 rfl) _) λ_ _=>trivial) (by omega) (O8 (by omega)) (by simp) (by simp[C1]) (by omega)) λr hr2=>?_;simp only[sz,h8];have f:Fr g (g'.new (Xy 1 [[XE (mid:Int)]])):=hf.trans (Fr.new _ _);refine aG (Q:=λz=>z=XE (tB (y*mid) R)) ⟨_,C6 hd (hr2.sl _) (hr.far8 (h':=(g'.new (Xy 1 [[XE (mid:Int)]])).h) λi hi=>f.2 i (hP i hi)) (by omega) hR,rfl⟩ ?_;rintro _ rfl
  by_cases hle:y*mid<=R
  ·have hc:=O1 hle;simp only[sz,simprocAttr,hc];refine⟨hi - mid,by omega,mid,hi,rfl,c.2 hle,hhi,hh,f,?_,?_,?_⟩<;>simp[St,Dv,sx,h0,h1,h6,h7,h8,h9,h14]
  ·have hc:=Ua hle;have l:IntKind.wrap .i64 ((mid:Int) - 1)=((mid - 1:Nat):Int):=by rw[an];omega
   have:¬mid<=R / y:=λe=>hle (c.1 e);simp only[sz,simprocAttr,hc,l];refine⟨mid - 1 - lo,by omega,lo,mid - 1,rfl,hlo,by omega,by omega,f,?_,?_,?_⟩<;>simp[St,Dv,sx,h0,h1,h6,h7,h8,h9,h13]
 ·have b:¬(lo:Int)<(hi:Int):=by omega
  have e:lo=R / y:=by omega
  simp only[sz,simprocAttr,fG,h13,h14,b];refine fin _ g' hf ?_ ?_
  ·simp[St,Dv,sx,h0,h1,h6,h7,h8,h9]
  ·simp[sx,h13,e]
theorem R2[Xr]{d k i n:Nat}{v w uq rest:AV}{y R m:Nat}{P:Nat->Prop}{Q:QT}{t:T}{g:G}(hw:∀h,Xu Xt k h (EM y) w)(hm:m=n - 1)(hn:n+1=(EM y).length)(hy:y<10^48)(hR:R<10^48)(hRy:R<10000*y)
  (hr:Xu P 0 g.h (EM R) rest) (ht:St t ((9,XE (i:Int))::Dv v w uq rest n)) (Xp:Xs t 10=XE 0) (h11:Xs t 11=XE 0) (h12:Xs t 12=XE ((n:Int)+1))
  (fin:∀t,St t ((9,XE (i:Int))::Dv v w uq rest n)->Xs t 10=XE ((y / 10000 ^ m:Nat):Int)->Xs t 11=XE ((R / 10000 ^ m:Nat):Int)->Q (.exit 2) t [] g) :
  VY (wp C0 d none dS) Q t [] g:=by
 have K:=mM y;have yb:y<10000 ^ (n+1):=by rw[hn];exact zA hy
 have rb2:R<10000 ^ (n+2):=by rw[Zn];omega
 have o:=hr.len;have x:=hr.ints;have M:=λg=>(hw .nil).len g;have A:∀h,ak h 1 w=some ((EM y).map ci):=λh=>(hw h).ints;have lr:=mM R;refine gi (λz t df g'=>df=[]/\g'=g/\∃j:Nat,z=j/\m<=j/\j<=n+2/\St t ((9,XE (i:Int))::Dv v w uq rest n)/\Xs t 10=XE ((y / 10000 ^ j:Nat):Int)/\Xs t 11=XE ((R / 10000 ^ j:Nat):Int)/\Xs t 12=XE ((j:Int) - 1)) (n+2)
  ⟨rfl,rfl,n+2,rfl,by omega,by omega,ht,?_,?_,?_⟩ ?_
 ·rw[Xp,Zw (XX yb (Yr (by decide) (by omega)))];rfl
 ·rw[h11,Zw rb2];rfl
 ·rw[h12];congr 1;omega
 rintro j t df g' ⟨rfl,rfl,_,rfl,L,J,⟨h9,h0,h1,h6,h7,h8,-⟩,Xp,h11,h12⟩;have w1:IntKind.wrap .i64 ((n:Int) - 1)=(n:Int) - 1:=an;have B:max 0 ((n:Int) - 1)=(m:Int):=by omega
 by_cases hj:m<j
 ·have f:(m:Int)<=(j:Int) - 1:=by omega
  obtain⟨k,rfl⟩:∃k,j=k+1:=⟨j - 1,by omega⟩;have ek:((k+1:Nat):Int) - 1=(k:Int):=by omega
  rw[ek]at h12 f;have f1:R / 10000 ^ (k+1)<10000 ^ 2:=XX (pq (i:=k+1) (j:=n+2 - (k+1)) (by rw[show k+1+(n+2 - (k+1))=n+2 by omega];exact rb2)) (Yr (by decide) (by omega));have f2:y / 10000 ^ (k+1)<10000 ^ 2:=XX (pq (i:=k+1) (j:=n+2 - (k+1)) (by rw[show k+1+(n+2 - (k+1))=n+2 by omega];exact XX yb (Yr (by decide) (by omega)))) (Yr (by decide) (by omega));have D:=AQ R k;have O:=AQ y k;have g1:=yy k R hR;have g2:=yy k y hy;have l1:=YX (R / 10000 ^ k) (show 0<10000 by decide);have l2:=YX (y / 10000 ^ k) (show 0<10000 by decide);have N:10000 ^ 2=100000000:=rfl;rw[N]at f1 f2;generalize R / 10000 ^ (k+1)=F at *;generalize y / 10000 ^ (k+1)=U at *;generalize R / 10000 ^ k % 10000=a at *;generalize y / 10000 ^ k % 10000=b at *;have w2:IntKind.wrap .i64 ((F:Int)*10000)=((F*10000:Nat):Int):=by rw[an];omega
  have tail:∀t,St t ((9,XE (i:Int))::Dv v w uq rest n)->Xs t 10=XE (U:Int)->Xs t 11=XE ((R / 10000 ^ k:Nat):Int)->Xs t 12=XE (k:Int) ->
    wp C0 d none fH (λe t df g2=>e=.norm/\df=[]/\g2=g'/\St t ((9,XE (i:Int))::Dv v w uq rest n)/\Xs t 10=XE ((y / 10000 ^ k:Nat):Int)/\Xs t 11=XE ((R / 10000 ^ k:Nat):Int)/\Xs t 12=XE (k:Int)) t [] g':=by
   rintro t ⟨h9,h0,h1,h6,h7,h8,-⟩ Xp h11 h12
   by_cases hk:k<=n
   ·have c:(k:Int)<=(n:Int):=by omega
    have l:k<(EM y).length:=by omega
    obtain⟨q,hq,-,-⟩:=af l;have C:k<((EM y).map ci).length:=by simpa using l
    have q2:((EM y).map ci)[k]?=some (ci q):=by rw[XK,hq];rfl
    rw[hq,XP]at g2;subst g2;have r:IntKind.wrap .i64 ((U:Int)*10000)=((U*10000:Nat):Int):=by rw[an];omega
    have V:IntKind.wrap .i64 (((U*10000:Nat):Int)+(b:Int))=((y / 10000 ^ k:Nat):Int):=by rw[O,an];omega
    simp only[sz,simprocAttr,fH,h1,h6,Xp,h11,h12,c,A,C,q2,ci,r,V];simp[St,Dv,sx,h0,h1,h6,h7,h8,h9]
   ·have c:¬(k:Int)<=(n:Int):=by omega
    have I:b=0:=by rw[Yg (by omega),YU]at g2;omega
    have E:y / 10000 ^ k=0:=Zw (XX yb (Yr (by decide) (by omega)));have s:U=0:=by omega
    simp only[sz,simprocAttr,fH,h6,Xp,h11,h12,c];simp[St,Dv,sx,h0,h1,h6,h7,h8,h9,E,s]
  have u:=x
  by_cases hk:k<(EM R).length
  ·have c:(k:Int)<((EM R).length:Int):=by omega
   obtain⟨p,hp,-,-⟩:=af hk;have C:k<((EM R).map ci).length:=by simpa using hk
   have q2:((EM R).map ci)[k]?=some (ci p):=by rw[XK,hp];rfl
   rw[hp,XP]at g1;subst g1;have r:IntKind.wrap .i64 (((F*10000:Nat):Int)+(a:Int))=((R / 10000 ^ k:Nat):Int):=by rw[D,an];omega
   simp only[sz,simprocAttr,dS,h6,h8,h11,h12,w1,B,f,w2,o,c,u,C,q2,ci,r];refine ch _ (tail _ (by simp[St,Dv,sx,h0,h1,h6,h7,h8,h9]) (by simp[sx,Xp]) (by simp[sx]) (by simp[sx,h12])) ?_;rintro e t df g2 ⟨rfl,rfl,rfl,⟨h9,h0,h1,h6,h7,h8,-⟩,Xp,h11,h12⟩;have w5:IntKind.wrap .i64 ((k:Int) - 1)=(k:Int) - 1:=an;simp only[sz,simprocAttr,j8,h12,w5];refine⟨k,by omega,k,rfl,by omega,by omega,?_,?_,?_,?_⟩<;>simp[St,Dv,sx,h0,h1,h6,h7,h8,h9,Xp,h11]
  ·have c:¬(k:Int)<((EM R).length:Int):=by omega
   have H:a=0:=by rw[Yg (by omega),YU]at g1;omega
   have r:((F*10000:Nat):Int)=((R / 10000 ^ k:Nat):Int):=by rw[D];omega
   simp only[sz,simprocAttr,dS,h6,h8,h11,h12,w1,B,f,w2,o,c];refine ch _ (tail _ (by simp[St,Dv,sx,h0,h1,h6,h7,h8,h9]) (by simp[sx,Xp]) (by simp[sx,r]) (by simp[sx,h12])) ?_;rintro e t df g2 ⟨rfl,rfl,rfl,⟨h9,h0,h1,h6,h7,h8,-⟩,Xp,h11,h12⟩;have w5:IntKind.wrap .i64 ((k:Int) - 1)=(k:Int) - 1:=an;simp only[sz,simprocAttr,j8,h12,w5];refine⟨k,by omega,k,rfl,by omega,by omega,?_,?_,?_,?_⟩<;>simp[St,Dv,sx,h0,h1,h6,h7,h8,h9,Xp,h11]
 ·have f:¬(m:Int)<=(j:Int) - 1:=by omega
  have e:j=m:=by omega
  subst e;simp only[sz,simprocAttr,dS,h6,h12,w1,B,f];refine fin _ ?_ ?_ ?_
  ·simp[St,Dv,sx,h0,h1,h6,h7,h8,h9]
  ·simp[sx,Xp]
  ·simp[sx,h11]
def Xu.wd{α:Type} [Rp α]{P P':Nat->Prop}{k:Nat}{h h':H}{l:List α}{v:AV}(r:Xu P k h l v)(hf:∀i,P i->P' i/\h'.get i=h.get i):Xu P' k h' l v:=by let⟨w,hw,q⟩:=Rp.mono (k':=k) (P':=P') (h':=h') (show Rp.rp P k h l [v] from ⟨v,rfl,r⟩) hf (XH _);cases hw;exact q
def I8(g:G){b:Nat}(hb:b<=g.nx):Own (g.new (Xy 1 [])) b (.Xj g.nx 0 0 0 none) 1 []:=.inr ⟨g.nx,0,false,hb,by simp,rfl,by simp[aY]⟩
def DvJ(v w q:AV)(n x y N:Nat)(i:Nat):PT:=λt df g=>df=[]/\St t [(0,v),(1,w),(6,XE (n:Int)),(7,q)]/\∃rest L,Xs t 8=rest/\Own g 0 q 1 (L.map ci)/\e5 x y N i L/\Xu (λj=>j<g.nx/\W5 q≠some j) 0 g.h (EM (x / 10000 ^ i % y)) rest
def Uh[Xr]{d k i n N:Nat}{v w uq rest:AV}{x y R:Nat}{P:Nat->Prop}{Q:QT}{t:T}{g:G}{L:List Int}(hd:0<d)(hw:∀h,Xu Xt k h (EM y) w)(hy0:0<y)(hy:y*10000<10^48)(hR:R<10000*y)
  (hr:Xu P 0 g.h (EM R) rest) (hP:∀j,P j->j<g.nx/\W5 uq≠some j) (hu:Own g 0 uq 1 (L.map ci)) (hq:e5 x y N (i+1) L) (hi:i<N) (hRx:R=10000*(x / 10000 ^ (i+1) % y)+x / 10000 ^ i % 10000)
  (ht:St t ((9,XE (i:Int))::Dv v w uq rest n)) (h13:Xs t 13=XE ((R / y:Nat):Int))
  (fin:∀t g,DvJ v w uq n x y N i t [] g->Xs t 9=XE (i:Int)->Q .norm t [] g) :
  wp C0 d none j9 Q t [] g:=by
 obtain⟨h9,h0,h1,h6,h7,h8,-⟩:=ht;have c:i<L.length:=by rw[hq.len];exact hi
 have m:=SH (q:=R / y) hq hy0 hi (by rw[hRx]);have ql:R / y<10000:=ZW (by rw[Zm];exact hR);have f:y*(R / y)<=R:=Nat.mul_div_le R y;have e:R - y*(R / y)=x / 10000 ^ i % y:=by rw[Kn,<-hRx];have:=YW R y;omega
 obtain⟨p,hp,-,-⟩:=af c;have r:i<(L.map ci).length:=by simpa using c
 have q2:(L.map ci)[i]?=some (ci p):=by rw[XK,hp];rfl
 have ur:=hu.rows;simp only[sz,simprocAttr,j9,h7,h9,h13,ur,r];refine bF (v:=uq) (sz:=1) (n:=1) (i:=i) (off:=0) (x:=XE ((R / y:Nat):Int)) (row':=ci ((R / y:Nat):Int)) hu q2 rfl rfl rfl λg4 hu4 n4 f4=>?_;rw[ub]at hu4;simp only[sz,simprocAttr,h1,h8,h13];refine Da (l:=[((R / y:Nat):Int)]) (I9 g4 _) (by simp) λv5 hv5=>?_;rw[C_ (n:=R / y) (by intro z hz;rw[Yy.1 hz];exact⟨ZS _,Int.ofNat_lt.2 ql⟩) (by simp[C1]) (by omega)]at hv5;simp only[sz,simprocAttr];refine aG (Gc (d:=d) (x:=y) (y:=R / y) hd (hw _) hv5 (by omega) (RY (by omega)) (by have:=mM (R / y);omega) (tG _ (by omega)) (by omega)) λr6 hr6=>?_;simp only[sz,simprocAttr];have o:Xu (λ_=>True) 0 (g4.new (Xy 1 [[XE ((R / y:Nat):Int)]])).h (EM R) rest:=hr.wd λj hj=>⟨trivial,by obtain⟨a,b⟩:=hP j hj;rw[G.new_h,aq,f4 j b]⟩
 refine aG (NT (d:=d) (x:=R) (y:=y*(R / y)) hd o (hr6.sl _) (by omega) f) λr8 hr8=>?_;rw[e]at hr8;simp only[sz,simprocAttr];refine fin _ _ ⟨rfl,?_,r8,_,?_,hu4.step (Fr.new _ _),m,(hr8.sl .nil).wd λ_ h=>h.elim⟩ ?_
 ·simp[St,sx,h0,h1,h6,h7]
 ·simp[sx]
 ·simp[sx,h9]
def yU[Xr]{d k k2:Nat}{g:G}{P P2:Nat->Prop}{v w:AV}{x y:Nat}(hd:0<d)(hv:Xu P k g.h (EM x) v)(hw:Xu P2 k2 g.h (EM y) w)(hx:x<10^48)(hy0:0<y)(hy:y*10000<10^48) :
  ∃r,ah C0 d 147 [v,w] g=.val r/\CH (One (EM (x / y))) (One (EM (x % y))) Xt 0 .nil r:=by
 obtain⟨v',e1,r1⟩:=aB hv d;obtain⟨w',e2,M⟩:=aB hw d;rw[WL];have hb:=mM x;have hc:=mM y;have he:=LD (n:=y) (by omega) (by omega);refine aP BY (xs:=[v',w']) (by simp only[aD,e1,e2]) (by simp[j7]) (jb (m:=1) (aI _) (aI _) (by decide) (by decide)) (by decide) hd ?_;have n1:=λg=>(r1 .nil).len g;have n2:=λg=>(M .nil).len g;have ra:∀h',ak h' 1 v'=some ((EM x).map ci):=λh'=>(r1 h').ints;obtain⟨n,X⟩:∃n,n+1=(EM y).length:=⟨(EM y).length - 1,by omega⟩;have w1:IntKind.wrap .i64 (((EM y).length:Int) - 1)=(n:Int):=by rw[an];omega
 have ybx:10000 ^ n<=y:=by have:=Tq (n:=y) (by omega) (by omega);rw[<-X]at this;exact this
 by_cases hle:(EM x).length<=n
 ·have l:((EM x).length:Int)<=(n:Int):=by omega
  have hlt:x<y:=XX (XX (zA hx) (Yr (by decide) hle)) ybx;simp only[sz,simprocAttr,j7,n1,n2,w1,l];refine aM (b:=0) (new:=(EM x).map ci) (I8 _ (Yi _)) (ra _) (Yi _) (by simp[aH];omega) λv2 g2 f n2 f2 _ l2=>?_;simp only[sz,simprocAttr];refine⟨λ_=>True,.XC,v2,rfl,?_,?_⟩
  ·rw[Zw hlt];exact⟨.XC,rfl,by show 0<2^63;decide,rfl⟩
  ·rw[Z8 hlt];exact Own.ints (by simpa using f) (by omega)
 ·have l:¬((EM x).length:Int)<=(n:Int):=by omega
  obtain⟨N,hN⟩:∃N,N+n=(EM x).length:=⟨(EM x).length - n,by omega⟩;have w2:IntKind.wrap .i64 (((EM x).length:Int) - (n:Int))=(N:Int):=by rw[an];omega
  obtain⟨w3,hs,K⟩:=MF (c:=N) (r1 .nil) (by intro e;rw[e]at hN hle;simp at hN hle) (by omega);rw[LB N x hx]at K;have T:x / 10000 ^ N<10000 ^ n:=pq (by rw[hN];exact zA hx);have C:x / 10000 ^ N<y:=XX T ybx;simp only[sz,simprocAttr,j7,n1,n2,w1,l,w2];refine l_ (b:=0) (n:=N) (by simp[aH];omega) (by simp[aH];omega) (Yi _) λuq g1 hu hn1 hf1 hvid=>?_;have hu:Own g1 0 uq 1 ((List.replicate N (0:Int)).map ci):=by simpa [ci] using hu
  simp only[sz,simprocAttr,n1,w2,YD,Yz,hs];have h4:=mM (x / 10000 ^ N);refine aM (b:=g1.nx) (new:=(EM (x / 10000 ^ N)).map ci) (I8 _ (XH _)) (K.tree (XH _)).ints (by simp) (by simp[aH];omega) λv4 g4 o n4 f4 _ l4=>?_;have o:Own g4 g1.nx v4 1 ((EM (x / 10000 ^ N)).map ci):=by simpa using o
  have H:Fr g1 g4:=⟨by simp at n4;omega,λi hi=>by rw[f4 i (by simp;omega) (by intro e;injection e with e;omega),G.new_h,aq]⟩;have J:=hu.step H;have W:bC .slice uq g4=.val (XE (N:Int)):=by rw[bQ J.rows];simp
  have w4:IntKind.wrap .i64 ((N:Int) - 1)=(N:Int) - 1:=an;simp only[sz,simprocAttr,W,w4,pQ,pS];refine tj (m:=N) (by omega) (DvJ v' w' uq n x y N) ⟨rfl,by simp[St,sx],v4,_,by simp[sx],J,QB C,?_⟩ (by simp[sx]) (by decide) (by rintro j t df g v s (rfl|rfl|rfl|rfl|rfl)<;>simp[DvJ,St,sx]) ?_ ?_
  ·rw[Z8 C];exact o.sl (by omega) (VJ (λa=>aK.2 rfl) _) λi hi=>⟨(o.lt hi).2,λe=>by have:=(hu.lt e).2;have:=(o.lt hi).1;omega⟩
  ·rintro i t df g hi ⟨rfl,⟨h0,h1,h6,h7,-⟩,rest,L,h8,hu,hq,hr⟩ h9;have I:i<(EM x).length:=by omega
   obtain⟨p,hp,-,-⟩:=af I;have q1:i<((EM x).map ci).length:=by simpa using I
   have q2:((EM x).map ci)[i]?=some (ci p):=by rw[XK,hp];rfl
   have gp:=yy i x hx;rw[hp,XP]at gp;have ha:=YX (x / 10000 ^ i) (show 0<10000 by decide);have Y:=YX (x / 10000 ^ (i+1)) hy0;obtain⟨R,hR⟩:∃R,R=10000*(x / 10000 ^ (i+1) % y)+x / 10000 ^ i % 10000:=⟨_,rfl⟩;have u:R<10000*y:=by rw[hR];exact O_ Y ha
   have h5:=mM (x / 10000 ^ (i+1) % y);have E:kP (p::EM (x / 10000 ^ (i+1) % y))=EM R:=by
    refine C_ (λz hz=>?_) ?_ (by omega)
    ·rcases Yh.1 hz with rfl|hz
     ·omega
     ·exact yz _ (by omega) z hz
    ·rw[C1,tG _ (by omega),gp,hR];omega
   have w5:IntKind.wrap .i64 ((n:Int)+1)=(n:Int)+1:=an;simp only[sz,simprocAttr,h0,h8,h9,ra,q1,q2,ci];refine aM (b:=g.nx) (rows:=[p].map ci) (new:=(EM (x / 10000 ^ (i+1) % y)).map ci) (SB (XH _) _) (hr.far8 λj hj=>by rw[G.new_h,aq]).ints (by simp) (by simp[aH];omega) λv2 g2 f n2 f2 _ l2=>?_;have f:Own g2 g.nx v2 1 ((p::EM (x / 10000 ^ (i+1) % y)).map ci):=by simpa using f
   have V:Fr g g2:=⟨by simp at n2;omega,λi hi=>by rw[f2 i (by simp;omega) (by intro e;injection e with e;omega),G.new_h,aq]⟩;simp only[sz,simprocAttr];refine Da f (by simp;omega) λv3 hv3=>?_;rw[E]at hv3;simp only[sz,simprocAttr,h6,w5];have q:∀j,W5 v2=some j->j<g2.nx/\W5 uq≠some j:=λj hj=>⟨(f.lt hj).2,λe=>by have:=(hu.lt e).2;have:=(f.lt hj).1;omega⟩;obtain⟨m,hm⟩:∃m,m=n - 1:=⟨_,rfl⟩;refine R2 (i:=i) (n:=n) (v:=v') (uq:=uq) (rest:=v3) (m:=m) (R:=R) (k:=max k2 d) M hm X (by omega) (by omega) u hv3 (by simp[St,Dv,sx,h0,h1,h6,h7,h9]) (by simp[sx]) (by simp[sx]) (by simp[sx]) ?_;rintro t ⟨h9,h0,h1,h6,h7,h8,-⟩ Xp O;have D:0<10000 ^ m:=Nat.pow_pos (by decide);have B:0<y / 10000 ^ m:=Nat.div_pos (Ya (Yr (by decide) (by omega)) ybx) D;have h2:10000 ^ m=1\/10000<=y / 10000 ^ m:=by
    by_cases h:m=0
    ·left;rw[h]
    ·right;refine (aae D).2 (Ya (Nat.le_of_eq ?_) ybx);rw[show n=m+1 by omega,Zn,Zm]
   have d1:=RZ (R:=R) (b:=y) hy0 D;have d2:=O9 (R:=R) D B;have d3:=R0 D u B h2;have t1:y / 10000 ^ m<10000 ^ 2:=pq (XX (zA (n:=y) (by omega)) (Yr (by decide) (by omega)));have t2:R / 10000 ^ m<10000 ^ 3:=pq (by have:=zA (n:=y) (by omega);rw[<-X]at this;refine XX (m:=10000 ^ (n+2)) ?_ (Yr (by decide) (by omega));rw[Zn];omega)
   generalize y / 10000 ^ m=U at *;generalize R / 10000 ^ m=F at *;have p2:10000 ^ 2=100000000:=rfl;have p3:10000 ^ 3=1000000000000:=rfl;rw[p2]at t1;rw[p3]at t2;have w6:IntKind.wrap .i64 ((U:Int)+1)=((U+1:Nat):Int):=by rw[an];omega
   have b1:=Cy (x:=F) (y:=U+1) (by omega) (by omega);have b2:=Cy (x:=F) (y:=U) (by omega) B;simp only[sz,simprocAttr,pR,Xp,O,w6,b1,b2];refine R1 (d:=d+1) (i:=i) (n:=n) (v:=v') (w:=w') (uq:=uq) (rest:=v3) (y:=y) (R:=R) (k:=max k2 d) (lo:=F / (U+1)) (hi:=F / U) (XR d) M hy0 hy (by omega) hv3 (λj hj=>(q j hj).1) (by simp[St,Dv,sx,h0,h1,h6,h7,h8,h9]) (by simp[sx]) (by simp[sx]) d1 d2 d3 ?_;rintro t g3 A Z Q;simp only[sx,↓reduceIte];refine Uh (d:=d+1) (k:=max k2 d) (P:=λj=>W5 v2=some j) (N:=N) (x:=x) (XR d) M hy0 hy u (hv3.far8 λj hj=>A.2 j (q j hj).1) (λj hj=>⟨XX (q j hj).1 A.1,(q j hj).2⟩) (hu.step (V.trans A)) hq hi hR Z Q ?_;rintro t g hJ h9;exact⟨hJ,h9⟩
  ·rintro t df g ⟨rfl,⟨h0,h1,h6,h7,-⟩,rest,L,h8,hu,hq,hr⟩;have h3:=hq.len;simp only[sz,simprocAttr,pT,h7];refine Da hu (by omega) λv9 hv9=>?_;rw[UA hq hx]at hv9;rw[abu,R5]at hr;simp only[sz,simprocAttr,h8];exact⟨λ_=>True,v9,rest,rfl,⟨v9,rfl,hv9.wd λ_ _=>⟨trivial,rfl⟩⟩,⟨rest,rfl,hr.wd λ_ _=>⟨trivial,rfl⟩⟩⟩
theorem SW[Xr]{d:Nat}{g:G}{v w:AV}{x y:Nat}(hd:0<d)(hv:IT 0 (EM x) v)(hw:IT 0 (EM y) w)(hx:x*10000<10^48)(hy:y*10000<10^48) :
  ∃r,ah C0 d 146 [v,w] g=.val r/\IT 0 (EM (Nat.gcd x y)) r:=by
 rw[WL];refine aP GI (xs:=[v,w]) (by simp only[aD,mc d (hv.sl g.h),mc d (hw.sl g.h)]) (by simp[vV]) (aI _) (by decide) hd ?_;simp only[sz,simprocAttr,vV];refine gi (λn t df g=>df=[]/\∃(a b:Nat) (va vb:AV),n=b/\a*10000<10^48/\b*10000<10^48/\Nat.gcd a b=Nat.gcd x y/\Xs t 0=va/\Xs t 1=vb/\IT 0 (EM a) va/\IT 0 (EM b) vb) y
  ⟨rfl,x,y,v,w,rfl,hx,hy,rfl,by simp[sx],by simp[sx],hv,hw⟩ ?_
 rintro b t df g ⟨rfl,a,_,va,vb,rfl,ha,hb,hg,h0,h1,c,k⟩;have hl:=k.len
 by_cases hb0:b=0
 ·subst hb0;have q0:¬((0:Int)<((EM 0).length:Int)):=by rw[pJ];simp
  rw[Nat.gcd_zero_right]at hg;subst hg;simp only[sz,simprocAttr,ol,vX,h0,h1,hl,q0];exact⟨λ_=>True,va,rfl,(c.sl g.h).wd λ_ h=>h.elim⟩
 ·have q0:(0:Int)<((EM b).length:Int):=by have:=LD (n:=b) hb0 (by omega);omega
  simp only[sz,simprocAttr,ol,h0,h1,hl,q0];refine aG (yU (d:=d+1) (XR d) (c.sl g.h) (k.sl g.h) (by omega) (abN hb0) hb) ?_;rintro _ ⟨f,e,rfl,h3,h4⟩;have hlt:=YX a (abN hb0);simp only[sz,simprocAttr,h1];refine⟨a % b,hlt,b,a % b,vb,e,rfl,hb,aaJ (Ye _ (Nat.le_of_lt hlt)) hb,?_,?_,?_,k,h4⟩
  ·rw[<-hg,Nat.gcd_comm a b,Nat.gcd_comm b (a % b),<-Nat.gcd_rec]
  ·simp[sx]
  ·simp[sx]
theorem Gg[Xr]{d k:Nat}{g:G}{P:Nat->Prop}{v:AV}{x:Nat}(hd:0<d)(hv:Xu P k g.h (EM x) v)(hx:x<=4611686018427387903) :
  ah C0 d 148 [v] g=.val (.WM [XE (x:Int),.bool true]):=by
 have key:∃r,ah C0 d 148 [v] g=.val r/\CH (One (x:Int)) (One true) Xt 0 .nil r:=by
  obtain⟨v',e1,i⟩:=aB hv d;rw[WL];refine aP Dg (xs:=[v']) (by simp only[aD,e1]) (by simp[qQ]) (jb (m:=1) (aI _) (aI _) (by decide) (by decide)) (by decide) hd ?_;have n1:=λg=>(i .nil).len g;have ra:∀h',ak h' 1 v'=some ((EM x).map ci):=λh'=>(i h').ints;have o:=mM x;have w1:IntKind.wrap .i64 (((EM x).length:Int) - 1)=((EM x).length:Int) - 1:=an;simp only[sz,simprocAttr,qQ];obtain⟨M,w⟩:∃M:Nat,M=4611686018427387903:=⟨_,rfl⟩;have e:(M:Int)=4611686018427387903:=by omega
  have c:=λg=>AR (d:=d+1) (g:=g) (n:=M) (XR d) (by omega);rw[e]at c;refine aG (c _) λr hr=>?_;have hc:∀g,ah C0 (d+1) 162 [v',r] g=.val (XE (tB x M)):=λg=>C6 (XR d) (i g.h) (hr.sl g.h) (by omega) (by omega);have f:¬(0<tB x M):=by have:=O1 (a:=x) (b:=M) (by omega);omega
  simp only[sz,simprocAttr,hc,f,n1,w1,r_];refine tj (m:=(EM x).length) (by omega) (λj t df g=>df=[]/\St t [(0,v')]/\Xs t 4=XE ((x / 10000 ^ j:Nat):Int)) ⟨rfl,by simp[St,sx],?_⟩ (by simp[sx]) (by decide) (by rintro j t df g v s (rfl|rfl|rfl|rfl|rfl)<;>simp[St,sx]) ?_ ?_
  ·rw[Zw (zA (by omega))];simp[sx]
  ·rintro j t df g l ⟨rfl,⟨h0,-⟩,h4⟩ h5;obtain⟨p,hp,-,-⟩:=af l;have ep:=yy j x (by omega);rw[hp,XP]at ep;have q:j<((EM x).map ci).length:=by simpa using l
   have q2:((EM x).map ci)[j]?=some (ci p):=by rw[XK,hp];rfl
   have hs:=AQ x j;have hl:=Zh x (10000 ^ j);generalize x / 10000 ^ (j+1)=F at *;generalize x / 10000 ^ j % 10000=a at *;subst ep;have w2:IntKind.wrap .i64 (10000*(F:Int))=((10000*F:Nat):Int):=by rw[an];omega
   have u:IntKind.wrap .i64 (((10000*F:Nat):Int)+(a:Int))=((x / 10000 ^ j:Nat):Int):=by rw[hs,an];omega
   simp only[sz,simprocAttr,h0,h4,h5,ra,q,q2,ci,w2,u];simp[St,sx,h0]
  ·rintro t df g ⟨rfl,⟨h0,-⟩,h4⟩;rw[abu,R5]at h4;simp only[sz,simprocAttr,se,h4];exact⟨λ_=>True,_,_,rfl,aK.2 rfl,gD.2 rfl⟩
 obtain⟨z,h1,a,b,rfl,h2,h3⟩:=key;have h2:=aK.1 h2;have h3:=gD.1 h3;injection h2 with h2;injection h3 with h3;rw[h1,h2,h3]
def Nw{x y:Nat}(hy:0<y):0<Nat.gcd x y/\Nat.gcd x y<=y/\x / Nat.gcd x y<=x/\y / Nat.gcd x y<=y :=⟨Nat.gcd_pos_of_pos_right x hy,Nat.le_of_dvd hy (Nat.gcd_dvd_right x y),Zh _ _,Zh _ _⟩
def QQ[Xr]{d:Nat}{g:G}{v w:AV}{x y:Nat}(hd:0<d)(hv:IT 0 (EM x) v)(hw:IT 0 (EM y) w)(hx:x<=4611686018427387903)(hy0:0<y)(hy:y<=4611686018427387903) :
  ah C0 d 116 [.bool false,v,w] g=.val (.WM [.agg [XE (tD x y).1,XE (tD x y).2],.bool true]):=by
 have key:∃r,ah C0 d 116 [.bool false,v,w] g=.val r/\CH (WG (tD x y)) (One true) Xt 0 .nil r:=by obtain⟨g0,g1,g2,g3⟩:=Nw (x:=x) hy0;rw[WL];refine aP EW (xs:=[.bool false,v,w]) (by simp only[aD,Oy 0,mc d (hv.sl g.h),mc d (hw.sl g.h)]) (by simp[tT]) (jb (m:=2) (di _) (aI _) (by decide) (by decide)) (by decide) hd ?_;simp only[sz,simprocAttr,tT,vY];refine aG (SW (XR d) hv hw (by omega) (by omega)) λr hr=>?_;simp only[sz,simprocAttr];refine aG (yU (XR d) (hv.sl _) (hr.sl _) (by omega) g0 (by omega)) ?_;rintro _ ⟨k,e,rfl,⟨_,h3,h4⟩,-⟩;injection h3 with h3;subst h3;simp only[sz,simprocAttr];refine aG (yU (XR d) (hw.sl _) (hr.sl _) (by omega) g0 (by omega)) ?_;rintro _ ⟨c,f,rfl,⟨_,h5,h6⟩,-⟩;injection h5 with h5;subst h5;have e1:∀g,ah C0 (d+1) 148 [k] g=.val (.WM [XE ((x / Nat.gcd x y:Nat):Int),.bool true]):=λg=>Gg (XR d) (h4.tree (h':=g.h) (XH _)) (by omega);have e2:∀g,ah C0 (d+1) 148 [c] g=.val (.WM [XE ((y / Nat.gcd x y:Nat):Int),.bool true]):=λg=>Gg (XR d) (h6.tree (h':=g.h) (XH _)) (by omega);simp only[sz,simprocAttr,e1,e2,uH];exact⟨λ_=>True,_,_,rfl,zb.2 rfl,gD.2 rfl⟩
 obtain⟨z,h1,a,b,rfl,h2,h3⟩:=key;have h3:=gD.1 h3;injection h3 with h3;rw[h1,zb.1 h2,h3]
theorem UC[Xr]{d:Nat}{g:G}{x y:Nat}(hd:0<d)(hx:x<=4611686018427387903)(hy0:0<y)(hy:y<=4611686018427387903) :
  ah C0 d 40 [XE (x:Int),XE (y:Int)] g=.val (.agg [XE (tD x y).1,XE (tD x y).2]):=by
 have mk:∀(d:Nat) (g:G),0<d->ah C0 d 85 [XE (x:Int),XE (y:Int)] g=.val (.WM [.agg [XE (tD x y).1,XE (tD x y).2],.bool true]):=λd g hd=>by
  have key:∃r,ah C0 d 85 [XE (x:Int),XE (y:Int)] g=.val r/\CH (WG (tD x y)) (One true) Xt 0 .nil r:=by
   rw[WL];refine aP EV (xs:=[XE (x:Int),XE (y:Int)]) (by simp only[aD,cP 0]) (by simp[tS]) (jb (m:=2) (di _) (aI _) (by decide) (by decide)) (by decide) hd ?_;have h:¬((x:Int)<0):=by omega
   have q2:¬((y:Int)<0):=by omega
   have qe:Ii true Uu.bool (AV.bool false) (AV.bool false)=.val (.bool false):=rfl;simp only[sz,simprocAttr,tS,vR,h,q2,qe];refine aG (AR (XR d) (by omega)) λr hr=>?_;simp only[sz,simprocAttr];refine aG (AR (XR d) (by omega)) λr2 hr2=>?_;have e1:∀g,ah C0 (d+1) 116 [.bool false,r,r2] g=.val (.WM [.agg [XE (tD x y).1,XE (tD x y).2],.bool true]):=λg=>QQ (XR d) hr hr2 hx hy0 hy;simp only[sz,simprocAttr,e1];exact⟨λ_=>True,_,_,rfl,zb.2 rfl,gD.2 rfl⟩
  obtain⟨z,h1,a,b,rfl,h2,h3⟩:=key;have h3:=gD.1 h3;injection h3 with h3;rw[h1,zb.1 h2,h3]
 have key:∃r,ah C0 d 40 [XE (x:Int),XE (y:Int)] g=.val r/\WG (tD x y) Xt 0 .nil r:=by rw[WL];refine aP Ie (xs:=[XE (x:Int),XE (y:Int)]) (by simp only[aD,cP 0]) (by simp[yF]) (di _) (by decide) hd ?_;have e1:=λg=>mk (d+1) g (XR d);simp only[sz,simprocAttr,yF,zH,e1];exact⟨λ_=>True,zb.2 rfl⟩
 obtain⟨z,h1,h2⟩:=key;rw[h1,zb.1 h2]
abbrev P3:Nat->Prop:=λi=>3<=i
structure HS (m:WJ) (c1 c2 la lb lc:AV) (p q:Nat) (gb g:G):Prop where
 fr:Fr gb g
 mp:g.h.get p=Xy 3 [[XE m.Xz,c1,c2]]
 ml:g.h.get q=Xy 3 [[la,lb,lc]]
 pn:p<gb.nx
 q0:gb.nx<=q
 qn:q<g.nx
section
variable {m:WJ}{c1 c2 la lb lc w c28 vi c90 vj:AV}{A B Z:List Int}{p q:Nat}
end
end
end Hx
end
end
namespace Hx
open Go
noncomputable section
variable {n:Xb}{k d:Nat}{P:Nat->Prop}{g:G}{v:AV}{l XB:List Int}
section
variable {p:List Nat}
def FN:MT p 0:=⟨λv _ hb=>by simp at hb,λv _ hb=>by simp at hb⟩
def Iq{q:Nat}(ih:MT p q){j:Nat}(hj:j<64)(hd:UX (OH p j) q):MT p (q ||| w8 j):=by
 refine⟨λv hv hb=>?_,λv hv hb=>?_⟩
 ·intro u hu;rw[wR,CO hj,YE,X9]at hb;rw[wR,YE];rcases hb with hb|hb
  ·exact .inl (ih.1 v hv hb u hu)
  ·subst hb;exact .inl (hd u hu)
 ·rw[wR,CO hj,YE,X9]at hb;cases hq:q.testBit v
  ·rw[hq]at hb;simp at hb;subst hb;rw[<-Za];intro hu;have:=K5 ih.1 hd p.length j hu;rw[hq]at this;cases this
  ·exact ih.2 v hv hq
def za{q:Nat}(h:MT p q)(hf:∀v,v<p.length->q.testBit v=true):vH p=true :=CI.2 λv hv=>h.2 v hv (hf v hv)
def Gu(hp:∀x∈p,x<2 ^ p.length)(h:vH p=true){T:Nat}(hst:∀v,v<p.length->T.testBit v=false->¬UX (OH p v) T):∀v,v<p.length->T.testBit v=true:=by
 rw[CI]at h;have none:∀r v,v<p.length->T.testBit v=false->AG p (OH p v) p.length=r->False:=by
  intro r
  induction r using Nat.strongRecOn with
  | _ r ih =>
   intro v hv hb hr;have d:=hst v hv hb;have:∃u,(OH p v).testBit u=true/\T.testBit u=false:=by
    apply Ze;intro c;apply d;intro u hu;cases hc:T.testBit u
    ·exact absurd ⟨u,hu,hc⟩ c
    ·rfl
   obtain⟨u,hu,f⟩:=this;have k:u<p.length:=Rh (Kv hp) hu;have hcl:=Oi hp (s:=OH p v) (Kv hp);have a:(AG p (OH p v) p.length).testBit u=true:=Hz _ u hu;have b:UX (AG p (OH p u) p.length) (AG p (OH p v) p.length):=K5 hcl (hcl u k a) _;have hlt:AG p (OH p u) p.length<AG p (OH p v) p.length:=by refine Nat.lt_of_le_of_ne (UP b) λe=>?_;have:=h u k;rw[e,a]at this;cases this
   exact ih _ (by omega) u k f rfl
 intro v hv;cases hc:T.testBit v
 ·exact (none _ v hv hc rfl).elim
 ·rfl
end
def z_:∀a b:List Int,EO (a++b)=EO a*EO b
 |[],b=>by simp[EO]
 |x::a,b=>by rw[XY,dM,dM,z_ a b,ZB]
def Cn:∀{a va:List Int} (b vb:List Int),a.length=va.length->EL (a++b) (va++vb)=EL a va*EO b+EL b vb
 |[],[],b,vb,_=>by simp[EL]
 |[],_::_,_,_,h=>by simp at h
 |_::_,[],_,_,h=>by simp at h
 | c::a,v::va,b,vb,h=>by rw[XY,XY,EL,EL,Cn b vb (by simpa using h),z_,Zz,ZB];omega
def Jh:∀{cs vs:List Int} (a:Int),(∀c∈cs,1<=c)->Wr cs vs->tF cs (a*EO cs+EL cs vs)=a
 |[],[],a,_,_=>by simp[tF,EO,EL]
 |[],_::_,_,_,h=>by cases h
 |_::_,[],_,_,h=>by cases h
 | c::cs,v::vs,a,hc,h=>by
  let⟨⟨h1,h2⟩,h3⟩:=h;have ih:=Jh (a*c+v) (λx hx=>hc x (by simp[hx])) h3;have e:a*EO (c::cs)+EL (c::cs) (v::vs)=(a*c+v)*EO cs+EL cs vs:=by rw[dM,EL,Zz,ZB];omega
  rw[e];show tF cs _ / c=a;rw[ih,abP,Int.add_mul_ediv_right _ _ (by omega),Int.ediv_eq_zero_of_lt h1 h2];omega
def FF:∀{cs vs:List Int} (a:Int) (i:Nat),(∀c∈cs,1<=c)->Wr cs vs->i<cs.length->vG cs (a*EO cs+EL cs vs) i=vs[i]?.getD 0
 |[],_,_,_,_,_,hi=>by simp at hi
 |_::_,[],_,_,_,h,_=>by cases h
 | c::cs,v::vs,a,i,hc,h,hi=>by
  let⟨⟨h1,h2⟩,h3⟩:=h;have k:∀x∈cs,1<=x:=λx hx=>hc x (by simp[hx]);have e:a*EO (c::cs)+EL (c::cs) (v::vs)=(a*c+v)*EO cs+EL cs vs:=by rw[dM,EL,Zz,ZB];omega
  rw[e];cases i with
  | zero =>show tF cs _ % c=v;rw[Jh _ k h3,abP,Int.add_mul_emod_self_right,aaQ h1 h2]
  | succ i =>have:=FF (a*c+v) i k h3 (by simpa using hi);simpa [vG] using this
def cx{cs vs:List Int}(hc:∀c∈cs,1<=c)(h:Wr cs vs):EN cs (EL cs vs)=vs:=by
 have hl:=h.len;refine aaX (by simp[EN,hl]) λi h1 h2=>?_;have hi:i<cs.length:=by simpa [EN] using h1
 have:=FF 0 i hc h hi;rw[abr,Int.zero_add,XJ h2,XP]at this;simp[EN,this]
def bm{cs:List Int}(hc:∀c∈cs,1<=c)(h:Int):Wr cs (EN cs h):=by refine GT (by simp[EN]) λi c v h1 h2=>?_;have hi:=(XI.1 h1).1;rw[EN,XK,ZO hi,YR,Y9]at h2;have k:=hc c (XL h1);rw[<-h2,vG,h1,XP];exact⟨aa5 _ (by omega),aaF _ (by omega)⟩
def bO(cs:List Int)(h:Int):(EN cs h).length=cs.length:=by simp[EN]
theorem F6:∀{cs:List Int},(∀c∈cs,1<=c)->1<=EO cs
 |[],_=>by decide
 | c::cs,h=>by rw[dM];have h1:=h c (by simp);have h2:=F6 (cs:=cs) λx hx=>h x (by simp[hx]);exact abQ h1 (by have:=aa2 h2 (show 0<=c by omega);omega)
def mA:∀(cs:List Int) (n:Nat),EL cs (List.replicate n 0)=0
 |[],n=>by cases n<;>rfl
 |_::_,0=>rfl
 |c::cs,n+1=>by rw[Y4,EL,mA cs n];simp
def Co:∀{cs vs:List Int},cs.length=vs.length->(∀(i:Nat) (c:Int),cs[i]?=some c->vs[i]?.getD 0=c - 1)->EL cs vs=EO cs - 1
 |[],[],_,_=>by decide
 |[],_::_,h,_=>by simp at h
 |_::_,[],h,_=>by simp at h
 | c::cs,v::vs,hl,h=>by
  have h0:=h 0 c rfl;have ih:=Co (by simpa using hl) λi x hx=>by have:=h (i+1) x (by simpa using hx);simpa using this
  simp at h0;rw[EL,ih,dM,h0,Int.sub_mul];omega
def It{cs vs:List Int}(hl:cs.length=vs.length){i:Nat}{x:Int}(hi:vs[i]?=some x)(hm:∀(j:Nat) (c:Int),i<j->cs[j]?=some c->vs[j]?.getD 0=c - 1) :
  EL cs (vs.take i++(x+1)::List.replicate (vs.length - (i+1)) 0)=EL cs vs+1:=by
 have h:=(XI.1 hi).1;obtain⟨c,hc⟩:∃c,cs[i]?=some c:=⟨_,XJ (by omega)⟩;have e1:cs=cs.take i++c::cs.drop (i+1):=by have:=YY (l:=cs) (i:=i) (by omega);rw[NP,Y9]at hc;rw[<-hc,<-this,YC]
 have e2:vs=vs.take i++x::vs.drop (i+1):=by have:=YY h;rw[XJ h,Y9]at hi;rw[<-hi,<-this,YC]
 have hlt:(cs.take i).length=(vs.take i).length:=by simp[hl]
 have k:EL (cs.drop (i+1)) (vs.drop (i+1))=EO (cs.drop (i+1)) - 1:=by refine Co (by simp[hl]) λj d hj=>?_;rw[YH]at hj ⊢;exact hm _ d (by omega) hj
 have h1:EL cs vs=EL (cs.take i) (vs.take i)*EO (c::cs.drop (i+1))+(x*EO (cs.drop (i+1))+EL (cs.drop (i+1)) (vs.drop (i+1))):=by conv=>lhs;rw[e1,e2,Cn _ _ hlt,EL]
 have h2:EL cs (vs.take i++(x+1)::List.replicate (vs.length - (i+1)) 0)=EL (cs.take i) (vs.take i)*EO (c::cs.drop (i+1))+((x+1)*EO (cs.drop (i+1))+0):=by conv=>lhs;rw[e1,Cn _ _ hlt,EL,mA]
 rw[h2,h1,k,Zz];omega
def IO(n:Xb):List Int:=n.XD.map (·.Xx)
def EP(cs ps:List Int):List Int:=ps.map λp=>cs[p.toNat]?.getD 0
def BQ(n:Xb):List Nat:=n.XD.map λx=>BL x.XA
def AD(gr Xx:Int)(r:List Int):Bool:=decide ((r.length:Int)=Xx)&&r.all (λx=>decide (0<=x)&&decide (x<=gr))&&decide (r.sum=gr)
def tE(k:Int)(x:Node):Bool:=decide (1<=x.Xx)&&decide (x.Xx<=4)&&CY x.XA k
def nS(n:Xb)(x:Node):Bool:=decide ((x.rows.length:Int)=EO (EP (IO n) x.XA))&&x.rows.all (AD n.Xz x.Xx)
def zo(n:Xb):Bool:=decide (1<=n.Xz)&&decide (n.Xz<=60)&&decide (1<=n.XD.length)&&decide (n.XD.length<=8)&&n.XD.all (tE n.XD.length)&&decide (EO (IO n)<=1024)&&vH (BQ n)&&n.XD.all (nS n)
structure NR (n:Xb):Prop where
 g1:1<=n.Xz
 g2:n.Xz<=60
 l1:1<=n.XD.length
 l2:n.XD.length<=8
 Xx:∀x∈n.XD,1<=x.Xx/\x.Xx<=4
 places:∀x∈n.XD,CY x.XA n.XD.length=true
 worlds:EO (IO n)<=1024
 UK:vH (BQ n)=true
 rows:∀x∈n.XD,(x.rows.length:Int)=EO (EP (IO n) x.XA)
 row:∀x∈n.XD,∀r∈x.rows,(r.length:Int)=x.Xx/\(∀y∈r,0<=y/\y<=n.Xz)/\r.sum=n.Xz
def lT:zo n=true↔NR n:=by
 simp only[zo,tE,nS,AD,XM,X9,XQ];constructor
 ·rintro⟨⟨⟨⟨⟨⟨⟨a,b⟩,c⟩,d⟩,e⟩,f⟩,g⟩,h⟩;exact⟨a,b,c,d,λx hx=>(e x hx).1,λx hx=>(e x hx).2,f,g,λx hx=>(h x hx).1,λx hx r hr=>⟨((h x hx).2 r hr).1.1,((h x hx).2 r hr).1.2,((h x hx).2 r hr).2⟩⟩
 ·rintro⟨a,b,c,d,e1,e2,f,g,h1,h2⟩;exact⟨⟨⟨⟨⟨⟨⟨a,b⟩,c⟩,d⟩,λx hx=>⟨e1 x hx,e2 x hx⟩⟩,f⟩,g⟩,λx hx=>⟨h1 x hx,λr hr=>⟨⟨(h2 x hx r hr).1,(h2 x hx r hr).2.1⟩,(h2 x hx r hr).2.2⟩⟩⟩
def aO{k:Int}(h:CY l k=true):∀x∈l,0<=x/\x<k:=by
 intro x hx;let⟨i,hi,he⟩:=Y7.1 hx;have:=XQ.1 h i (X0.2 hi);have e:l[i]?.getD 0=x:=by rw[XJ hi,he];rfl
 simp only[zj,XM,X9,e]at this;omega
def Ef{k:Int}(h:CY l k=true){i:Nat}{x y:Int}(hx:l[i]?=some x)(hy:l[i+1]?=some y):x<y:=by have hi:=(XI.1 hy).1;have:=XQ.1 h (i+1) (X0.2 hi);simp only[zj,XM,X9,hy,XP,Zu,hx]at this;simp at this;omega
theorem bc{k:Int}(h:CY l k=true)(hk:0<=k):(l.length:Int)<=k:=by
 have key:∀(i:Nat) (x:Int),l[i]?=some x->(i:Int)<=x:=by
  intro i
  induction i with
  |zero=>intro x hx;have:=aO h x (XL hx);omega
  | succ i ih =>intro x hx;have hi:=(XI.1 hx).1;have h1:=ih l[i] (XJ (by omega));have:=Ef h (XJ (show i<l.length by omega)) hx;omega
 by_cases hl:l.length=0
 ·omega
 ·have h1:=key (l.length - 1) l[l.length - 1] (XJ (by omega));have h2:=aO h _ (Zi (show l.length - 1<l.length by omega));omega
def NR.cs(h:NR n):∀c∈IO n,1<=c/\c<=4:=λc hc=>by obtain⟨x,hx,rfl⟩:=Ys.1 hc;exact h.Xx x hx
def ap(n:Xb):(IO n).length=n.XD.length:=by simp[IO]
def aZ{cs ps:List Int}(hc:∀c∈cs,1<=c/\c<=4)(hp:∀p∈ps,0<=p/\p<cs.length):∀c∈EP cs ps,1<=c/\c<=4:=λc h=>by obtain⟨p,h1,rfl⟩:=Ys.1 h;have h2:=hp p h1;rw[NP,XP];exact hc _ (Zi _)
def dB{cs ps:List Int}(h:Wr cs XB)(hp:∀p∈ps,0<=p/\p<cs.length):Wr (EP cs ps) (EP XB ps):=by refine GT (by simp[EP]) λi c v h1 h2=>?_;simp only[EP,XK,Option.map_eq_some_iff]at h1 h2;obtain⟨p,h3,rfl⟩:=h1;obtain⟨p',h4,rfl⟩:=h2;rw[h3]at h4;cases h4;have h5:=hp p (XL h3);have h6:cs[p.toNat]?=some cs[p.toNat]:=XJ (by omega);let⟨v,h7,h8⟩:=h.get h6;rw[h6,h7,XP,XP];exact h8
def Kw(cs a b:List Int):EP cs (a++b)=EP cs a++EP cs b:=by simp[EP]
def zi(n:Xb)(XB:List Int)(v:Nat):Int:=match n.XD[v]? with
 |none=>1
 |some x=>(x.rows[(EL (EP (IO n) x.XA) (EP XB x.XA)).toNat]?.getD [])[(XB[v]?.getD 0).toNat]?.getD 0
def i8(n:Xb)(XB:List Int):Int:=EO ((List.range n.XD.length).map (zi n XB))
def NR.pin(h:NR n){x:Node}(hx:x∈n.XD):∀p∈x.XA,0<=p/\p<(IO n).length:=λp hp=>by rw[ap];exact aO (h.places x hx) p hp
def Ds(h:NR n)(hv:Wr (IO n) XB){v:Nat}{x:Node}(hx:n.XD[v]?=some x) :
  ∃(i:Nat) (r:List Int) (c y:Int),EL (EP (IO n) x.XA) (EP XB x.XA)=(i:Int)/\i<x.rows.length/\x.rows[i]?=some r/\XB[v]?=some c/\0<=c/\c<x.Xx/\r[c.toNat]?=some y/\zi n XB v=y/\0<=y/\y<=n.Xz:=by
 have hm:=XL hx;have hi:=bz (aZ h.cs (h.pin hm)) (dB hv (h.pin hm));rw[<-h.rows x hm]at hi;let⟨i,he⟩:=XU hi.1;have k:i<x.rows.length:=by omega
 have hc:(IO n)[v]?=some x.Xx:=by simp[IO,hx]
 let⟨c,h1,h2,h3⟩:=hv.get hc;obtain⟨b,a,-⟩:=h.row x hm x.rows[i] (Zi k);have hcl:c.toNat<(x.rows[i]).length:=by omega
 refine⟨i,x.rows[i],c,(x.rows[i])[c.toNat],he,k,XJ k,h1,h2,h3,XJ hcl,?_,a _ (Zi hcl)⟩;simp only[zi,hx,he,h1,ZX,XJ k,XP,XJ hcl]
theorem Aa:∀{l:List Int},(∀x∈l,0<=x/\x<=60)->0<=EO l/\EO l<=60 ^ l.length
 |[],_=>by decide
 | x::l,h=>by have h1:=Aa (l:=l) λy hy=>h y (by simp[hy]);have h2:=h x (by simp);rw[dM,Yp,Vv,Z5 x];refine⟨Zg h1.1 h2.1,abQ (aa2 h2.2 h1.1) (YI h1.2 (by decide))⟩
def Vm(h:k<=8):(60:Int) ^ k<=167961600000000:=by
 have hk:k=0\/k=1\/k=2\/k=3\/k=4\/k=5\/k=6\/k=7\/k=8:=by omega
 rcases hk with rfl|rfl|rfl|rfl|rfl|rfl|rfl|rfl|rfl<;>decide
def Np(h:NR n)(hv:Wr (IO n) XB){v:Nat}(hi:v<n.XD.length):0<=zi n XB v/\zi n XB v<=60:=by obtain⟨i,r,c,y,-,-,-,-,-,-,-,e,a,b⟩:=Ds h hv (XJ hi);have:=h.g2;omega
def rB(h:NR n)(hv:Wr (IO n) XB){j:Nat}(hj:j<=n.XD.length):0<=EO ((List.range j).map (zi n XB))/\EO ((List.range j).map (zi n XB))<=167961600000000:=by
 have h1:=Aa (l:=(List.range j).map (zi n XB)) λx hx=>by obtain⟨i,hi,rfl⟩:=Ys.1 hx;exact Np h hv (by have:=X0.1 hi;omega)
 have h2:=Vm (k:=((List.range j).map (zi n XB)).length) (by have:=h.l2;simp;omega);omega
def y8(n:Xb)(XB:List Int)(j:Nat):EO ((List.range (j+1)).map (zi n XB))=EO ((List.range j).map (zi n XB))*zi n XB j:=by rw[YF,YV,List.map_singleton,xC]
def CW(n:Xb)(p:Nat->Bool):Nat->Int
 |0=>0
 |j+1=>CW n p j+if p j then i8 n (EN (IO n) (j:Int)) else 0
def rf(h:NR n)(hv:Wr (IO n) XB):0<=i8 n XB/\i8 n XB<=167961600000000:=rB h hv (XH _)
def ut{n:Xb}(h:NR n)(p:Nat->Bool):∀j:Nat,0<=CW n p j/\CW n p j<=167961600000000*j
 |0=>by simp[CW]
 | j+1=>by
  have ih:=ut h p j;have hw:=rf h (bm (λc hc=>(h.cs c hc).1) (j:Int));rw[CW]
  split<;>omega
def EE{n:Xb}{p q:Nat->Bool}:∀{j:Nat},(∀i,i<j->p i=q i)->CW n p j=CW n q j
 |0,_=>rfl
 |j+1,h=>by rw[CW,CW,EE λi hi=>h i (by omega),h j (by omega)]
def C2(n:Xb):Nat:=(EO (IO n)).toNat
def rK(n:Xb)(e:List Int):Int:=CW n (λw=>yn (EN (IO n) (w:Int)) e) (C2 n)
def NR.wl(h:NR n):1<=C2 n/\C2 n<=1024/\((C2 n:Nat):Int)=EO (IO n):=by have h1:=F6 λc hc=>(h.cs c hc).1;have h2:=h.worlds;unfold C2;omega
def IU(h:NR n)(e:List Int):0<=rK n e/\rK n e<=171992678400000000:=by have h1:=ut h (λw=>yn (EN (IO n) (w:Int)) e) (C2 n);have h2:=h.wl;unfold rK;omega
def zq(n:Xb)(e:List Int):Bool:=decide (e.length=n.XD.length)&&(List.range e.length).all λv=>decide (-1<=e[v]?.getD 0)&&decide (e[v]?.getD 0<(IO n)[v]?.getD 0)
def xM(n:Xb)(e:List Int):Int:=if zo n then (if zq n e then 0 else 2) else 50
section
variable {b Xx:Nat}
def U9(b Xx p:Nat):Nat:=p / (b*Xx)*b+p % b
def Vd(b Xx p:Nat):Nat:=p / b % Xx
def bb3(rows:List (List Int))(b Xx t:Nat):List Int:=(List.range (rows.length*Xx)).map λp=>if U9 b Xx p*Xx+Vd b Xx p<t then (rows[U9 b Xx p]?.getD [])[Vd b Xx p]?.getD 0 else 0
def bb4(rows:List (List Int))(b Xx:Nat):List Int:=(List.range (rows.length*Xx)).map λp=>(rows[U9 b Xx p]?.getD [])[Vd b Xx p]?.getD 0
end
def ba6(ps:List Int)(k:Nat)(v:Int):List Int:=ps.take k++v::ps.drop k
section
variable {h:H}
abbrev Gt:Type:=UInt8×UInt8×List UInt8
abbrev yg:Type:=UInt8×List Gt×List UInt8
abbrev gF:Type:=UInt8×UInt8×UInt8×Int
def Gb{x:Gt}{cs:List AV}:Rp.rp P k h x cs↔∃a,cs=[Xc x.1,Xc x.2.1,a]/\Xu P k h x.2.2 a:=by
 constructor
 ·rintro⟨c1,b,rfl,h1,c,d,rfl,h2,⟨a,rfl,h4⟩⟩;rw[ea.1 h1,ea.1 h2];exact⟨a,rfl,h4⟩
 ·rintro⟨a,rfl,h4⟩;exact⟨[_],[_,a],rfl,ea.2 rfl,[_],[a],rfl,ea.2 rfl,⟨a,rfl,h4⟩⟩
def Bb{x:yg}{cs:List AV}:Rp.rp P k h x cs↔∃a b,cs=[Xc x.1,a,b]/\Xu P k h x.2.1 a/\Xu P k h x.2.2 b:=by
 constructor
 ·rintro⟨c1,c,rfl,h1,d,e,rfl,⟨a,rfl,ha⟩,⟨b,rfl,hb⟩⟩;rw[ea.1 h1];exact⟨a,b,rfl,ha,hb⟩
 ·rintro⟨a,b,rfl,ha,hb⟩;exact⟨[_],[a,b],rfl,ea.2 rfl,[a],[b],rfl,⟨a,rfl,ha⟩,⟨b,rfl,hb⟩⟩
def mG{x:gF}{cs:List AV}:Rp.rp P k h x cs↔cs=[Xc x.1,Xc x.2.1,Xc x.2.2.1,XE x.2.2.2]:=by
 constructor
 ·rintro⟨c1,a,rfl,h1,b,c,rfl,h2,d,e,rfl,h3,h4⟩;rw[ea.1 h1,ea.1 h2,ea.1 h3,aK.1 h4];rfl
 ·rintro rfl;exact⟨[_],[_,_,_],rfl,ea.2 rfl,[_],[_,_],rfl,ea.2 rfl,[_],[_],rfl,ea.2 rfl,aK.2 rfl⟩
end
def Hg[Xr]{k2:Nat}{P2:Nat->Prop}{w:AV}{p:List Int}(hd:0<d)(hv:Xu P k g.h l v)(hw:Xu P2 k2 g.h p w)(hp:p.length<1073741824)(hin:∀x∈p,0<=x/\x<l.length) :
  ∃r,ah C0 d 68 [v,w] g=.val r/\IT 0 (EP l p) r:=by
 obtain⟨v',e1,o⟩:=aB hv d;obtain⟨w',e2,f⟩:=aB hw d;rw[WL];refine aP If (xs:=[v',w']) (by simp only[aD,e1,e2]) (by simp[yG]) (aI _) (by decide) hd ?_;simp only[sz,simprocAttr,yG];have n2:=λg=>(f .nil).len g;have ra:∀h',ak h' 1 v'=some (l.map ci):=λh'=>(o h').ints;have rb:∀h',ak h' 1 w'=some (p.map ci):=λh'=>(f h').ints;refine qB (v:=w') (m:=p.length) (by omega) n2 (λj t df g=>df=[]/\St t [(0,v')]/\∃u,Xs t 5=u/\Own g 0 u 1 ((EP l (p.take j)).map ci)) ⟨rfl,by simp[St,sx],_,rfl,.inl ⟨by simp[sx],by simp[EP]⟩⟩ (by simp[sx]) (by simp[sx]) (by decide)
  (by rintro j t df g v s (rfl|rfl|rfl|rfl|rfl|rfl|rfl)<;>simp[sx,St]) ?_ ?_
 ·rintro j t df g1 e ⟨rfl,⟨h0,-⟩,u,h5,hu⟩ h6 h1;obtain⟨x,hx,b,hm⟩:=af e;obtain⟨c,i⟩:=hin x hm;obtain⟨n,rfl⟩:=XU c;have a:n<l.length:=by omega
  simp only[sz,simprocAttr,ra,rb,h0,h1,h5,h6,hx,e,a,XN,XK,YR,ci,XJ a];refine aM (new:=[ci l[n]]) (hu.step (Fr.new _ _)) (by simp[sx,sy,ci]) (by simp) (by simp[aH,EP];omega) λv2 g2 hv2 n2 f2 _ l2=>?_;simp only[sz,simprocAttr,h0,h1,h6,St];refine⟨_,rfl,?_⟩;rw[b];simpa [a,ci,EP] using hv2
 ·rintro t df g1 ⟨rfl,⟨h0,-⟩,u,h5,hu⟩ -;rw[XV]at hu;simp only[sz,simprocAttr,xV,h5];exact⟨_,hu.ints (by simp[EP];omega)⟩
def xD[Xr](hd:0<d)(hm:WG n P k g.h v)(hn:n.XD.length<1073741824) :
  ∃r,ah C0 d 92 [v] g=.val r/\IT 0 (IO n) r:=by
 obtain⟨v',e,cs,rfl,hc⟩:=mK (di n) (by decide) d hm;obtain⟨b,rfl,hN⟩:=dh.1 hc;obtain⟨rows,i,w,p,q⟩:=hN.all;have i:∀h',ak h' 3 b=some rows:=i;rw[WL];refine aP Di (xs:=[.agg [XE n.Xz,b]]) (by simp only[aD,e]) (by simp[qS]) (aI _) (by decide) hd ?_;simp only[sz,simprocAttr,qS,uK,si];refine aU n.XD.length (by omega) (λj t df g=>df=[]/\Xs t 1=Xq 0/\g.h.get 0=Xy 2 [[XE n.Xz,b]]/\1<=g.nx/\∃u,Xs t 3=u/\Own g 1 u 1 (((n.XD.take j).map (·.Xx)).map ci))
  ⟨rfl,by simp[sx],by simp[sx],by simp[sx],_,rfl,.inl ⟨by simp[sx],rfl⟩⟩ (by simp[sx]) (by decide)
  (by rintro j t df g v s (rfl|rfl|rfl)<;>simp[sx]) ?_ ?_ ?_
 ·rintro j t df g l ⟨rfl,h1,hg,a,u,h3,hu⟩ h4;simp only[sz,simprocAttr,h1,h4,hg,hN.len];exact⟨a,u,h3,hu⟩
 ·rintro j t df g l ⟨rfl,h1,hg,a,u,h3,hu⟩ h4;obtain⟨x,hx,f,hm⟩:=af l;obtain⟨row,o,q2⟩:=p j x hx;obtain⟨a',b',rfl,m,-⟩:=cE.1 q2;have hlt:j<rows.length:=by omega
  have c:=q (by omega);simp only[sz,simprocAttr,h1,h3,h4,hg,i,hlt,o,c];refine aM (new:=[ci x.Xx]) (hu.step (Fr.new _ _)) (by simp[sx,sy,ci]) (by simp) (by simp[aH];omega) λv2 g2 hv2 n2 f2 _ l2=>?_;simp only[sz,simprocAttr,h1,h4];refine⟨?_,?_,_,rfl,?_⟩
  ·rw[f2 0 (by simp) (λe=>by have:=(hu.lt e).1;omega),G.new_h,aq,hg]
  ·simp at n2;omega
  ·rw[f];simpa [ci] using hv2
 ·rintro t df g ⟨rfl,h1,hg,a,u,h3,hu⟩;rw[XV]at hu;simp only[sz,simprocAttr,sj,h3];exact⟨_,hu.ints (by simp;omega)⟩
def QA[Xr](hd:0<d)(hm:WG n P k g.h v)(hn:n.XD.length<1073741824)(hp:∀x∈n.XD,∀y∈x.XA,0<=y/\y<2^64) :
  ∃r,ah C0 d 134 [v] g=.val r/\UT 0 (BQ n) r:=by
 obtain⟨v',e,cs,rfl,hc⟩:=mK (di n) (by decide) d hm;obtain⟨b,rfl,hN⟩:=dh.1 hc;obtain⟨rows,o,E,C,D⟩:=hN.all;have o:∀h',ak h' 3 b=some rows:=o;rw[WL];refine aP xN (xs:=[.agg [XE n.Xz,b]]) (by simp only[aD,e]) (by simp[jl]) (aI _) (by decide) hd ?_;simp only[sz,simprocAttr,jl,mu];refine aU n.XD.length (by omega) (λj t df g=>df=[]/\Xs t 1=Xq 0/\g.h.get 0=Xy 2 [[XE n.Xz,b]]/\1<=g.nx/\∃u,Xs t 3=u/\Own g 1 u 1 (((n.XD.take j).map λx=>BL x.XA).map cu))
  ⟨rfl,by simp[sx],by simp[sx],by simp[sx],_,rfl,.inl ⟨by simp[sx],rfl⟩⟩ (by simp[sx]) (by decide)
  (by rintro j t df g v s (rfl|rfl|rfl)<;>simp[sx]) ?_ ?_ ?_
 ·rintro j t df g z ⟨rfl,h1,hg,c,u,h3,hu⟩ h4;simp only[sz,simprocAttr,h1,h4,hg,hN.len];exact⟨c,u,h3,hu⟩
 ·rintro j t df g z ⟨rfl,h1,hg,c,u,h3,hu⟩ h4;obtain⟨x,hx,q,hm⟩:=af z;obtain⟨row,A,q2⟩:=C j x hx;obtain⟨a',b',rfl,a,-⟩:=cE.1 q2;have hlt:j<rows.length:=by omega
  have f:=D (by omega);simp only[sz,simprocAttr];refine aU x.XA.length a.1 (λi t df g'=>df=[]/\St t [(1,Xq 0),(4,XE j),(3,u),(5,R7 (BL (x.XA.take i):Int))]/\g'=g)
   ⟨rfl,by simp[sx,St,BL,h1,h3,h4],rfl⟩ (by simp[sx]) (by decide)
   (by rintro j t df g v s (rfl|rfl|rfl)<;>simp[sx,St]) ?_ ?_ ?_
  ·rintro i t df g' hi ⟨rfl,⟨h1,h4,h3,h5,-⟩,rfl⟩ h6;simp only[sz,simprocAttr,h1,h3,h4,h5,h6,hg,o,hlt,A,f,a.len,St]
  ·rintro i t df g' hi ⟨rfl,⟨h1,h4,h3,h5,-⟩,rfl⟩ h6;obtain⟨y,B,l,p⟩:=af hi;obtain⟨m,w⟩:=hp x hm y p;obtain⟨n,rfl⟩:=XU m;simp only[sz,simprocAttr,h1,h3,h4,h5,h6,hg,o,hlt,A,f,(a.tree (h':=g'.h) (XH _)).ints,hi,B,XN,XK,YR,ci,xJ m w,vE,Gx _ _ (xy _) (Ax _),St];rw[l,FY];rfl
  ·rintro t df g' ⟨rfl,⟨h1,h4,h3,h5,-⟩,rfl⟩;rw[XV]at h5;simp only[sz,simprocAttr,lf,h3,h5];refine aM (new:=[cu (BL x.XA)]) (hu.step (Fr.new _ _)) (by simp[sx,sy,cu]) (by simp) (by simp[aH];omega) λv2 g2 hv2 n2 f2 _ l2=>?_;simp only[sz,simprocAttr,h1,h4];refine⟨?_,?_,_,rfl,?_⟩
   ·rw[f2 0 (by simp) (λe=>by have:=(hu.lt e).1;omega),G.new_h,aq,hg]
   ·simp at n2;omega
   ·rw[q];simpa [cu] using hv2
 ·rintro t df g ⟨rfl,h1,hg,c,u,h3,hu⟩;rw[XV]at hu;simp only[sz,simprocAttr,li,h3];exact⟨_,hu.nats (by simp;omega) (by simp only[Ys];rintro x ⟨y,-,rfl⟩;exact xy _)⟩
def A9[Xr]{i:Nat}{x:Node}(hd:0<d)(hm:WG n P k g.h v)(hn:n.XD.length<1073741824)(hx:n.XD[i]?=some x)(hl:x.XA.length<1073741824)(hin:∀p∈x.XA,0<=p/\p<n.XD.length) :
  ∃r,ah C0 d 49 [v,XE (i:Int)] g=.val r/\IT 0 (EP (IO n) x.XA) r:=by
 obtain⟨v',e,cs,rfl,hc⟩:=mK (di n) (by decide) d hm;have f:=hc;obtain⟨b,rfl,hN⟩:=dh.1 hc;have j:∀h,WG n Xt (max k d) h (.agg [XE n.Xz,b]):=λh=>⟨_,rfl,Rp.tree f (XH _)⟩;obtain⟨rows,o,y,t,u⟩:=hN.all;have o:∀h',ak h' 3 b=some rows:=o;obtain⟨row,s,q2⟩:=t i x hx;obtain⟨a',b',rfl,a,-⟩:=cE.1 q2;have q:=(XI.1 hx).1;have hlt:i<rows.length:=by omega
 have m:=u (by omega);rw[WL];refine aP vO (xs:=[.agg [XE n.Xz,b],XE (i:Int)]) (by simp only[aD,e,cP 0]) (by simp[ie]) (aI _) (by decide) hd ?_;simp only[sz,simprocAttr,ie,k_];refine aG (xD (XR d) (j _) hn) λrc hrc=>?_;have c:=λg=>Hg (d:=d+1) (g:=g) (P:=Xt) (P2:=Xt) (k:=0) (k2:=max k d) (l:=IO n) (p:=x.XA) (XR d) (hrc.sl g.h) (a.tree (h':=g.h) (XH _)) hl (λp hp=>by rw[ap];exact hin p hp);simp only[sz,simprocAttr,o,hlt,s,m];refine aG (c _) λr hr=>?_;simp only[sz,simprocAttr];obtain⟨w,hw,hs⟩:=hr;exact⟨_,w,hw,hs.tree (XH _)⟩
def Af[Xr](hd:0<d)(hv:Xu P k g.h l v):ah C0 d 48 [v] g=.val (XE (vI l)):=by have b:=LL hv.ints;have:=Ta hd (Nz hv.ints) (by rw[b];exact hv.1);rwa [b]at this
def yX[Xr](hd:0<d)(hm:WG n P k g.h v)(hr:NR n):ah C0 d 63 [v] g=.val (XE (C2 n:Int)):=by have hl2:=hr.l2;obtain⟨v',e,cs,rfl,hc⟩:=mK (di n) (by decide) d hm;have a:∀h,WG n Xt (max k d) h (.agg cs):=λh=>⟨_,rfl,Rp.tree hc (XH _)⟩;obtain⟨b,rfl,hN⟩:=dh.1 hc;rw[WL];refine cq B3 (xs:=[.agg [XE n.Xz,b]]) (by simp only[aD,e]) (by simp[oI]) hd ?_;simp only[sz,simprocAttr,oI,sF];refine aG (xD (XR d) (a _) (by omega)) λrc hrc=>?_;have hs:=λg=>Af (d:=d+1) (g:=g) (P:=Xt) (k:=0) (XR d) (hrc.sl g.h);rw[gE hr.cs (by rw[ap];omega),<-hr.wl.2.2]at hs;simp only[sz,simprocAttr,hs]
def ui[Xr]{w:Nat}(hd:0<d)(hm:WG n P k g.h v)(hr:NR n)(hw:w<2^63):∃r,ah C0 d 64 [v,XE (w:Int)] g=.val r/\IT 0 (EN (IO n) (w:Int)) r:=by have hl2:=hr.l2;obtain⟨v',e,cs,rfl,hc⟩:=mK (di n) (by decide) d hm;have a:∀h,WG n Xt (max k d) h (.agg cs):=λh=>⟨_,rfl,Rp.tree hc (XH _)⟩;obtain⟨b,rfl,hN⟩:=dh.1 hc;rw[WL];refine aP B1 (xs:=[.agg [XE n.Xz,b],XE (w:Int)]) (by simp only[aD,e,cP 0]) (by simp[oG]) (aI _) (by decide) hd ?_;simp only[sz,simprocAttr,oG,sD];refine aG (xD (XR d) (a _) (by omega)) λrc hrc=>?_;simp only[sz,simprocAttr];refine aG (Ol (d:=d+1) (P:=Xt) (k:=0) (l:=IO n) (h:=(w:Int)) (XR d) (hrc.sl _) (by rw[ap];omega) (λc hc=>by have:=hr.cs c hc;omega) ⟨ZS w,by omega⟩) λr hr2=>?_;simp only[sz,simprocAttr];obtain⟨w,hw,hs⟩:=hr2;exact⟨_,w,hw,hs.tree (XH _)⟩
end
end Hx
