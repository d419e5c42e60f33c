/- A part of the proof: what the functions of the chapter compute. -/
import Derived.Test.YtkbieohddgjioaaGreatHx5
set_option linter.all false
set_option maxRecDepth 20000
set_option maxHeartbeats 8000000
namespace Hx
open Go
noncomputable section
variable {n:Net}{vals:List Int}
end
end Hx
section
section
namespace Hx
open Go
noncomputable section
theorem ae{α:Type}{l:List α}{j:Nat}(h:j<l.length):∃x,l[j]?=some x/\l.take (j+1)=l.take j++[x]/\x∈l :=
 ⟨l[j],Vt h,by rw[YD,Vt h];rfl,Wy h⟩
def S.UG(l:List Int):Int:=l.foldl (λs x=>IntKind.wrap .i64 (s*x)) 1
theorem QJ{d:Nat}{g:G}{v:AV}(hd:0<d)(hv:A0 g.h v)(hl:(ph g.h v).length<9223372036854775808) :
  am C0 d 22 [v] g=.val (ZJ (S.UG (ph g.h v))):=by
 obtain⟨v',e,hr,k⟩:=L1 hv hl d;generalize ph g.h v=l at hr k hl ⊢;rw[zb];refine eE B9 (xs:=[v']) (by simp only[aG,e]) (by simp[qV]) hd ?_;simp only[sz,simprocAttr,qV];refine oy hl k (λj t df g=>df=[]/\tat t 3=ZJ (S.UG (l.take j))) ⟨rfl,by simp[sx,S.UG]⟩ (by simp[sx]) (by simp[sx]) (by decide)
  (by rintro j t df g v s (rfl|rfl|rfl|rfl|rfl|rfl|rfl)<;>simp[sx]) ?_ ?_
 ·rintro j t df g c ⟨rfl,a⟩ h4 h0;obtain⟨x,hx,b,hm⟩:=ae c;simp only[sz,simprocAttr,hr,h0,a,h4,hx,c,VF,Vw,WM,ci,b,S.UG,X_,XY,List.foldl_nil]
 ·rintro t df g ⟨rfl,a⟩ -;rw[Wa]at a;simp only[sz,simprocAttr,rZ,a]
end
end Hx
end
section
namespace Hx
open Go
noncomputable section
def S.UC(l:List Int)(n:Int)(i:Nat):Bool:=decide (0<=l[i]?.getD 0)&&decide (l[i]?.getD 0<n)&&(i == 0 || decide (l[i - 1]?.getD 0<l[i]?.getD 0))
def S.Uv(l:List Int)(n:Int):Bool:=(List.range l.length).all (S.UC l n)
end
end Hx
end
section
namespace Hx
open Go
noncomputable section
def S.TT(n:Nat):Nat:=1*2 ^ n % 18446744073709551616
def S.TP(l:List Int):Nat:=l.foldl (λs x=>s ||| S.TT x.toNat) 0
theorem oD(n:Nat):S.TT n<18446744073709551616:=WP _ (by decide)
theorem yM{α:Type}(f:α->Nat)(hf:∀a,f a<18446744073709551616):∀(l:List α) (s:Nat),s<18446744073709551616->l.foldl (λs x=>s ||| f x) s<18446744073709551616
 |[],_,h=>h
 |a::l,s,h=>yM f hf l _ (JV h (hf a))
theorem rm(l:List Int):S.TP l<18446744073709551616:=yM _ (λa=>oD _) l 0 (by decide)
theorem Db(l:List Int)(x:Int):S.TP (l++[x])=S.TP l ||| S.TT x.toNat:=by simp[S.TP]
theorem fu(k':IntKind)(n:Nat):bQ .shl (ZL 1) (.int k' (n:Int))=.val (ZL (S.TT n:Int)):=Pt k' 1 n
end
end Hx
end
section
namespace Hx
open Go
noncomputable section
def S.UN(s v:Nat):Bool:=s / 2 ^ v &&& 1 == 1
theorem Jx{d:Nat}{g:G}{s v:Nat}(hd:0<d)(hs:s<18446744073709551616)(hv:v<9223372036854775808) :
  am C0 d 90 [ZL (s:Int),ZJ (v:Int)] g=.val (.bool (S.UN s v)):=by
 rw[BV];refine gZ FL (xs:=[ZL (s:Int),ZJ (v:Int)]) (by simp only[aG,bS 0]) (by simp[vA]) hd ?_;have h1:s / 2 ^ v<18446744073709551616:=Xd (W8 _ _) hs;have h2:bQ .and (ZL ((s / 2 ^ v:Nat):Int)) (ZL 1)=.val (ZL ((s / 2 ^ v &&& 1:Nat):Int)):=nM (s / 2 ^ v) 1 h1 (by decide);simp only[sz,simprocAttr,vA,rN (show (0:Int)<=(v:Int) by omega) (by omega),zF _ _ _ hs,h2,S.UN];congr 1;generalize s / 2 ^ v &&& 1=z;rw[WU,decide_eq_true_iff,beq_iff_eq];omega
def S.Uf(p:List Nat)(s:Nat)(j:Nat):Nat:=(List.range j).foldl (λs v=>if S.UN s v then s ||| p[v]?.getD 0 else s) s
def S.up(p:List Nat)(s:Nat)(j:Nat):Nat:=(List.range j).foldl (λs _=>S.Uf p s p.length) s
theorem Hi{p:List Nat}(hp:∀x∈p,x<18446744073709551616){s:Nat}(hs:s<18446744073709551616):∀j,S.Uf p s j<18446744073709551616:=by
 intro j
 induction j with
 |zero=>exact hs
 | succ j ih =>
  unfold S.Uf at ih ⊢;rw[WC,X_];simp only[XY,List.foldl_nil]
  split
  ·refine JV ih ?_;cases h:p[j]? with
   |none=>decide
   |some x=>exact hp x (VA h)
  ·exact ih
theorem ir(p:List Nat)(s j:Nat):S.Uf p s (j+1)=if S.UN (S.Uf p s j) j then S.Uf p s j ||| p[j]?.getD 0 else S.Uf p s j:=by unfold S.Uf;rw[WC,X_];rfl
theorem Rz{p:List Nat}(hp:∀x∈p,x<18446744073709551616){s:Nat}(hs:s<18446744073709551616):∀j,S.up p s j<18446744073709551616:=by
 intro j
 induction j with
 |zero=>exact hs
 | succ j ih =>
  unfold S.up at ih ⊢;rw[WC,X_];exact Hi hp ih _
theorem ox(p:List Nat)(s j:Nat):S.up p s (j+1)=S.Uf p (S.up p s j) p.length:=by unfold S.up;rw[WC,X_];rfl
theorem Tf{d k:Nat}{g:G}{P:Nat->Prop}{v:AV}{p:List Nat}{s:Nat}(hd:0<d)(hv:SlR P k g.h p v)(hs:s<18446744073709551616) :
  am C0 d 105 [v,ZL (s:Int)] g=.val (ZL (S.up p s p.length:Int)):=by
 obtain⟨v',e,b⟩:=bm hv d;have hp:=qE hv;have hl:=hv.1;rw[BX];refine eE FM (xs:=[v',ZL (s:Int)]) (by simp only[aG,e,bS 0]) (by simp[vB]) hd ?_;simp only[sz,simprocAttr,vB];refine oy hl (b .nil).len (λj t df g=>df=[]/\tat t 1=ZL (S.up p s j:Int)) ⟨rfl,by simp[sx,S.up]⟩ (by simp[sx]) (by simp[sx]) (by decide)
  (by rintro j t df g v s (rfl|rfl|rfl|rfl|rfl|rfl|rfl)<;>simp[sx]) ?_ ?_
 ·rintro j t df g c ⟨rfl,h1⟩ h5 h0;simp only[sz,simprocAttr];have hu:=Rz hp hs j;refine oy hl (b .nil).len (λi t df g=>df=[]/\tat t 5=ZJ (j:Int)/\tat t 1=ZL (S.Uf p (S.up p s j) i:Int)) ⟨rfl,by simp[sx,h5],by simp[sx,S.Uf,h1]⟩ (by simp[sx]) (by simp[sx,h0]) (by decide)
   (by rintro j t df g v s (rfl|rfl|rfl|rfl|rfl|rfl|rfl)<;>simp[sx]) ?_ ?_
  ·rintro i t df g hi ⟨rfl,h5,h1⟩ a h0;have hr:=Hi hp hu i;obtain⟨x,hx,-,hm⟩:=ae hi;simp only[sz,simprocAttr,h1,a,Jx (VI d) hr (show i<9223372036854775808 by omega)];refine aX (λhb=>?_) (λhb=>?_)
   ·simp only[sz,simprocAttr,h0,h1,h5,a,(b g.h).nats,hi,hx,VF,Vw,WM,cu,mo _ _ hr (hp x hm)];rw[ir,hb,hx];rfl
   ·simp only[sx,sy,↓reduceIte,Nat.reduceEqDiff,h0,h1,h5,a];rw[ir,hb];rfl
  ·rintro t df g ⟨rfl,h5,h1⟩ h0;simp only[sx,sy,↓reduceIte,h0,h5,h1];rw[ox]
 ·rintro t df g ⟨rfl,h1⟩ -;simp only[sz,simprocAttr,uJ,h1]
def S.Uu(p:List Nat):Bool:=(List.range p.length).all λv=>!S.UN (S.up p (p[v]?.getD 0) p.length) v
theorem yT{d k:Nat}{g:G}{P:Nat->Prop}{v:AV}{p:List Nat}(hd:0<d)(hv:SlR P k g.h p v) :
  am C0 d 88 [v] g=.val (.bool (S.Uu p)):=by
 obtain⟨v',e,c⟩:=bm hv d;have hp:=qE hv;have hl:=hv.1;rw[uT];refine gZ xW (xs:=[v']) (by simp only[aG,e]) (by simp[lu]) hd ?_;simp only[sz,simprocAttr,lu];refine oy hl (c .nil).len (λj t df g=>df=[]/\(List.range j).all (λv=>!S.UN (S.up p (p[v]?.getD 0) p.length) v)=true) ⟨rfl,rfl⟩ (by simp[sx]) (by simp[sx]) (by decide)
  (by rintro j t df g v s (rfl|rfl|rfl|rfl|rfl|rfl|rfl)<;>simp[sx]) ?_ ?_
 ·rintro j t df g b ⟨rfl,hw⟩ f h0;obtain⟨x,hx,-,hm⟩:=ae b;have a:=hp x hm;simp only[sz,simprocAttr,h0,f,(c g.h).nats,b,hx,VF,Vw,WM,cu,Tf (VI d) (c g.h) a,Jx (VI d) (Rz hp a _) (show j<9223372036854775808 by omega)];refine aX (λhb=>?_) (λhb=>?_)
  ·simp only[sz,simprocAttr];rw[S.Uu,kV b (by rw[hx];simp[hb])]
  ·simp only[sx,sy,↓reduceIte,Nat.reduceEqDiff,h0,f];rw[iM,hw,hx];simp[hb]
 ·rintro t df g ⟨rfl,hw⟩ h0;simp only[sz,simprocAttr,mM];rw[S.Uu,hw]
end
end Hx
end
section
namespace Hx
open Go
noncomputable section
def S.Ty(l:List Int):Int:=l.foldl (·*·) 1
theorem iH(l:List Int)(x:Int):S.Ty (l++[x])=S.Ty l*x:=by simp[S.Ty]
theorem jS{a b:Nat}(h:a<=b):(4:Int) ^ a<=4 ^ b:=by
 obtain⟨c,rfl⟩:∃c,b=a+c:=⟨b - a,by omega⟩
 induction c with
 |zero=>exact Int.le_refl _
 | succ c ih =>
  have:=ih (by omega);rw[show a+(c+1)=(a+c)+1 from rfl,Yn];have h0:(0:Int)<=4 ^ (a+c):=Int.le_of_lt (Int.pow_pos (by decide));omega
theorem cy(a:Int)(l:List Int):S.Ty (a::l)=a*S.Ty l:=by
 have:∀(l:List Int) (s:Int),l.foldl (·*·) s=s*l.foldl (·*·) 1:=by
  intro l
  induction l with
  |nil=>intro s;simp
  |cons x l ih=>intro s;rw[XY,ih,XY,ih (1*x),Int.one_mul,Xi]
 unfold S.Ty;rw[XY,this,Int.one_mul]
theorem cj:∀{l:List Int},(∀x∈l,1<=x/\x<=4)->1<=S.Ty l/\S.Ty l<=4 ^ l.length
 |[],_=>⟨by decide,by decide⟩
 | a::l,h=>by
  obtain⟨h1,h2⟩:=cj (l:=l) λx hx=>h x (by simp[hx]);obtain⟨k,h4⟩:=h a (by simp);rw[cy,Wd,Yn,Xt (4 ^ l.length)];constructor
  ·have:=Y0 k h1 (by decide) (by omega);simpa using this
  ·exact Y0 h4 h2 (by omega) (by decide)
theorem Dq{b:Int}(hb:0<=b):∀{l:List Int},(∀x∈l,0<=x/\x<=b)->0<=l.sum/\l.sum<=b*l.length
 |[],_=>by simp
 | a::l,h=>by
  obtain⟨h1,h2⟩:=Dq hb (l:=l) λx hx=>h x (by simp[hx]);obtain⟨k,h4⟩:=h a (by simp);rw[X6,Wd];have:b*((l.length+1:Nat):Int)=b*(l.length:Int)+b:=by rw[Int.natCast_add,YY];simp
  omega
theorem xq(l:List Int)(x:Int):(l++[x]).sum=l.sum+x:=by simp
end
end Hx
end
section
namespace Hx
open Go
noncomputable section
def S.Vd(m:Causal)(p:Int):Int:=(m.nodes[p.toNat]?.map (·.card)).getD 0
def S.Vl(m:Causal)(r:Int):Int:=(m.roots[r.toNat]?.map λr=>(r.length:Int)).getD 0
end
end Hx
end
section
namespace Hx
open Go
noncomputable section
def S.TF(a b:Nat):Nat:=a ^^^ (a &&& b)
theorem L7{n:Nat}(h:n<64):S.TT n=2 ^ n:=by unfold S.TT;rw[Xc,Yf];exact Nat.pow_lt_pow_right (a:=2) (by decide) h
end
end Hx
end
section
namespace Hx
open Go
noncomputable section
theorem If{d k:Nat}{g:G}{P:Nat->Prop}{v:AV}{l:List Int}{n:Int}(hd:0<d)(hv:SlR P k g.h l v) :
  am C0 d 87 [v,ZJ n] g=.val (.bool (S.Uv l n)):=by
 obtain⟨v',e,c⟩:=bm hv d;rw[ww];refine gZ zi (xs:=[v',ZJ n]) (by simp only[aG,bS 0,e]) (by simp[mK]) hd ?_;simp only[sz,simprocAttr,mK];have hl:=hv.1;refine oy hl (c .nil).len (λj t df g=>df=[]/\tat t 1=ZJ n/\(List.range j).all (S.UC l n)=true)
  ⟨rfl,by simp[sx],rfl⟩ (by simp[sx]) (by simp[sx]) (by decide) (by rintro j t df g v s (rfl|rfl|rfl|rfl|rfl|rfl|rfl)<;>simp[sx]) ?_ ?_
 ·rintro j t df g a ⟨rfl,h1,hw⟩ h5 h0;obtain⟨x,hx,f,hm⟩:=ae a;have bad:S.UC l n j=false->S.Uv l n=false:=λh=>kV a h;have rr:=(c g.h).ints;simp only[sz,simprocAttr,rr,h0,h5,hx,a,VF,Vw,WM,ci];refine aX (λhb=>?_) (λhb=>?_)
  ·simp only[sz,simprocAttr,hb];rw[bad (by simp[S.UC,hx]at *;omega)]
  ·simp only[sz,simprocAttr,rr,hb,h0,h1,h5,hx,a,VF,Vw,WM,ci];refine aX (λhc=>?_) (λhc=>?_)
   ·simp only[sz,simprocAttr,hc];rw[bad (by simp[S.UC,hx]at *;omega)]
   ·simp only[sz,simprocAttr,hc,h5];refine aX (λhd=>?_) (λhd=>?_)
    ·obtain⟨i,rfl⟩:∃i,j=i+1:=⟨j - 1,by simp at hd;omega⟩;obtain⟨y,b,-,-⟩:=ae (l:=l) (j:=i) (by omega);have hi:i<l.length:=by omega
     have e:IntKind.wrap .i64 (((i+1:Nat):Int) - 1)=(i:Int):=by rw[ap (by omega) (by omega)];omega
     simp only[sz,simprocAttr,rr,hd,e,h0,h5,hx,a,b,hi,VF,Vw,WM,ci];refine aX (λhe=>?_) (λhe=>?_)
     ·simp only[sz,simprocAttr];rw[bad (by simp[S.UC,hx,b]at *;omega)]
     ·simp only[sx,sy,↓reduceIte,Nat.reduceEqDiff,h0,h1,h5];rw[iM,hw];simp[S.UC,hx,b]at *;omega
    ·have:j=0:=by simp at hd;omega
     subst this;simp only[sz,simprocAttr,hd,h0,h1,h5];simp[S.UC,hx]at *;omega
 ·rintro t df g ⟨rfl,-,hw⟩ -;simp only[sz,simprocAttr,nV];rw[S.Uv,hw]
def S.Vm(m:Causal)(x:Mech):List Int:=x.frm.map (S.Vd m)++x.noise.map (S.Vl m)
end
end Hx
end
section
namespace Hx
open Go
noncomputable section
def S.Vj(m:Causal):Int:=S.Ty (m.roots.map λr=>(r.length:Int))
end
end Hx
end
section
namespace Hx
open Go
def Sub(a s:Nat):Prop:=∀v,a.testBit v=true->s.testBit v=true
theorem rg(s v:Nat):S.UN s v=s.testBit v:=by rw[Nat.testBit_eq_decide_div_mod_eq,S.UN,Nat.and_one_is_mod];rw[WU,beq_iff_eq,decide_eq_true_iff]
theorem CQ{a s:Nat}:S.TF a s=0↔Sub a s:=by
 constructor
 ·intro h v k;have:=congrArg (·.testBit v) h;simp[S.TF,k]at this;exact this
 ·intro h;refine YG λv=>?_;have:=h v;simp only[S.TF,Nat.testBit_xor,Xj,Nat.zero_testBit];cases ha:a.testBit v
  ·rfl
  ·rw[this ha];rfl
theorem dJ(a b v:Nat):(a ||| b).testBit v=(a.testBit v || b.testBit v):=Nat.testBit_or a b v
theorem sO{n:Nat}(h:n<64)(v:Nat):(S.TT n).testBit v=decide (n=v):=by rw[L7 h,Nat.testBit_two_pow]
section
variable {p:List Nat}
def Par(p:List Nat)(v:Nat):Nat:=p[v]?.getD 0
def Cl(p:List Nat)(s:Nat):Prop:=∀v,v<p.length->s.testBit v=true->Sub (Par p v) s
theorem Du{s t:Nat}(hc:Cl p t)(h:Sub s t):∀j,j<=p.length->Sub (S.Uf p s j) t
 |0,_=>h
 | j+1,hj=>by
  have ih:=Du hc h j (by omega);rw[ir]
  split
  ·rename_i hb;rw[rg]at hb;intro v hv;rw[dJ,Wh]at hv;rcases hv with hv|hv
   ·exact ih v hv
   ·exact hc j (by omega) (ih j hb) v hv
  ·exact ih
theorem Ix{s t:Nat}(hc:Cl p t)(h:Sub s t):∀j,Sub (S.up p s j) t
 |0=>h
 |j+1=>by rw[ox];exact Du hc (Ix hc h j) _ (Vu _)
def Kx(p:List Nat)(s:Nat):Prop:=Cl p s/\∀v,v<p.length->s.testBit v=true->(S.up p (Par p v) p.length).testBit v=false
theorem z9:S.Uu p=true↔∀v,v<p.length->(S.up p (Par p v) p.length).testBit v=false:=by
 unfold S.Uu;rw[VQ];constructor
 ·intro h v k;have:=h v (VM.2 k);rw[rg]at this;simpa [Par] using this
 ·intro h v k;have:=h v (VM.1 k);rw[rg];simpa [Par] using this
def bct(s:Nat):Nat->Nat
 |0=>0
 |n+1=>bct s n+(if s.testBit n then 1 else 0)
theorem Hs(s:Nat):∀n,bct s n<=n
 |0=>Vu _
 |n+1=>by have:=Hs s n;unfold bct;split<;>omega
theorem Fg{a s:Nat}(h:Sub a s):∀n,bct a n<=bct s n
 |0=>Vu _
 | n+1=>by
  have:=Fg h n;unfold bct
  split
  ·rename_i hb;rw[VC (h n hb)];omega
  ·split<;>omega
theorem L6{a s:Nat}(h:Sub a s){v:Nat}(hv:s.testBit v=true)(ha:a.testBit v=false):∀n,v<n->bct a n<bct s n
 |0,h0=>by omega
 | n+1,hn=>by
  unfold bct
  by_cases hvn:v=n
  ·subst hvn;have:=Fg h v;rw[VC hv,ha];simp;omega
  ·have:=L6 h hv ha n (by omega)
   split
   ·rename_i hb;rw[VC (h n hb)];omega
   ·split<;>omega
theorem Ff{s:Nat}:∀n,bct s n=n->∀v,v<n->s.testBit v=true
 |0,_,v,h=>by omega
 | n+1,h,v,hv=>by
  unfold bct at h;have:=Hs s n
  split at h
  ·rename_i hb
   by_cases e:v=n
   ·subst e;exact hb
   ·exact Ff n (by omega) v (by omega)
  ·omega
theorem xp{a s:Nat}(h:Sub a s)(h':Sub s a):a=s:=YG λv=>by
 cases ha:a.testBit v
 ·cases hs:s.testBit v
  ·rfl
  ·rw[h' v hs]at ha;cases ha
 ·rw[h v ha]
theorem Sz{a s:Nat}(h:Sub a s):a<=s:=by
 have:a ||| s=s:=YG λv=>by
  rw[dJ];cases ha:a.testBit v
  ·simp
  ·rw[h v ha];rfl
 rw[<-this];exact Nat.left_le_or
theorem rK(s:Nat):∀j,Sub s (S.Uf p s j)
 |0=>λ_ h=>h
 | j+1=>by
  have ih:=rK s j;rw[ir]
  split
  ·intro v k;rw[dJ,ih v k];rfl
  ·exact ih
theorem Iw{s:Nat}{j k:Nat}(h:j<=k):Sub (S.Uf p s j) (S.Uf p s k):=by
 induction h with
 |refl=>exact λ_ h=>h
 | step _ ih =>
  rw[ir]
  split
  ·intro v a;rw[dJ,ih v a];rfl
  ·exact ih
theorem KL{s:Nat}(h:S.Uf p s p.length=s):Cl p s:=by
 intro v k hb u hu;have h1:(S.Uf p s v).testBit v=true:=rK s v v hb;have h2:(S.Uf p s (v+1)).testBit u=true:=by rw[ir,rg,h1,VC rfl,dJ];have:(p[v]?.getD 0).testBit u=true:=hu;rw[this];simp
 have:=Iw (p:=p) (s:=s) (show v+1<=p.length by omega) u h2;rwa [h]at this
theorem He{s n v:Nat}(h:s<2 ^ n)(hv:s.testBit v=true):v<n:=by
 rcases XI v n with h1|h1
 ·exact h1
 ·rw[Nat.testBit_lt_two_pow (VL h (V_ (by decide) h1))]at hv;cases hv
theorem Te{f:Nat->Nat}{n:Nat}(hm:∀j,Sub (f j) (f (j+1)))(hb:∀j,f j<2 ^ n)(hs:∀j,f (j+1)=f j->f (j+2)=f (j+1)):f (n+1)=f n:=by
 have key:∀j,j<=bct (f j) n\/f (j+1)=f j:=by
  intro j
  induction j with
  |zero=>exact .inl (Wp _)
  | succ j ih =>
   rcases ih with ih|ih
   ·by_cases e:f (j+1)=f j
    ·exact .inr (hs j e)
    ·left;have:∃v,(f (j+1)).testBit v=true/\(f j).testBit v=false:=by
      apply W6;intro k;apply e;refine xp (λv hv=>?_) (hm j);cases hc:(f j).testBit v
      ·exact absurd ⟨v,hv,hc⟩ k
      ·rfl
     obtain⟨v,h1,h2⟩:=this;have:=L6 (hm j) h1 h2 n (He (hb _) h1);omega
   ·exact .inr (hs j ih)
 rcases key n with h|h
 ·have hc:bct (f n) n=n:=by have:=Hs (f n) n;omega
  refine xp (λv hv=>?_) (hm n);exact Ff n hc v (He (hb _) hv)
 ·exact h
theorem Sg{a b n:Nat}(h:a<2 ^ n)(h':b<2 ^ n):a ||| b<2 ^ n:=XW h h'
theorem H3{v:Nat}(hp:∀x∈p,x<2 ^ p.length):Par p v<2 ^ p.length:=by
 unfold Par;cases h:p[v]? with
 |none=>exact Nat.pow_pos (by decide)
 |some x=>exact hp x (VA h)
theorem Dt(hp:∀x∈p,x<2 ^ p.length){s:Nat}(hs:s<2 ^ p.length):∀j,S.Uf p s j<2 ^ p.length
 |0=>hs
 | j+1=>by
  have ih:=Dt hp hs j;rw[ir]
  split
  ·exact Sg ih (H3 hp)
  ·exact ih
theorem O5(hp:∀x∈p,x<2 ^ p.length){s:Nat}(hs:s<2 ^ p.length):∀j,S.up p s j<2 ^ p.length
 |0=>hs
 |j+1=>by rw[ox];exact Dt hp (O5 hp hs j) _
theorem LK(hp:∀x∈p,x<2 ^ p.length){s:Nat}(hs:s<2 ^ p.length):Cl p (S.up p s p.length):=by
 apply KL;rw[<-ox];exact Te (f:=λj=>S.up p s j) (λj=>by rw[ox];exact rK _ _) (λj=>O5 hp hs j) (λj e=>by
  have e:S.up p s (j+1)=S.up p s j:=e;show S.up p s (j+1+1)=S.up p s (j+1);rw[ox,e,<-ox,e])
theorem EZ{s:Nat}:∀j,Sub s (S.up p s j)
 |0=>λ_ h=>h
 |j+1=>λv hv=>by rw[ox];exact rK _ _ v (EZ j v hv)
end
end Hx
end
section
namespace Hx
open Go
noncomputable section
theorem ro{a b:List Nat}(h:∀i∈a,∀j∈b,i≠j):meets a b=false:=by simp only[meets,List.any_eq_false];intro i hi hc;exact h i hi i (X0.1 hc) rfl
theorem bI{x y:Foot}(hb:x.lk.big=false)(hb2:y.lk.big=false)(hs:x.lk.sr=[])(hs2:y.lk.sr=[])(h1:∀i∈x.wr,∀j∈y.wr,i≠j)(h2:∀i∈x.wr,∀j∈y.lk.rd,i≠j)(h3:∀i∈y.wr,∀j∈x.lk.rd,i≠j) :
  bO x y=true:=by
 have h:=ro h1;have k:=ro h2;have a:=ro h3;have b:meets y.wr x.wr=false:=ro λi hi j hj e=>h1 j hj i hi e.symm;have c:∀l:List Nat,meets l []=false:=λl=>by simp[meets]
 simp only[bO,je,gc,hb,hb2,hs,hs2,h,k,a,b,c,fst1,Xe,Yg,Yd,Yl]
 split<;>split<;>rfl
end
end Hx
end
section
namespace Hx
open Go
noncomputable section
theorem kK{g:G}{b sz bytes:Nat}{zero:List AV}{k1 k2:IntKind}{n:Nat}{K:AV->G->Prop}{D:ADf->Prop}(hn:n<=aT)(hb:n*bytes<=aT)(hg:b<=g.nx)
  (k:∀v' g',Own g' b v' sz (List.replicate n zero)->g'.nx=g.nx+1->(∀i,i<g.nx->g'.h.get i=g.h.get i)->vid v'=some g.nx->g'.lg=g.nx::g.lg->K v' g') :
  (HR sz bytes zero (.int k1 (n:Int)) (.int k2 (n:Int)) g).sat K g D:=by
 show (match eO aT (.int k2 (.ofNat n)) with
  | some cn=>match eO cn (.int k1 (.ofNat n)) with
   |some ln=>aB (Nat.ble (cn*bytes) aT) (OR.upd (.hsl g.nx 0 0 ln none) (g.new (Y6 sz (qx cn zero)))) .fail
   |none=>.fail
  |none=>.fail).sat K g D
 simp only[eO,aa,Wt,VC hn,Vu,VC hb,if_true];refine k _ _ (.inr ⟨g.nx,0,false,hg,by simp,by simp,by simp[aJ,qx]⟩) (by simp) (λi hi=>?_) rfl (by simp);rw[G.new_h,af _ _ _ (by omega)]
end
end Hx
end
section
namespace Hx
open Go
noncomputable section
theorem JB(n sz id ep i off:Nat)(k:IntKind){j:Nat}(h:j<n):No n sz (.hptr id ep i off) (.int k (j:Int))=.val (.hptr id ep i (off+j*sz)):=by show aB (Nat.blt j n) (OR.val (.hptr id ep i (off+j*sz))) .fail=_;rw[aa,VC (by simpa using h)]
def u8v(x:UInt8):AV:=.int .u8 (x.toNat:Int)
theorem G8(l:List UInt8)(h:H)(d:Nat):snap h d aE (.agg (l.map u8v))=some (.agg (l.map u8v)):=by
 have:∀l:List UInt8,aG (Hx.snap h d 23) (l.map u8v)=some (l.map u8v):=λl=>by
  induction l with
  |nil=>rfl
  | cons x l ih =>
   simp only[W4,aG,ih,show Hx.snap h d 23 (u8v x)=some (u8v x) from rfl]
 show (match aG (Hx.snap h d 23) (l.map u8v) with|some ys=>some (AV.agg ys)|none=>none)=_;rw[this]
end
end Hx
end
section
namespace Hx
open Go
noncomputable section
def Raw(w:AV):Prop:=w=.nils\/∃rows,w=.tsl 0 1 rows
theorem Ss{w:AV}{l:List Int}(hw:SlR NoP 0 .nil l w)(hr:Raw w)(c:Nat) :
  ∃w',(∀g,tR 1 w none (some (ZJ (min (l.length:Int) (c:Int)))) g=.val w')/\SlR NoP 0 .nil (l.take c) w':=by
 have hm:min (l.length:Int) (c:Int)=((min l.length c:Nat):Int):=by omega
 rw[hm];have hlt:(l.take c).length<9223372036854775808:=by have:=hw.1;rw[Wf];omega
 rcases hr with rfl|⟨rows,rfl⟩
 ·have hl:l=[]:=hw.2;subst hl;refine⟨.nils,λg=>?_,hlt,by simp[SlV]⟩;have:min ([]:List Int).length c=0:=by simp
  rw[this];rfl
 ·obtain⟨h0,h1,h2⟩:=(show 0<=0/\(1=Rp.sz Int\/rows=[])/\All2 (Rp.rp NoP 0 .nil) l rows from hw.2);have k:=h2.len;refine⟨.tsl 0 1 (rows.take (min l.length c)),λg=>?_,hlt,?_⟩
  ·show orV (match aZ (bC rows) (bC rows) (some (ZJ (.ofNat (min l.length c)))) with
    |none=>none
    | some h=>match aZ 0 h none with
     |none=>none
     |some l=>aB (Nat.beq 1 1) (some (.tsl 0 1 (iJ (h - l) (iz l rows)))) none)=_
   have:aZ (bC rows) (bC rows) (some (ZJ (.ofNat (min l.length c))))=some (min l.length c):=by show aB (Nat.ble (min l.length c) (bC rows)) (some (min l.length c)) none=_;rw[aa,VC];rw[aF,<-k];simp;omega
   rw[this];show orV (aB (Nat.beq 1 1) (some (AV.tsl 0 1 (iJ (min l.length c - 0) (iz 0 rows)))) none)=_;rw[show Nat.beq 1 1=true from rfl,bif'_true,bj,bp,Xp,XJ];rfl
  ·refine⟨Vu _,h1.elim .inl (λh=>.inr (by rw[h];simp)),?_⟩;have:=h2.take (min l.length c);rwa [show l.take (min l.length c)=l.take c by rw[Nat.min_comm,<-List.take_take,Wa]]at this
end
end Hx
end
section
namespace Hx
open Go
noncomputable section
end
end Hx
end
section
namespace Hx
open Go
noncomputable section
abbrev Hl:Type:=List UInt8×UInt16×List UInt8
def S.UL(us:List UInt8):List Int:=(us.take 5).map λu=>1+(u.toNat:Int) % 4
theorem Oy{P:Nat->Prop}{k:Nat}{h:H}{x:UInt16}{cs:List AV}:Rp.rp P k h x cs↔cs=[.int .u16 (x.toNat:Int)]:=by simp[Rp.rp]
theorem uh{P:Nat->Prop}{k:Nat}{h:H}{x:Hl}{cs:List AV}:Rp.rp P k h x cs↔∃a b,cs=[a,.int .u16 (x.2.1.toNat:Int),b]/\SlR P k h x.1 a/\SlR P k h x.2.2 b:=by
 constructor
 ·rintro⟨c1,d,rfl,⟨a,rfl,h1⟩,e,f,rfl,h2,⟨b,rfl,c⟩⟩;rw[Oy.1 h2];exact⟨a,b,rfl,h1,c⟩
 ·rintro⟨a,b,rfl,h1,h2⟩;exact⟨[a],[_,b],rfl,⟨a,rfl,h1⟩,[_],[b],rfl,Oy.2 rfl,⟨b,rfl,h2⟩⟩
theorem KP{d k:Nat}{g:G}{P:Nat->Prop}{v:AV}{x:Hl}(hd:0<d)(hm:Agg x P k g.h v) :
  ∃r,am C0 d 51 [v] g=.val r/\IT 0 (S.UL x.1) r:=by
 obtain⟨v',e,cs,rfl,hc⟩:=jC (bW x) (by decide) d hm;obtain⟨a,b,rfl,i,D⟩:=uh.1 hc;obtain⟨rows,o,I,B,J⟩:=i.all;have o:∀h',ak h' 1 a=some rows:=o;rw[qH];refine a_ sX (xs:=[.agg [a,.int .u16 (x.2.1.toNat:Int),b]]) (by simp only[aG,e]) (by simp[gF]) (aY _) (by decide) hd ?_;have E:(S.UL x.1).length=min x.1.length 5:=by simp[S.UL];omega
 simp only[sz,simprocAttr,gF,jp];refine aP (min x.1.length 5) (by omega) (λj t df g=>df=[]/\tat t 1=ZK 0/\g.h.get 0=Y6 3 [[a,.int .u16 (x.2.1.toNat:Int),b]]/\1<=g.nx/\∃u,tat t 3=u/\Own g 1 u 1 (((S.UL x.1).take j).map ci))
  ⟨rfl,by simp[sx],by simp[sx],by simp[sx],_,rfl,.inl ⟨by simp[sx],rfl⟩⟩ (by simp[sx]) (by decide)
  (by rintro j t df g v s (rfl|rfl|rfl)<;>simp[sx]) ?_ ?_ ?_
 ·rintro j t df g w ⟨rfl,h1,hg,c,u,f,hu⟩ h4
  by_cases hlt:(j:Int)<(x.1.length:Int)
  ·have:decide ((j:Int)<((min x.1.length 5:Nat):Int))=decide ((j:Int)<5):=by congr 1;apply propext;omega
   simp only[sz,simprocAttr,h1,h4,hg,i.len,hlt,this];exact⟨c,u,f,hu⟩
  ·have:decide ((j:Int)<((min x.1.length 5:Nat):Int))=false:=We (by omega);simp only[sz,simprocAttr,h1,h4,hg,i.len,hlt,this];exact⟨c,u,f,hu⟩
 ·rintro j t df g w ⟨rfl,h1,hg,c,u,f,hu⟩ h4;obtain⟨y,p,-,-⟩:=ae (l:=x.1) (j:=j) (by omega);obtain⟨z,hz,m,-⟩:=ae (l:=S.UL x.1) (j:=j) (by omega);have n:z=1+(y.toNat:Int) % 4:=by
   have:(S.UL x.1)[j]?=some (1+(y.toNat:Int) % 4):=by simp[S.UL,show j<5 by omega,p]
   rw[this]at hz;injection hz with hz;exact hz.symm
  obtain⟨row,q,C⟩:=B j y p;rw[co.1 C]at q;have hlt:j<rows.length:=by omega
  have A:y.toNat<256:=y.toNat_lt;have F:0<=(y.toNat:Int) % 4:=by omega
  have H:(y.toNat:Int) % 4<4:=by omega
  simp only[sz,simprocAttr,h1,f,h4,hg,o,hlt,q,cX .u8 (show (0:Int)<=(y.toNat:Int) by omega) (show (0:Int)<4 by decide),ap (show -9223372036854775808<=(y.toNat:Int) % 4 by omega) (show (y.toNat:Int) % 4<9223372036854775808 by omega),ap (show -9223372036854775808<=1+(y.toNat:Int) % 4 by omega) (show 1+(y.toNat:Int) % 4<9223372036854775808 by omega)];refine aM (new:=[ci (1+(y.toNat:Int) % 4)]) (hu.step (Fr.new _ _)) (by simp[sx,sy,ci]) (by simp) (by simp[aT];omega) λv2 g2 hv2 n2 f2 _ l2=>?_;simp only[sz,simprocAttr,h1,h4];refine⟨?_,?_,_,rfl,?_⟩
  ·rw[f2 0 (by simp) (λe=>by have:=(hu.lt e).1;omega),G.new_h,af _ _ _ (by omega),hg]
  ·simp at n2;omega
  ·rw[m,n];simpa [ci] using hv2
 ·rintro t df g ⟨rfl,h1,hg,c,u,f,hu⟩;rw[VX (by omega)]at hu;simp only[sz,simprocAttr,iZ,f];exact⟨_,hu.ints (by omega)⟩
end
end Hx
end
section
namespace Hx
open Go
noncomputable section
theorem In{g:G}{b sz:Nat}{u:AV}{rows:List (List AV)}(hu:Own g b u sz rows){n:Nat}(hn:n<=rows.length) :
  ∃y,tR sz u none (some (ZJ (n:Int))) g=.val y/\ak g.h sz y=some (rows.take n):=by
 rcases hu with⟨rfl,rfl⟩|⟨id,ep,lo,h1,h2,rfl,k⟩
 ·have:n=0:=by simpa using hn
  subst this;exact⟨.nils,rfl,rfl⟩
 ·simp only[tR,nD,k,Wm,Wm,WA,aF,WE,aa,Wt,Vu,if_true,aZ,Xg,XJ];simp only[eO];rw[show aB (n.ble rows.length) (some n) none=some n from by rw[aa,VC (by simpa using hn)]];dsimp only
  by_cases h0:rows=[]
  ·subst h0;have:n=0:=by simpa using hn
   subst this;cases lo
   ·exact⟨_,rfl,rfl⟩
   ·exact⟨_,rfl,rF _ _ _ _⟩
  ·have hb:rows.length.beq 0=false:=by cases rows with|nil=>exact absurd rfl h0|cons a l=>rfl
   rw[hb];refine⟨_,rfl,?_⟩;rw[eI,k,cN,VC (by omega),Xp]
theorem Io{g:G}{b sz:Nat}{u:AV}{rows:List (List AV)}(hu:Own g b u sz rows){n:Nat}(hn:n<=rows.length) :
  ∃y,tR sz u (some (ZJ (n:Int))) none g=.val y/\ak g.h sz y=some (rows.drop n):=by
 rcases hu with⟨rfl,rfl⟩|⟨id,ep,lo,h1,h2,rfl,k⟩
 ·have:n=0:=by simpa using hn
  subst this;exact⟨.nils,rfl,rfl⟩
 ·simp only[tR,nD,k,Wm,Wm,WA,aF,WE,aa,Wt,Vu,if_true,aZ,Xg,XJ];simp only[eO];rw[show aB (n.ble rows.length) (some n) none=some n from by rw[aa,VC (by simpa using hn)]];dsimp only
  by_cases h0:rows.length=n
  ·subst h0;rw[VC (Wm _),List.drop_length];cases lo
   ·exact⟨_,rfl,rfl⟩
   ·exact⟨_,rfl,rF _ _ _ _⟩
  ·rw[Vz (λe=>h0 (WT e))];refine⟨_,rfl,?_⟩;rw[eI,k,cN,VC (by omega),VX (by simp)]
def S.UF(os:List UInt8)(k:Nat):Nat:=if k<os.length then ((os[k]?.map UInt8.toNat).getD 0) % (k+1) else 0
def S.T7(os:List UInt8):Nat->List Int
 |0=>[]
 |k+1=>(S.T7 os k).take (S.UF os k)++(k:Int)::(S.T7 os k).drop (S.UF os k)
theorem qv(os:List UInt8):∀k,(S.T7 os k).length=k
 |0=>rfl
 |k+1=>by simp only[S.T7,Wr,Wd,Wf,Ye,qv os k];omega
theorem Bn{d k:Nat}{g:G}{P:Nat->Prop}{v:AV}{x:Hl}(hd:0<d)(hm:Agg x P k g.h v) :
  ∃r,am C0 d 21 [v] g=.val r/\IT 0 (S.T7 x.2.2 (min x.1.length 5)) r:=by
 obtain⟨v',e,cs,rfl,hc⟩:=jC (bW x) (by decide) d hm;obtain⟨a,b,rfl,D,p⟩:=uh.1 hc;have q:∀g:G,Agg x NoP (max k d) g.h (.agg [a,.int .u16 (x.2.1.toNat:Int),b]):=λg=>⟨_,rfl,uh.2 ⟨a,b,rfl,D.tree (Vu _),p.tree (Vu _)⟩⟩;obtain⟨rows,A,O,L,R⟩:=p.all;have A:∀h',ak h' 1 b=some rows:=A;rw[kY];refine a_ mA (xs:=[.agg [a,.int .u16 (x.2.1.toNat:Int),b]]) (by simp only[aG,e]) (by simp[di]) (aY _) (by decide) hd ?_;have E:(S.UL x.1).length=min x.1.length 5:=by simp[S.UL];omega
 simp only[sz,simprocAttr,di,fq];refine aP (min x.1.length 5) (by omega) (λj t df g=>df=[]/\tat t 1=ZK 0/\g.h.get 0=Y6 3 [[a,.int .u16 (x.2.1.toNat:Int),b]]/\1<=g.nx/\∃u,tat t 3=u/\Own g 1 u 1 ((S.T7 x.2.2 j).map ci))
  ⟨rfl,by simp[sx],by simp[sx],by simp[sx],_,rfl,.inl ⟨by simp[sx],rfl⟩⟩ (by simp[sx]) (by decide)
  (by rintro j t df g v s (rfl|rfl|rfl)<;>simp[sx]) ?_ ?_ ?_
 ·rintro j t df g H ⟨rfl,h1,hg,f,u,c,hu⟩ h4;simp only[sz,simprocAttr,h1,h4,hg];refine bi (KP (VI d) (q _)) λr hr=>?_;simp only[sz,simprocAttr,h1,h4,hg,(hr.sl .nil).len,E];exact⟨f,u,c,hu⟩
 ·rintro j t df g H ⟨rfl,h1,hg,f,u,c,hu⟩ h4;have J:((S.T7 x.2.2 j).map ci).length=j:=by rw[VF,qv]
  have I:S.UF x.2.2 j<=j:=by
   unfold S.UF;split
   ·have:=WP (((x.2.2)[j]?.map UInt8.toNat).getD 0) (show 0<j+1 by omega);omega
   ·omega
  have key:∀(t:T) (Q:QT),tat t 1=ZK 0->tat t 3=u->tat t 4=ZJ (j:Int)->tat t 5=ZJ (S.UF x.2.2 j:Int) ->
    (∀(t':T) (g':G),tat t' 1=ZK 0->tat t' 4=ZJ (j:Int)->g'.h.get 0=Y6 3 [[a,.int .u16 (x.2.1.toNat:Int),b]]->1<=g'.nx->(∃u,tat t' 3=u/\Own g' 1 u 1 ((S.T7 x.2.2 (j+1)).map ci))->Q .norm t' [] g') ->
    wp C0 (d+1) none cz Q t [] g:=by
   intro t Q h1 c h4 h5 kk;obtain⟨U,s1,w1⟩:=In hu (n:=S.UF x.2.2 j) (by omega);simp only[sz,simprocAttr,cz,c,h5,XV,XF,s1];refine aM (rows:=[]) (b:=1) (.inl ⟨rfl,rfl⟩) w1 f (by simp[aT];omega) λv1 g1 hv1 n1 f1 vid1 _=>?_;simp only[sz,simprocAttr,h4];refine aM (new:=[ci (j:Int)]) (hv1.step (Fr.new _ _)) (by simp[sx,sy,ci]) (by simp) (by simp[aT,qv];omega) λv2 g2 hv2 n2 f2 vid2 _=>?_;have w:Own g1 1 u 1 ((S.T7 x.2.2 j).map ci):=hu.fr n1 λi hi=>f1 i (hu.lt hi).2 (by simp[vid]);have o:∀i,i<g.nx->vid v1≠some i:=λi hi e=>by
    rcases vid1 with h|⟨i',h,F⟩
    ·rw[h]at e;cases e
    ·rw[h]at e;injection e with e;omega
   have z:Own g2 1 u 1 ((S.T7 x.2.2 j).map ci):=w.fr (by simp at n2;omega) λi hi=>by have hlt:=(hu.lt hi).2;rw[f2 i (by simp;omega) (o i hlt),G.new_h,af _ _ _ (by omega)]
   obtain⟨V,s2,M⟩:=Io z (n:=S.UF x.2.2 j) (by omega);simp only[sz,simprocAttr,c,h5,XV,XF,s2];refine aM hv2 M (by simp at n2;omega) (by simp[aT,qv];omega) λv3 g3 hv3 n3 f3 _ _=>?_;simp only[sz,simprocAttr];refine kk _ _ (by simp[sx,h1]) (by simp[sx,h4]) ?_ (by simp at n2;omega) ⟨_,rfl,?_⟩
   ·rw[f3 0 (by simp at n2;omega) (λe=>by have:=(hv2.lt e).1;omega),f2 0 (by simp) (o 0 (by omega)),G.new_h,af _ _ _ (by omega),f1 0 (by omega) (by simp[vid]),hg]
   ·simp only[sx,↓reduceIte];simpa [S.T7,Yy,List.map_drop] using hv3
  simp only[sz,simprocAttr,h1,h4,hg,p.len];refine aX (λhb=>?_) (λhb=>?_)
  ·have m:j<x.2.2.length:=by simp at hb;omega
   obtain⟨y,B⟩:∃y,x.2.2[j]?=some y:=⟨_,Vt m⟩;obtain⟨row,C,N⟩:=L j y B;rw[co.1 N]at C;have K:y.toNat<256:=y.toNat_lt;have hlt:j<rows.length:=by omega
   have l:((S.UF x.2.2 j:Nat):Int)=(y.toNat:Int) % ((j:Int)+1):=by unfold S.UF;rw[VC m,B];simp
   simp only[sz,simprocAttr,h1,h4,hg,A,hlt,C,ap (show -9223372036854775808<=(y.toNat:Int) by omega) (show (y.toNat:Int)<9223372036854775808 by omega),ap (show -9223372036854775808<=(j:Int)+1 by omega) (show (j:Int)+1<9223372036854775808 by omega),cX .i64 (show (0:Int)<=(y.toNat:Int) by omega) (show 0<(j:Int)+1 by omega)];refine key _ _ (by simp[sx,h1]) (by simp[sx,c]) (by simp[sx,h4]) (by simp[sx,l]) λt' g' e1 e4 e0 en eu=>?_;simp only[sy,e1,e4,e0];exact⟨en,eu⟩
  ·have l:S.UF x.2.2 j=0:=by unfold S.UF;rw[Vz];simp at hb;omega
   simp only[sx];refine key _ _ (by simp[sx,h1]) (by simp[sx,c]) (by simp[sx,h4]) (by simp[sx,l]) λt' g' e1 e4 e0 en eu=>?_;simp only[sy,e1,e4,e0];exact⟨en,eu⟩
 ·rintro t df g ⟨rfl,h1,hg,f,u,c,hu⟩;simp only[sz,simprocAttr,eL,c];exact⟨_,hu.ints (by rw[qv];omega)⟩
end
end Hx
end
section
namespace Hx
open Go
noncomputable section
def S.Vb(cards:List Int):List Int->Nat->List Int×Bool
 |vals,0=>(vals,false)
 |vals,k+1=>if (vals[k]?.getD 0)+1<(cards[k]?.getD 0) then (vals.set k ((vals[k]?.getD 0)+1),true) else S.Vb cards (vals.set k 0) k
def S.Va(cards vals:List Int):List Int×Bool:=S.Vb cards vals vals.length
end
end Hx
end
section
namespace Hx
open Go
noncomputable section
def S.U7(cards:List Int):Nat->List Int->List (List Int)
 |0,_=>[]
 |f+1,v=>v::(if (S.Va cards v).2 then S.U7 cards f (S.Va cards v).1 else [])
def S.Vn(cards:List Int):List (List Int):=S.U7 cards (S.Ty cards).toNat (List.replicate cards.length 0)
end
end Hx
end
section
namespace Hx
open Go
noncomputable section
def S.Ur(l:List Int)(h:Int):Int:=l.foldr (λc q=>q / c) h
def S.Ui(l:List Int)(h:Int)(i:Nat):Int:=S.Ur (l.drop (i+1)) h % l[i]?.getD 1
def S.TK(l:List Int)(h:Int):List Int:=(List.range l.length).map (S.Ui l h)
theorem J0{l:List Int}{h:Int}(hl:∀c∈l,0<c)(hh:0<=h):0<=S.Ur l h/\S.Ur l h<=h:=by
 induction l with
 |nil=>exact⟨hh,Int.le_refl _⟩
 | cons c l ih =>
  obtain⟨a,b⟩:=ih λx hx=>hl x (by simp[hx]);have hc:=hl c (by simp);show 0<=S.Ur l h / c/\S.Ur l h / c<=h;exact⟨Int.ediv_nonneg a (by omega),Int.le_trans (Int.ediv_le_self _ a) b⟩
end
end Hx
end
section
namespace Hx
open Go
noncomputable section
def S.TC:List Int->List Int->Int
 |_::cs,v::vs=>v*S.Ty cs+S.TC cs vs
 |_,_=>0
def InC(cards vals:List Int):Prop:=All2 (λc v=>(0:Int)<=v/\v<c) cards vals
theorem iG:∀{cards vals:List Int},(∀c∈cards,1<=c/\c<=4)->InC cards vals->0<=S.TC cards vals/\S.TC cards vals<S.Ty cards
 |[],[],_,_=>⟨Int.le_refl _,by decide⟩
 | c::cs,v::vs,hc,h=>by obtain⟨a,b⟩:=iG (cards:=cs) (vals:=vs) (λx hx=>hc x (by simp[hx])) h.2;obtain⟨d,-⟩:=cj (l:=cs) λx hx=>hc x (by simp[hx]);have k:=h.1;rw[cy];show 0<=v*S.Ty cs+S.TC cs vs/\v*S.Ty cs+S.TC cs vs<c*S.Ty cs;have h1:0<=v*S.Ty cs:=XU k.1 (by omega);have h2:(v+1)*S.Ty cs<=c*S.Ty cs:=X3 (by omega) (by omega);rw[X7,Int.one_mul]at h2;omega
 |[],_::_,_,h=>h.elim
 |_::_,[],_,h=>h.elim
theorem InC.drop:∀{cards vals:List Int} (j:Nat),InC cards vals->InC (cards.drop j) (vals.drop j)
 |_,_,0,h=>h
 |[],[],j+1,_=>trivial
 |_::_,_::_,j+1,h=>InC.drop j h.2
 |[],_::_,_,h=>h.elim
 |_::_,[],_,h=>h.elim
theorem InC.len{cards vals:List Int}(h:InC cards vals):vals.length=cards.length:=(All2.len h).symm
end
end Hx
end
section
namespace Hx
open Go
noncomputable section
theorem yx{l:List Int}(hc:∀c∈l,1<=c/\c<=4)(hl:l.length<=13):S.UG l=S.Ty l:=by
 have pw:∀n,n<=13->(4:Int) ^ n<=67108864:=λn hn=>by
  have:=jS hn;have e:(4:Int) ^ 13=67108864:=by decide
  omega
 have key:∀j,j<=l.length->S.UG (l.take j)=S.Ty (l.take j):=by
  intro j
  induction j with
  |zero=>intro _;rfl
  | succ j ih =>
   intro k;obtain⟨x,hx,h,hm⟩:=ae (l:=l) (j:=j) (by omega);have ih:=ih (by omega);have hb:=cj (l:=l.take (j+1)) λy hy=>hc y (WL hy);have:=pw (l.take (j+1)).length (by simp;omega);rw[h]at hb this ⊢;rw[iH]at hb ⊢;show S.UG (l.take j++[x])=_;unfold S.UG at ih ⊢;rw[X_,ih];show IntKind.wrap .i64 (S.Ty (l.take j)*x)=_;rw[ap (by omega) (by omega)]
 have:=key l.length (Vu _);rwa [Wa]at this
end
end Hx
end
section
namespace Hx
open Go
def S.Vk(x:Mech)(roots:List Int)(V:Nat->Int):List Int:=(x.frm.map λq=>V q.toNat)++(x.noise.map λr=>roots[r.toNat]?.getD 0)
def S.Vf(m:Causal)(roots act:List Int)(V:Nat->Int)(i:Nat)(x:Mech):Int:=if 0<=act[i]?.getD 0 then act[i]?.getD 0 else x.out[(S.TC (S.Vm m x) (S.Vk x roots V)).toNat]?.getD 0
def Sol(m:Causal)(roots act:List Int)(V:Nat->Int):Prop:=∀(i:Nat) (x:Mech),m.nodes[i]?=some x->V i=S.Vf m roots act V i x
noncomputable def S.V(m:Causal)(roots act:List Int):Nat->Int:=Classical.epsilon (Sol m roots act)
noncomputable def S.Vp(m:Causal)(roots act:List Int):List Int:=(List.range m.nodes.length).map (S.V m roots act)
theorem AX{cards vals:List Int}(hl:cards.length=vals.length)(h:∀(i:Nat) c v,cards[i]?=some c->vals[i]?=some v->0<=v/\v<c):InC cards vals:=by
 induction cards generalizing vals with
 | nil=>cases vals with
  |nil=>trivial
  |cons v vals=>simp at hl
 | cons c cards ih=>cases vals with
  |nil=>simp at hl
  |cons v vals=>exact⟨h 0 c v rfl rfl,ih (by simpa using hl) λi c' v' h1 h2=>h (i+1) c' v' (by simpa using h1) (by simpa using h2)⟩
theorem InC.get{cards vals:List Int}(h:InC cards vals){i:Nat}{c:Int}(hc:cards[i]?=some c):∃v,vals[i]?=some v/\0<=v/\v<c:=All2.get h hc
def S.UY(cs vs:List Int)(a:Int):Int:=(cs.zip vs).foldl (λa p=>a*p.1+p.2) a
theorem vF:∀(cs vs:List Int) (a:Int),cs.length=vs.length->S.UY cs vs a=a*S.Ty cs+S.TC cs vs
 |[],[],a,_=>by simp[S.UY,S.Ty,S.TC]
 | c::cs,v::vs,a,h=>by show S.UY cs vs (a*c+v)=_;rw[vF cs vs _ (by simpa using h),cy];show _=_+(v*S.Ty cs+S.TC cs vs);rw[X7,Xi,Int.add_assoc]
 |[],_::_,_,h=>by simp at h
 |_::_,[],_,h=>by simp at h
end Hx
end
section
namespace Hx
open Go
noncomputable section
def hz(cs vs:List Int)(j:Nat):Int:=((cs.zip vs).take j).foldl (λa p=>a*p.1+p.2) 0
theorem InC.take{cards vals:List Int}(h:InC cards vals)(j:Nat):InC (cards.take j) (vals.take j):=All2.take h j
section
variable {d k:Nat}{m:Causal}{roots act:List Int}{V:Nat->Int}{a b w u:AV}{p1 p2 p3 p4 iu:Nat}{hid:Int}{r:Nat->Nat}
end
end
end Hx
end
section
namespace Hx
open Go
noncomputable section
theorem Ld(ag:Bool)(n l sz off:Nat)(row:List AV)(g:G):sB ag n (.tptr l sz [row] 0 off) g=orV (bP ag n row off):=rfl
section
variable {d:Nat}{m:Causal}{a b:AV}
end
end
end Hx
end
section
namespace Hx
open Go
noncomputable section
theorem pG{C:Cfg}{d:Nat}{r:List SR}{t:T}{g:G}{K:AV->G->Prop}{id:Nat}(hg:g.h.get id=.dfr true)(h:zB r t (g.put id (.dfr false)) λvs=>K (kM vs) (g.put id (.dfr false))):DU C d r t [.mark id] g K:=by
 unfold DU;have:gD (I C) d [.mark id] g=some (g.put id (.dfr false)):=by simp only[gD,G.get_eq,hg]
 rw[this];exact h
end
end Hx
end
section
namespace Hx
open Go
noncomputable section
def Fam(g:G)(b K:Nat)(V:Nat->AV)(W:Nat->List (List AV)):Prop :=
 (∀k,k<K->Own g b (V k) 1 (W k))/\∀k l,k<K->l<K->k≠l->∀id,vid (V k)=some id->vid (V l)≠some id
def Tt(c:Nat->Int)(V:Nat->AV)(i:Nat):List AV:=[ZJ (c i),V (3*i+1),V (3*i+2),V (3*i+3)]
def Ow(n:Nat)(c:Nat->Int)(V:Nat->AV):List (List AV):=(List.range n).map (Tt c V)
structure ME where
 (n p4 q i5 p7 i9 b:Nat)
 (nv w5 w9 e7:AV)
 (gr:Int)
 (row0:List AV)
 (prow:List (List AV))
 (us:List UInt8)
structure ME.Ok (e:ME):Prop where
 ord:1<e.q/\e.q<e.p4/\e.p4<e.i5/\e.i5<e.p7/\e.p7<e.i9/\e.i9<e.b
 n1:1<=e.n/\e.n<=4
 g1:2<=e.gr/\e.gr<=12
 vn:vid e.nv=some e.q
 v5:vid e.w5=some e.i5
 v9:vid e.w9=some e.i9
 l7:SlR NoP 0 .nil e.us e.e7
structure MI (e:ME) (g:G) (V:Nat->AV) (W:Nat->List (List AV)) (c:Nat->Int) (ow:List Bool) (cap:Nat):Prop where
 h0:g.h.get 0=Y6 5 [e.row0]
 h1:g.h.get 1=Y6 3 [[ZJ 0,.nils,.nils]]
 hN:Own g 0 e.nv 4 (Ow e.n c V)
 h4:g.h.get e.p4=Y6 3 [[ZJ e.gr,V 0,e.nv]]
 h5:Own g 0 e.w5 4 e.prow
 h7:∃cc:Int,0<=cc/\cc<=(cap:Int)/\g.h.get e.p7=Y6 2 [[e.e7,ZJ cc]]
 h9:Own g 0 e.w9 1 (ow.map λx=>[.bool x])
 fam:Fam g e.b (3*e.n+1) V W
 nx:e.b<=g.nx
section
variable {e:ME}{g g':G}{V:Nat->AV}{W:Nat->List (List AV)}{c:Nat->Int}{ow:List Bool}{cap:Nat}
theorem gg{v:AV}{i j:Nat}(h:vid v=some i)(h':vid v=some j):i=j:=by rw[h]at h';injection h'
structure MP (e:ME) (g:G) (V V':Nat->AV) (W:Nat->List (List AV)) (c:Nat->Int) (ow:List Bool) (cap:Nat):Prop where
 h0:g.h.get 0=Y6 5 [e.row0]
 h1:g.h.get 1=Y6 3 [[ZJ 0,.nils,.nils]]
 hN:Own g 0 e.nv 4 (Ow e.n c V)
 h4:g.h.get e.p4=Y6 3 [[ZJ e.gr,V 0,e.nv]]
 h5:Own g 0 e.w5 4 e.prow
 h7:∃cc:Int,0<=cc/\cc<=(cap:Int)/\g.h.get e.p7=Y6 2 [[e.e7,ZJ cc]]
 h9:Own g 0 e.w9 1 (ow.map λx=>[.bool x])
 fam:Fam g e.b (3*e.n+1) V' W
 nx:e.b<=g.nx
end
end
end Hx
end
section
namespace Hx
open Go
noncomputable section
structure MD (e:ME) (W:Nat->List (List AV)) (R:List (List Int)) (F N O:Nat->List Int):Prop where
 r:All2 (Rp.rp NoP 0 .nil) R (W 0)
 f:∀i,i<e.n->W (3*i+1)=(F i).map ci
 n:∀i,i<e.n->W (3*i+2)=(N i).map ci
 o:∀i,i<e.n->W (3*i+3)=(O i).map ci
end
end Hx
end
section
namespace Hx
open Go
noncomputable section
theorem Qp{g:G}{b:Nat}(hb:b<=g.nx)(cs:List AV):Own (g.new (Y6 1 [cs])) b (.hsl g.nx 0 0 1 none) 1 [cs] :=
 .inr ⟨g.nx,0,false,hb,by simp,rfl,by simp[aJ]⟩
end
end Hx
end
section
namespace Hx
open Go
noncomputable section
theorem xA{α β γ:Type}{R:β->γ->Prop}{f:α->β}{h:α->γ}:∀{l:List α},(∀x∈l,R (f x) (h x))->All2 R (l.map f) (l.map h)
 |[],_=>trivial
 |a::l,hl=>⟨hl a (by simp),xA λx hx=>hl x (by simp[hx])⟩
end
end Hx
end
section
namespace Hx
open Go
noncomputable section
theorem SlR.wide{α:Type} [Rp α]{P:Nat->Prop}{k k':Nat}{h h':H}{l:List α}{v:AV}(r:SlR NoP k h l v)(hk:k<=k'):SlR P k' h' l v:=by obtain⟨w,hw,q⟩:=Rp.tree (P:=P) (k':=k') (h':=h') (show Rp.rp NoP k h l [v] from ⟨v,rfl,r⟩) hk;injection hw with hw;subst hw;exact q
structure M0 (n p4 q i5 p7:Nat) (nv w5 cl:AV) (row0:List AV) (prow:List (List AV)) (gr:Int) (g:G) (cf:Nat->Int):Prop where
 h0:g.h.get 0=Y6 5 [row0]
 h1:g.h.get 1=Y6 3 [[ZJ 0,.nils,.nils]]
 hN:Own g 2 nv 4 (Ow n cf λ_=>.nils)
 h4:g.h.get p4=Y6 3 [[ZJ gr,.nils,nv]]
 h5:Own g 2 w5 4 prow
 h7:g.h.get p7=Y6 2 [[cl,ZJ 0]]
 nx:p7<g.nx
section
variable {n p4 q i5 p7:Nat}{nv w5 cl:AV}{row0:List AV}{prow:List (List AV)}{gr:Int}{g g':G}{cf cf':Nat->Int}
end
end
end Hx
end
section
namespace Hx
open Go
noncomputable section
def eid:AV->Option Nat
 |.hsl id _ _ _ _=>some id
 |.hptr id _ _ _=>some id
 |_=>none
def Bx(g:G)(b:Nat)(v:AV)(row:List AV):Prop:=∃id,b<=id/\id<g.nx/\v=ZK id/\g.h.get id=Y6 row.length [row]
inductive En where
 |sl (sz:Nat) (rows:List (List AV))
 |bx (row:List AV)
def En.ok(g:G)(b:Nat)(v:AV):En->Prop
 |.sl sz rows=>Own g b v sz rows
 |.bx row=>Bx g b v row
theorem cp{g:G}{b:Nat}{v:AV}{sz:Nat}{rows:List (List AV)}(h:Own g b v sz rows):eid v=vid v:=by rcases h with⟨rfl,-⟩|⟨id,ep,lo,h1,h2,rfl,k⟩<;>rfl
theorem En.lt{g:G}{b:Nat}{v:AV}{e:En}(h:e.ok g b v){i:Nat}(hi:eid v=some i):b<=i/\i<g.nx:=by
 cases e with
 | sl sz rows =>
  have h:Own g b v sz rows:=h;rw[cp h]at hi;exact h.lt hi
 | bx row =>
  obtain⟨id,h1,h2,rfl,k⟩:=h;injection hi with hi;subst hi;exact⟨h1,h2⟩
theorem En.fr{g g':G}{b:Nat}{v:AV}{e:En}(h:e.ok g b v)(hn:g.nx<=g'.nx)(hf:∀i,eid v=some i->g'.h.get i=g.h.get i):e.ok g' b v:=by
 cases e with
 | sl sz rows =>
  have h:Own g b v sz rows:=h;exact h.fr hn λi hi=>hf i (by rw[cp h];exact hi)
 | bx row =>
  obtain⟨id,h1,h2,rfl,k⟩:=h;exact⟨id,h1,by omega,rfl,by rw[hf id rfl,k]⟩
section
variable {κ:Type}
structure Hp (g:G) (b:Nat) (L:κ->Prop) (V:κ->AV) (E:κ->En):Prop where
 ok:∀k,L k->(E k).ok g b (V k)
 sep:∀k l,L k->L l->k≠l->∀id,eid (V k)=some id->eid (V l)≠some id
 nx:b<=g.nx
variable {g g':G}{b:Nat}{L L':κ->Prop}{V:κ->AV}{E:κ->En}{k:κ}
theorem Hp.sub(h:Hp g b L V E)(hl:∀k,L' k->L k):Hp g b L' V E:=⟨λk hk=>h.ok k (hl k hk),λk l hk hl2=>h.sep k l (hl k hk) (hl l hl2),h.nx⟩
theorem Hp.step(h:Hp g b L V E)(hn:g.nx<=g'.nx)(hf:∀i,b<=i->i<g.nx->g'.h.get i=g.h.get i):Hp g' b L V E :=
 ⟨λk hk=>En.fr (h.ok k hk) hn λi hi=>hf i (En.lt (h.ok k hk) hi).1 (En.lt (h.ok k hk) hi).2,h.sep,VR h.nx hn⟩
theorem Hp.same(h:Hp g b L V E)(hf:g'.h=g.h)(hn:g.nx<=g'.nx):Hp g' b L V E:=h.step hn λi _ _=>by rw[hf]
theorem Hp.own(h:Hp g b L V E)(hk:L k){sz:Nat}{rows:List (List AV)}(he:E k=.sl sz rows):Own g b (V k) sz rows:=by have:=h.ok k hk;rw[he]at this;exact this
theorem Hp.box(h:Hp g b L V E)(hk:L k){row:List AV}(he:E k=.bx row):Bx g b (V k) row:=by have:=h.ok k hk;rw[he]at this;exact this
end
section
variable {κ:Type} [DecidableEq κ]
def ups{α:Type}(f:κ->α)(k:κ)(x:α):κ->α:=λj=>if j=k then x else f j
theorem ax{α:Type}(f:κ->α)(k:κ)(x:α):ups f k x k=x:=VC rfl
theorem ac{α:Type}(f:κ->α){k j:κ}(x:α)(h:j≠k):ups f k x j=f j:=Vz h
theorem O6{α:Type}{f:κ->α}{k:κ}{x:α}(h:f k=x):ups f k x=f:=by
 funext j;by_cases e:j=k
 ·subst e;rw[ax,h]
 ·exact ac _ _ e
variable {g g':G}{b:Nat}{L L':κ->Prop}{V:κ->AV}{E:κ->En}{k:κ}
theorem Hp.set(h:Hp g b L V E){v':AV}{e':En}(hk:L k)(ho:e'.ok g' b v')(hn:g.nx<=g'.nx)(hf:∀i,b<=i->i<g.nx->eid (V k)≠some i->g'.h.get i=g.h.get i)
  (hv:eid v'=eid (V k)\/∃i,eid v'=some i/\g.nx<=i):Hp g' b L (ups V k v') (ups E k e'):=by
 refine⟨λj hj=>?_,λj l hj hl hne id e1 e2=>?_,VR h.nx hn⟩
 ·by_cases e:j=k
  ·subst e;rw[ax,ax];exact ho
  ·rw[ac _ _ e,ac _ _ e];exact En.fr (h.ok j hj) hn λi hi=>hf i (En.lt (h.ok j hj) hi).1 (En.lt (h.ok j hj) hi).2 λe2=>h.sep j k hj hk e i hi e2
 ·have key:∀j,L j->j≠k->∀id,eid (V j)=some id->eid v'≠some id:=λj hj hne id e1 e2=>by
   rcases hv with hv|⟨i,hv,hi⟩
   ·exact h.sep j k hj hk hne id e1 (hv ▸ e2)
   ·rw[hv]at e2;injection e2 with e2;have:=(En.lt (h.ok j hj) e1).2;omega
  by_cases a:j=k
  ·subst a;rw[ax]at e1;rw[ac _ _ (WD hne)]at e2;exact key l hl (WD hne) id e2 e1
  ·rw[ac _ _ a]at e1
   by_cases c:l=k
   ·subst c;rw[ax]at e2;exact key j hj a id e1 e2
   ·rw[ac _ _ c]at e2;exact h.sep j l hj hl hne id e1 e2
theorem Hp.add(h:Hp g b L V E){v':AV}{e':En}(hk:¬L k)(ho:e'.ok g' b v')(hn:g.nx<=g'.nx)(hf:∀i,b<=i->i<g.nx->g'.h.get i=g.h.get i)
  (hv:∀i,eid v'=some i->g.nx<=i) (hl:∀j,L' j->L j\/j=k):Hp g' b L' (ups V k v') (ups E k e'):=by
 refine⟨λj a=>?_,λj l a hl2 hne id e1 e2=>?_,VR h.nx hn⟩
 ·rcases hl j a with a|rfl
  ·have e:j≠k:=λe=>hk (e ▸ a);rw[ac _ _ e,ac _ _ e];exact En.fr (h.ok j a) hn λi hi=>hf i (En.lt (h.ok j a) hi).1 (En.lt (h.ok j a) hi).2
  ·rw[ax,ax];exact ho
 ·have key:∀j,L j->∀id,eid (V j)=some id->eid v'≠some id:=λj a id e1 e2=>by have:=hv id e2;have:=(En.lt (h.ok j a) e1).2;omega
  rcases hl j a with a|rfl
  ·have e:j≠k:=λe=>hk (e ▸ a);rw[ac _ _ e]at e1;rcases hl l hl2 with hl2|rfl
   ·have e':l≠k:=λe=>hk (e ▸ hl2);rw[ac _ _ e']at e2;exact h.sep j l a hl2 hne id e1 e2
   ·rw[ax]at e2;exact key j a id e1 e2
  ·rw[ax]at e1;rcases hl l hl2 with hl2|rfl
   ·have e':l≠j:=λe=>hne e.symm;rw[ac _ _ e']at e2;exact key l hl2 id e2 e1
   ·exact hne rfl
theorem Hp.app(h:Hp g b L V E)(hk:L k){sz bytes:Nat}{rows new:List (List AV)}(he:E k=.sl sz rows){x:AV}{K:AV->G->Prop}{D:ADf->Prop}(hx:ak g.h sz x=some new)
  (hr:(rows.length+new.length)*bytes<=aT)
  (kk:∀v' g',Hp g' b L (ups V k v') (ups E k (.sl sz (rows++new)))->g.nx<=g'.nx->(∀i,i<b->g'.h.get i=g.h.get i)->(∀i,i<g.nx->eid (V k)≠some i->g'.h.get i=g.h.get i)->(∀i∈g'.lg,i∈g.lg\/b<=i)->v'.cells=[v']->v'.isTup=false->K v' g') :
  (cW sz bytes (V k) x g).sat K g D:=by
 have ho:=h.own hk he;refine aM ho hx h.nx hr λv' g' hv' hn hf hvid hlg=>?_;refine kk v' g' (h.set hk (e':=.sl sz (rows++new)) hv' hn (λi _ hi hne=>hf i hi (by rw[<-cp ho];exact hne)) ?_) hn (λi hi=>hf i (VL hi h.nx) λe=>by have:=(ho.lt e).1;omega)
  (λi hi hne=>hf i hi (by rw[<-cp ho];exact hne)) hlg hv'.cell.1 hv'.cell.2
 rw[cp hv',cp ho];exact hvid
theorem Hp.put(h:Hp g b L V E)(hk:L k){sz n i off:Nat}{rows:List (List AV)}{row row':List AV}(he:E k=.sl sz rows){x:AV}{K:AV->G->Prop}{D:ADf->Prop}(hr:rows[i]?=some row)
  (hl:x.cells.length=n) (ht:x.isTup=false) (hp:bu row off x.cells=some row')
  (kk:∀g',Hp g' b L V (ups E k (.sl sz (rows.set i row')))->g'.nx=g.nx->(∀i,i<b->g'.h.get i=g.h.get i)->(∀i,eid (V k)≠some i->g'.h.get i=g.h.get i)->K .undef g'):(jV n (eJ sz (V k) i off) x g).sat K g D:=by
 have ho:=h.own hk he;refine bK ho hr hl ht hp λg' hv' hn hf=>?_;have:=h.set hk (e':=.sl sz (rows.set i row')) hv' (by omega) (λi _ hi hne=>hf i (by rw[<-cp ho];exact hne)) (.inl rfl);rw[O6 (f:=V) rfl]at this;exact kk g' this hn (λi hi=>hf i λe=>by have:=(ho.lt e).1;omega) λi hne=>hf i (by rw[<-cp ho];exact hne)
theorem Hp.putb(h:Hp g b L V E)(hk:L k){row row':List AV}(he:E k=.bx row){id:Nat}(hv:V k=ZK id)(hl:row'.length=row.length):Hp (g.put id (Y6 row.length [row'])) b L V (ups E k (.bx row')):=by
 obtain⟨id',h1,h2,a,h4⟩:=h.box hk he;rw[hv]at a;injection a with a;subst a;have:=h.set (g':=g.put id (Y6 row.length [row'])) hk (e':=.bx row') (v':=ZK id) ⟨id,h1,by simpa using h2,rfl,by rw[hl];simp[aJ]⟩ (by simp) (λi _ hi hne=>by
  rw[G.put_h,af _ _ _ (λe=>hne (by rw[hv,e];rfl))]) (.inl (by rw[hv]))
 rw[O6 (f:=V) hv]at this;exact this
end
end
end Hx
end
section
namespace Hx
open Go
noncomputable section
theorem aL{C:Cfg}{d:Nat}{rd:Option Nat}{l:List SI}{b:SC}{Q:QT}{t:T}{df:List ADf}{g:G}{P:PT}(h1:wpO C d rd l P t df g)(h2:∀t df g,P t df g->wp C d rd b Q t df g):wp C d rd (ZI (.ops l) b) Q t df g:=by
 rw[jl];have:wp C d rd (.ops l) (λe t df g=>e=.norm/\P t df g) t df g:=by rw[E8];simpa using h1
 refine bX _ this ?_;rintro e t df g ⟨rfl,h⟩;exact h2 t df g h
structure Bnd (K:Nat) (m:Causal):Prop where
 r:m.roots.length<=K
 rr:∀x∈m.roots,x.length<=K
 n:m.nodes.length<=K
 f:∀x∈m.nodes,x.frm.length<=K/\x.noise.length<=K/\x.out.length<=K
abbrev Ky:Type:=Nat×Nat
structure BD (K R n:Nat) (V:Ky->AV) (E:Ky->En) (Rt:Nat->List Int) (c:Nat->Int) (F:Nat->Nat->List Int):Prop where
 r:∀i,i<R->E (0,i)=.sl 1 ((Rt i).map ci)/\(Rt i).length<=K
 f:∀q i,1<=q->q<=3->i<n->E (q,i)=.sl 1 ((F q i).map ci)/\(F q i).length<=K
 rs:E (4,0)=.sl 1 ((List.range R).map λi=>[V (0,i)])
 ns:E (4,1)=.sl 4 ((List.range n).map λi=>[ZJ (c i),V (1,i),V (2,i),V (3,i)])
end
end Hx
end
section
namespace Hx
open Go
noncomputable section
structure TI (g:G) (q:Nat) (m:Causal) (k1 k2 act u1 u2 u3:AV) (A B W:List Int):Prop where
 a1:g.h.get 1=Y6 1 [[act]]
 a2:g.h.get 2=Y6 3 [[.nils,.nils,.nils]]
 a4:g.h.get 4=Y6 4 [[ZJ m.grain,k1,k2,ZJ (S.Vj m)]]
 bq:g.h.get q=Y6 3 [[u1,u2,u3]]
 o1:Own g 5 u1 1 (A.map ci)
 o2:Own g 5 u2 1 (B.map ci)
 o3:Own g 5 u3 1 (W.map ci)
 q5:5<=q/\q<g.nx
 n1:∀i,vid u1=some i->i≠q/\vid u2≠some i/\vid u3≠some i
 n2:∀i,vid u2=some i->i≠q/\vid u3≠some i
 n3:∀i,vid u3=some i->i≠q
section
variable {g g':G}{q:Nat}{m:Causal}{k1 k2 act u1 u2 u3:AV}{A B W:List Int}
end
end
end Hx
end
section
namespace Hx
open Go
noncomputable section
theorem bB{C:Cfg}{d:Nat}{rd:Option Nat}{a b:SC}{Q:QT}{t:T}{df:List ADf}{g:G}{P:PT}(h1:wp C d rd a (λe t df g=>e=.norm/\P t df g) t df g)(h2:∀t df g,P t df g->wp C d rd b Q t df g):wp C d rd (.seq a b) Q t df g:=by rw[jl];refine bX _ h1 ?_;rintro e t df g ⟨rfl,h⟩;exact h2 t df g h
end
end Hx
end
section
namespace Hx
open Go
noncomputable section
abbrev QI:=Int×Int
theorem pz{x:QI}{P:Nat->Prop}{k:Nat}{h:H}{v:AV}:Agg x P k h v↔v=.agg [ZJ x.1,ZJ x.2]:=by
 constructor
 ·rintro⟨cs,rfl,hc⟩;obtain⟨a,b,rfl,h1,h2⟩:=ou.1 hc;rw[aW.1 h1,aW.1 h2];rfl
 ·rintro rfl;exact⟨_,rfl,ou.2 ⟨[ZJ x.1],[ZJ x.2],rfl,aW.2 rfl,aW.2 rfl⟩⟩
def S.T9(n d:Nat):QI:=(((n / Nat.gcd n d:Nat):Int),((d / Nat.gcd n d:Nat):Int))
end
end Hx
end
section
namespace Hx
open Go
noncomputable section
end
end Hx
end
section
namespace Hx
open Go
noncomputable section
end
end Hx
end
section
namespace Hx
open Go
noncomputable section
end
end Hx
end
section
namespace Hx
open Go
noncomputable section
end
end Hx
end
section
namespace Hx
open Go
noncomputable section
def S.UZ(vals e:List Int)(i:Nat):Bool:=decide (e[i]?.getD 0<0) || decide (e[i]?.getD 0=vals[i]?.getD 0)
def S.T_(vals e:List Int):Bool:=(List.range e.length).all (S.UZ vals e)
end
end Hx
end
section
namespace Hx
open Go
noncomputable section
theorem SlR.far8{α:Type} [Rp α]{P:Nat->Prop}{k:Nat}{h h':H}{l:List α}{v:AV}(r:SlR P k h l v)(hf:∀i,P i->h'.get i=h.get i):SlR P k h' l v:=by obtain⟨w,e,q⟩:=Rp.mono (P':=P) (k':=k) (h':=h') (show Rp.rp P k h l [v] from ⟨v,rfl,r⟩) (λi hi=>⟨hi,hf i hi⟩) (Vu _);injection e with e;subst e;exact q
end
end Hx
end
section
namespace Hx
open Go
noncomputable section
end
end Hx
end
section
namespace Hx
open Go
noncomputable section
def S.Vq(s a:List Int):List Int:=(List.range s.length).map λi=>if a[i]?.getD 0<0 then -1 else s[i]?.getD 0
end
end Hx
end
section
namespace Hx
open Go
noncomputable section
theorem rH{α:Type}{C:α->Prop}{S:α->VS}{j:Nat}(h:∀a,Snb (S a) j):Snb (λP k h v=>∃a,C a/\S a P k h v) j :=
 ⟨λ{P k hh v n} d r hn=>by
  obtain⟨a,c,r⟩:=r;obtain⟨v',e,r'⟩:=(h a).snap d r hn;exact⟨v',e,a,c,r'⟩,λ{k hh v n} r hn=>by
  obtain⟨a,c,r⟩:=r;exact (h a).tag r hn⟩
theorem ub:∀{A L:List Nat},A.Nodup->(∀v∈A,v∈L)->A.length<=L.length
 |[],_,_,_=>Wp _
 | a::A,L,hA,h=>by rw[Yx]at hA;have ha:=h a (by simp);have:=ub (A:=A) (L:=L.erase a) hA.2 λv hv=>(List.mem_erase_of_ne (λe=>hA.1 (by rw[<-e];exact hv))).2 (h v (by simp[hv]));rw[List.length_erase_of_mem ha]at this;have:=List.length_pos_of_mem ha;simp only[Wd];omega
def Ord(p:List Nat)(L:List Nat):Prop:=(∀v,v<p.length->v∈L)/\∀(i v:Nat),L[i]?=some v->v<p.length/\∀q,(Par p v).testBit q=true->q∈L.take i
def KA(p:List Nat)(L:List Nat):Prop:=L.Nodup/\∀(i v:Nat),L[i]?=some v->v<p.length/\∀q,(Par p v).testBit q=true->q∈L.take i
theorem N6{p L:List Nat}(h:KA p L):L.length<=p.length:=by
 have:=ub (L:=List.range p.length) h.1 λv hv=>by obtain⟨i,hi,rfl⟩:=XQ.1 hv;exact VM.2 (h.2 i _ (Vt hi)).1
 simpa using this
theorem Ll{p L:List Nat}(h:KA p L){v:Nat}(hv:v ∉ L)(hl:v<p.length)(hp:∀q,(Par p v).testBit q=true->q∈L):KA p (L++[v]):=by
 refine⟨?_,λi u hu=>?_⟩
 ·rw[List.nodup_append];exact⟨h.1,by simp,λa ha b hb=>by simp at hb;subst hb;exact λe=>hv (e ▸ ha)⟩
 ·rcases XI i L.length with hi|hi
  ·rw[VO hi]at hu;obtain⟨h1,h2⟩:=h.2 i u hu;exact⟨h1,λq hq=>by rw[List.take_append_of_le_length (by omega)];exact h2 q hq⟩
  ·rw[VW hi]at hu;have:i=L.length:=by have:=(Vv.1 hu).1;simp at this;omega
   subst this;simp at hu;subst hu;exact⟨hl,λq hq=>by rw[List.take_left];exact hp q hq⟩
theorem Lk{p L:List Nat}(h:KA p L)(hl:p.length<=L.length):Ord p L:=by
 refine⟨λv hv=>?_,h.2⟩
 by_cases hm:v∈L
 ·exact hm
 ·have:=ub (A:=v::L) (L:=List.range p.length) (Yx.2 ⟨hm,h.1⟩) λu hu=>by
   rcases VP.1 hu with rfl|hu
   ·exact VM.2 hv
   ·obtain⟨i,hi,rfl⟩:=XQ.1 hu;exact VM.2 (h.2 i _ (Vt hi)).1
  simp at this;omega
theorem Qb{p L:List Nat}(h:KA p L)(hl:L.length<p.length):∃v,v<p.length/\v ∉ L:=by
 by_cases hh:∃v,v<p.length/\v ∉ L
 ·exact hh
 ·exfalso;have:=ub (A:=List.range p.length) (L:=L) YJ λv hv=>by
   by_cases h':v∈L
   ·exact h'
   ·exact absurd ⟨v,VM.1 hv,h'⟩ hh
  simp at this;omega
def RG(D:Nat)(L:List Nat):Prop:=D<18446744073709551616/\∀v,D.testBit v=true↔v∈L
theorem LE{D:Nat}{L:List Nat}(h:RG D L){v:Nat}(hv:v<64):RG (D ||| S.TT v) (L++[v]):=by
 refine⟨JV h.1 (oD v),λu=>?_⟩;rw[dJ,sO hv,Wh,h.2,VK,V7,VY];constructor
 ·rintro (h|h)
  ·exact .inl h
  ·exact .inr h.symm
 ·rintro (h|h)
  ·exact .inl h
  ·exact .inr h.symm
end
end Hx
end
section
namespace Hx
open Go
noncomputable section
end
end Hx
end
section
namespace Hx
open Go
noncomputable section
theorem Q9{g g':G}(hn:g.nx<=g'.nx)(h:∀i,i<g.nx->g'.h.get i=g.h.get i):Fr g g':=⟨hn,h⟩
theorem kU{C:Cfg}{d:Nat}{rd:Option Nat}{body:SC}{c ti k B b:Nat}{Q:QT}{m:Nat}{lim:Int}(hlim:lim=(m:Int))(hm:m<9223372036854775808)(J:Nat->PT){t:T}{df:List ADf}{g:G}
  (h0:J 0 t df g) (hi:tat t ti=ZJ 0) (hc:c≠ti/\b≠B)
  (hJ:∀j t df g v s,s=c\/s=ti\/s=k->J j t df g->J j (eQ t s v) df g)
  (step:∀j t df g,j<m->J j t df g->tat t ti=ZJ (j:Int)->wp C d rd body (kR (λt df g=>J (j+1) t df g/\tat t ti=ZJ (j:Int)) b Q) t df g)
  (fin:∀t df g,J m t df g->Q (.exit B) t df g) :
  wpL (wp C d rd (ZI (.ops [o c (.bin .lss (.t ti) (.k (ZJ lim)))]) (ZI (.cond (.t c) .skip (.exit B)) (ZI (.blk b body) (.ops [o k (.bin .add (.t ti) (.k (ZJ 1))),o ti (.mv (.t k))]))))) Q t df g:=by
 subst hlim;obtain⟨c1,f⟩:=hc;refine it (λn t df g=>∃j:Nat,n=m - j/\j<=m/\J j t df g/\tat t ti=ZJ (j:Int)) m ⟨0,by omega,by omega,h0,hi⟩ ?_;rintro n t df g ⟨j,rfl,i,a,h1⟩;simp only[sz,simprocAttr,h1];refine⟨λhq=>?_,λhq=>?_⟩
 ·have hlt:j<m:=by simpa using hq
  simp only[sx];refine bX _ (step j _ df g hlt (hJ _ _ _ _ _ _ (.inl rfl) a) (by simp only[kP];rw[Vz (WD c1),h1])) λe t df g h=>?_;have key:J (j+1) t df g/\tat t ti=ZJ (j:Int)->wp C d rd (.ops [o k (.bin .add (.t ti) (.k (ZJ 1))),o ti (.mv (.t k))])
    (kL (λn t df g=>∃j:Nat,n=m - j/\j<=m/\J j t df g/\tat t ti=ZJ (j:Int)) (m - j) Q) t df g:=by
   rintro⟨a1,a2⟩;simp only[sz,simprocAttr,a2];refine⟨_,?_,j+1,rfl,by omega,hJ _ _ _ _ _ _ (.inr (.inl rfl)) (hJ _ _ _ _ _ _ (.inr (.inr rfl)) a1),?_⟩
   ·omega
   ·rw[ap (by omega) (by omega)];rfl
  cases e with
  |norm=>exact key h
  |ret=>exact h
  | exit x =>
   rw[oo]at h;rw[rh]
   split at h
   ·rename_i e;rw[VC e];exact key h
   ·rename_i e;rw[Vz e];exact h
 ·have:j=m:=by simp at hq;omega
  subst this;simp only[sx];exact fin _ _ _ (hJ _ _ _ _ _ _ (.inl rfl) a)
section
variable {m:Causal}{c1 c2 l w c9 v35 ls v48:AV}{al:List Int}{hid kk:Int}{p:Nat}
end
end
end Hx
end
section
namespace Hx
open Go
noncomputable section
theorem rk(l:List Int)(j:Nat)(x:Int):(l.map ci).set j (ci x)=(l.set j x).map ci:=by rw[Xa]
end
end Hx
end
section
namespace Hx
open Go
noncomputable section
theorem zT{x y:Nat}(hy:0<y):bQ .rem (ZJ (x:Int)) (ZJ (y:Int))=.val (ZJ ((x % y:Nat):Int)):=by rw[cX .i64 (X4 x) (by omega),<-Int.natCast_emod]
end
end Hx
end
section
namespace Hx
open Go
noncomputable section
def S.UH:Nat->Nat->List Int
 |0,_=>[]
 |f+1,n=>if n=0 then [] else ((n % 10000:Nat):Int)::S.UH f (n / 10000)
def S.dg(n:Nat):List Int:=S.UH 12 n
theorem FB:∀{f n:Nat},n<10000 ^ f->S.UH (f+1) n=S.UH f n
 | 0,n,h=>by
  have:n=0:=by simp at h;exact h
  subst this;rfl
 | f+1,n,h=>by
  have ih:=FB (f:=f) (n:=n / 10000) (by rw[Xz]at h;exact (Nat.div_lt_iff_lt_mul (by decide)).2 h);rw[S.UH]
  by_cases h0:n=0
  ·rw[VC h0,S.UH,VC h0]
  ·rw[Vz h0,ih]
   conv=>rhs;rw[S.UH,Vz h0]
theorem lW{n:Nat}(h0:n≠0)(h:n<1000000000000000000000000000000000000000000000000):S.dg n=((n % 10000:Nat):Int)::S.dg (n / 10000):=by have e:=FB (f:=12) (n:=n) h;unfold S.dg;rw[<-e];rw[S.UH,Vz h0]
theorem nN:S.dg 0=[]:=rfl
theorem Je:∀(f n:Nat),(S.UH f n).length<=f
 |0,_=>Vu _
 | f+1,n=>by
  rw[S.UH]
  split
  ·simp
  ·have:=Je f (n / 10000);simp;omega
theorem k_(n:Nat):(S.dg n).length<=12:=Je 12 n
theorem JR{x:Nat}(h:x<9223372036854775808):unV .neg (ZJ (x:Int))=.val (ZJ (-(x:Int))):=by
 have e:unV .neg (ZJ (x:Int))=.val (ZJ (IntKind.wrap .i64 (-(x:Int)))):=by
  cases x with
  |zero=>rfl
  | succ n =>
   show orV (qw (Op.unary .neg (.int .i64 (.ofNat (n+1)))))=_;unfold qw Op.unary
   rfl
 rw[e,ap (by omega) (by omega)]
theorem ug{x y:Nat}(hx:x<9223372036854775808)(hy:0<y):bQ .quo (ZJ (x:Int)) (ZJ (y:Int))=.val (ZJ ((x / y:Nat):Int)):=by have h:x / y<=x:=W8 _ _;rw[DG .i64 (X4 x) (by omega),<-Int.natCast_ediv];generalize x / y=z at h;rw[ap (by omega) (by omega)]
theorem xT{d:Nat}{g:G}{n:Nat}(hd:0<d)(hn:n<9223372036854775808):∃r,am C0 d 94 [ZJ (n:Int)] g=.val r/\IT 0 (S.dg n) r:=by
 rw[wn];refine a_ zg (xs:=[ZJ (n:Int)]) (by simp only[aG,bS 0]) (by simp[mH]) (aY _) (by decide) hd ?_;simp only[sz,simprocAttr,mH];refine it (λk t df g=>df=[]/\k<9223372036854775808/\St t [(0,ZJ (k:Int))]/\∃u L,tat t 3=u/\Own g 0 u 1 ((L:List Int).map ci)/\L++S.dg k=S.dg n) n
  ⟨rfl,hn,by simp[sx,St],_,[],rfl,.inl ⟨by simp[sx],rfl⟩,rfl⟩ ?_
 rintro k t df g ⟨rfl,hk,⟨h0,-⟩,u,L,m,hu,c⟩;have a:L.length+(S.dg k).length=(S.dg n).length:=by rw[<-c,Wr]
 have o:=k_ n;simp only[sz,simprocAttr,nP,h0];refine aX (λhq=>?_) (λhq=>?_)
 ·have h:k≠0:=by simp at hq;omega
  have b:=lW h (by omega);have j:=zT (x:=k) (y:=10000) (by decide);have l:=ug (x:=k) (y:=10000) hk (by decide);have hm:=WP k (show 0<10000 by decide);have f:=JR (x:=k % 10000) (by omega);have e:max ((k % 10000:Nat):Int) (-((k % 10000:Nat):Int))=((k % 10000:Nat):Int):=by omega
  have i:k / 10000<k:=Nat.div_lt_self (by omega) (by decide);generalize k % 10000=r at *;generalize k / 10000=q at *;have j:bQ .rem (ZJ (k:Int)) (ZJ 10000)=.val (ZJ (r:Int)):=j;have l:bQ .quo (ZJ (k:Int)) (ZJ 10000)=.val (ZJ (q:Int)):=l;simp only[sz,simprocAttr,h0,m,j,f,e];have p:L.length<(S.dg n).length:=by rw[b]at a;simp at a;omega
  refine aM (new:=[ci (r:Int)]) (hu.step (Fr.new _ _)) (by simp[sx,sy,ci]) (by simp<;>omega) (by simp[aT]<;>omega) λv2 g2 hv2 n2 f2 _ l2=>?_;simp only[sz,simprocAttr,h0,l,St];refine⟨q,i,by omega,?_,v2,L++[(r:Int)],?_,?_,?_⟩
  ·simp[sx]
  ·simp[sx]
  ·simpa using hv2
  ·rw[W5,List.singleton_append,<-b,c]
 ·have h:k=0:=by simp at hq;omega
  subst h;rw[nN,VV]at c;subst c;simp only[sz,simprocAttr,nQ,m];exact⟨_,hu.ints (by omega)⟩
end
end Hx
end
section
namespace Hx
open Go
noncomputable section
def S.TB:List Int->Int
 |[]=>0
 |x::l=>x+10000*S.TB l
theorem JA{a b:Nat}(h:a<=b):(10000:Int) ^ a<=10000 ^ b:=by rw[show (10000:Int)=((10000:Nat):Int) from rfl,<-Int.natCast_pow,<-Int.natCast_pow];exact Int.ofNat_le.2 (V_ (by decide) h)
theorem HE{P:Nat->Prop}(h0:P 0)(hs:∀n,n≠0->P (n / 10000)->P n):∀n,P n:=by
 intro n
 induction n using Nat.strongRecOn with
 | ind n ih =>
  by_cases h:n=0
  ·subst h;exact h0
  ·exact hs n h (ih _ (Nat.div_lt_self (by omega) (by decide)))
theorem qK:∀n:Nat,n<1000000000000000000000000000000000000000000000000->S.TB (S.dg n)=(n:Int):=by refine HE (λ_=>rfl) λn h0 ih hn=>?_;have hl:=W8 n 10000;rw[lW h0 hn,S.TB,ih (by omega)];have:=WW n 10000;omega
theorem uZ:∀n:Nat,n<1000000000000000000000000000000000000000000000000->∀x∈S.dg n,0<=x/\x<10000:=by
 refine HE (λ_ x hx=>by simp[nN]at hx) λn h0 ih hn x hx=>?_;have hl:=W8 n 10000;have hm:=WP n (show 0<10000 by decide);rw[lW h0 hn]at hx;rcases VP.1 hx with rfl|hx
 ·omega
 ·exact ih (by omega) x hx
theorem mw:∀(l r:List Int),S.TB (l++r)=S.TB l+10000 ^ l.length*S.TB r
 |[],r=>by simp[S.TB]
 | x::l,r=>by rw[VE,S.TB,S.TB,mw l r,Wd,Yn,YY,<-Xi,Xt 10000 (10000 ^ l.length)];omega
theorem my:∀{l:List Int},(∀x∈l,0<=x/\x<10000)->0<=S.TB l/\S.TB l<10000 ^ l.length
 |[],_=>by simp[S.TB]
 | x::l,h=>by have h1:=my (l:=l) λy hy=>h y (by simp[hy]);have h2:=h x (by simp);rw[S.TB,Wd,Yn];omega
theorem Jg:∀{l:List Int},(∀x∈l,0<=x/\x<10000)->l.getLast?≠some 0->l.length<=12->S.dg (S.TB l).toNat=l
 |[],_,_,_=>rfl
 | x::l,h,hz,hl=>by
  have h2:=h x (by simp);have hr:∀y∈l,0<=y/\y<10000:=λy hy=>h y (by simp[hy]);have hb:=my hr;have a:=my h;have k:l.getLast?≠some 0:=by
   cases l with
   |nil=>simp
   |cons y l=>rw[List.getLast?_cons_cons]at hz;exact hz
  have ih:=Jg hr k (by simp at hl;omega);have b:S.TB (x::l)≠0:=by
   intro e;rw[S.TB]at e;have e1:x=0:=by omega
   have e2:S.TB l=0:=by omega
   rw[e2]at ih;have:l=[]:=ih.symm;subst this;subst e1;exact hz rfl
  have hlt:(S.TB (x::l)).toNat<1000000000000000000000000000000000000000000000000:=by
   have:(10000:Int) ^ (x::l).length<=10000 ^ 12:=JA hl;have:(10000:Int) ^ 12=1000000000000000000000000000000000000000000000000:=by decide
   omega
  rw[lW (by omega) hlt];have ed:S.TB (x::l)=x+10000*S.TB l:=rfl;have ed:S.TB (x::l)=x+10000*S.TB l:=rfl;have e:(S.TB (x::l)).toNat=x.toNat+10000*(S.TB l).toNat:=by rw[ed];omega
  rw[e];have e1:(x.toNat+10000*(S.TB l).toNat) % 10000=x.toNat:=by omega
  have e2:(x.toNat+10000*(S.TB l).toNat) / 10000=(S.TB l).toNat:=by omega
  rw[e1,e2,ih,Yq h2.1]
end
end Hx
end
section
namespace Hx
open Go
noncomputable section
def S.UK(l:List Int):Nat->List Int
 |0=>[]
 |j+1=>if l[j]?.getD 0=0 then S.UK l j else l.take (j+1)
def S.UQ(l:List Int):List Int:=S.UK l l.length
end
end Hx
end
section
namespace Hx
open Go
noncomputable section
theorem Jh{n:Nat}(h0:n≠0)(h:n<1000000000000000000000000000000000000000000000000):0<(S.dg n).length:=by rw[lW h0 h];simp
theorem PD:∀n:Nat,n<1000000000000000000000000000000000000000000000000->(S.dg n).getLast?≠some 0:=by
 refine HE (λ_=>by simp[nN]) λn h0 ih hn=>?_;have hl:=W8 n 10000;have ih:=ih (by omega);rw[lW h0 hn]
 by_cases hz:n / 10000=0
 ·rw[hz,nN];simp only[List.getLast?_singleton];have:=WW n 10000;intro e;injection e with e;omega
 ·have h1:=Jh hz (by omega);obtain⟨y,l,e⟩:∃y l,S.dg (n / 10000)=y::l:=by
   cases h:S.dg (n / 10000) with
   |nil=>rw[h]at h1;simp at h1
   |cons y l=>exact⟨y,l,rfl⟩
  rw[e]at ih ⊢;rw[List.getLast?_cons_cons];exact ih
theorem uY:∀(i n:Nat),n<1000000000000000000000000000000000000000000000000->(S.dg n)[i]?.getD 0=((n / 10000 ^ i % 10000:Nat):Int)
 | 0,n,hn=>by
  by_cases h0:n=0
  ·subst h0;rfl
  ·rw[lW h0 hn];simp
 | i+1,n,hn=>by
  have hl:=W8 n 10000
  by_cases h0:n=0
  ·subst h0;simp[nN]
  ·rw[lW h0 hn,Wn,uY i _ (by omega),Xz,Xy,<-WZ]
theorem Jf:∀(i n:Nat),n<1000000000000000000000000000000000000000000000000->(S.dg n).drop i=S.dg (n / 10000 ^ i)
 |0,n,hn=>by simp
 | i+1,n,hn=>by
  have hl:=W8 n 10000
  by_cases h0:n=0
  ·subst h0;simp[nN]
  ·rw[lW h0 hn,Yr,Jf i _ (by omega),Xz,Xy,<-WZ]
theorem wG{n:Nat}(h:n<1000000000000000000000000000000000000000000000000):n<10000 ^ (S.dg n).length:=by have h1:=(my (uZ n h)).2;rw[qK n h]at h1;exact Int.ofNat_lt.1 (by rw[Int.natCast_pow];exact h1)
theorem Em:∀{l:List Int},(∀x∈l,0<=x/\x<10000)->l.getLast?≠some 0->0<l.length->10000 ^ (l.length - 1)<=S.TB l
 |[],_,_,h=>by simp at h
 | [x],h,hz,_=>by have:=h x (by simp);have:x≠0:=λe=>hz (by rw[e];rfl);simp only[S.TB,XC,WR,Int.pow_zero];omega
 | x::y::l,h,hz,_=>by have h1:=Em (l:=y::l) (λz hz=>h z (by simp[hz])) (by rw[List.getLast?_cons_cons]at hz;exact hz) (by simp);have:=h x (by simp);rw[S.TB];simp only[Wd,Yw]at h1 ⊢;rw[Yn];omega
theorem Q4{n:Nat}(h:n<1000000000000000000000000000000000000000000000000)(h0:n≠0):10000 ^ ((S.dg n).length - 1)<=n:=by have h1:=Em (uZ n h) (PD n h) (Jh h0 h);rw[qK n h]at h1;exact Int.ofNat_le.1 (by rw[Int.natCast_pow];exact h1)
theorem xR{a b:Nat}(ha:a<1000000000000000000000000000000000000000000000000)(hb:b<1000000000000000000000000000000000000000000000000)(h:(S.dg a).length<(S.dg b).length):a<b:=by
 have h1:=wG ha;have h0:b≠0:=λe=>by subst e;simp[nN]at h
 have h2:=Q4 hb h0;have k:10000 ^ (S.dg a).length<=10000 ^ ((S.dg b).length - 1):=V_ (by decide) (by omega);omega
theorem KQ{a b:Nat}(ha:a<1000000000000000000000000000000000000000000000000)(hb:b<1000000000000000000000000000000000000000000000000)(h:a<=b):(S.dg a).length<=(S.dg b).length :=
 Nat.le_of_not_lt λe=>by have:=xR hb ha e;omega
def S.Uz(a b:Nat):Int:=if a<b then -1 else if a=b then 0 else 1
theorem Mo{a b i:Nat}(h:a / 10000 ^ (i+1)=b / 10000 ^ (i+1))(h2:a / 10000 ^ i % 10000<b / 10000 ^ i % 10000):a<b:=by rw[Xz,<-WZ,<-WZ]at h;refine Nat.lt_of_not_le λe=>?_;have:=Nat.div_le_div_right (c:=10000 ^ i) e;have k:=WW (a / 10000 ^ i) 10000;have h4:=WW (b / 10000 ^ i) 10000;omega
theorem RQ{a b i:Nat}(h:a / 10000 ^ (i+1)=b / 10000 ^ (i+1))(h2:a / 10000 ^ i % 10000=b / 10000 ^ i % 10000):a / 10000 ^ i=b / 10000 ^ i:=by rw[Xz,<-WZ,<-WZ]at h;have k:=WW (a / 10000 ^ i) 10000;have h4:=WW (b / 10000 ^ i) 10000;omega
theorem CP(l:List Int):∀{j:Nat},j<=l.length->∃m,m<=j/\S.UK l j=l.take m/\S.TB (l.take m)=S.TB (l.take j)/\(l.take m).getLast?≠some 0
 |0,_=>⟨0,Vu _,by simp[S.UK],rfl,by simp⟩
 | j+1,h=>by
  obtain⟨x,hx,ht,-⟩:=ae (l:=l) (j:=j) (by omega)
  by_cases h0:x=0
  ·obtain⟨m,h1,h2,k,h4⟩:=CP l (j:=j) (by omega);refine⟨m,by omega,?_,?_,h4⟩
   ·rw[S.UK,hx,VB,VC h0,h2]
   ·rw[k,ht,mw,h0];simp[S.TB]
  ·refine⟨j+1,Vu _,?_,rfl,?_⟩
   ·rw[S.UK,hx,VB,Vz h0]
   ·rw[ht,List.getLast?_concat];simpa using h0
theorem Ay{l:List Int}{n:Nat}(h:∀x∈l,0<=x/\x<10000)(hv:S.TB l=(n:Int))(hn:n<1000000000000000000000000000000000000000000000000):S.UQ l=S.dg n:=by
 obtain⟨m,h1,h2,a,h4⟩:=CP l (Vu l.length);rw[Wa,hv]at a;have hr:∀x∈l.take m,0<=x/\x<10000:=λx hx=>h x (WL hx);have k:(l.take m).length<=12:=by
  refine Nat.le_of_not_lt λe=>?_;have h5:=Em hr h4 (by omega);rw[a]at h5;have b:(10000:Int) ^ 12<=10000 ^ ((l.take m).length - 1):=JA (by omega);have:(10000:Int) ^ 12=1000000000000000000000000000000000000000000000000:=by decide
  omega
 have h7:=Jg hr h4 k;rw[a]at h7;rw[S.UQ,h2,<-h7]
 rfl
end
end Hx
end
section
namespace Hx
open Go
noncomputable section
theorem Az{d:Nat}{g:G}{b:Nat}{v:AV}{l:List Int}{K:AV->G->Prop}{D:ADf->Prop}(hv:Own g b v 1 (l.map ci))(hl:l.length<9223372036854775808)
  (k:∀v',SlR (λi=>vid v=some i) 0 g.h (S.UQ l) v'->K v' g):(am C0 d 122 [v] g).sat K g D:=by
 rw[An];refine fX DX (by simp[tc]) ?_;simp only[sz,simprocAttr,tc,td];rcases hv with⟨rfl,e⟩|⟨id,ep,lo,h1,h2,rfl,o⟩
 ·have:l=[]:=by simpa using e
  subst this;have k:=k .nils ⟨by show 0<9223372036854775808;decide,rfl⟩;refine it (λn t df g'=>df=[]/\g'=g/\St t [(0,.nils)]) 0 ⟨rfl,rfl,by simp[sx,St]⟩ ?_;rintro n t df g' ⟨rfl,rfl,h0,-⟩;simp only[sz,simprocAttr,iV,h0,dH,Int.lt_irrefl];exact k
 ·rw[VF]at *;have key:∀n≤l.length,ak g.h 1 (.hsl id ep 0 n none)=some ((l.take n).map ci):=λn f=>by rw[eI,o,cN,VC (by simp;omega),Xp,Yy]
  have sl:∀n≤l.length,SlR (λi=>vid (.hsl id ep 0 l.length none)=some i) 0 g.h (l.take n) (.hsl id ep 0 n none):=λn f =>
   ⟨by rw[Wf];omega,rfl,_,key n f,Tx (λa=>aW.2 rfl) _⟩
  have slc:∀n c:Nat,n<=l.length->c<n->tR 1 (.hsl id ep 0 n none) none (some (ZJ (c:Int))) g=.val (.hsl id ep 0 c none):=λn c f hc=>by
   have hb:(l.map ci).length.beq 0=false:=by rw[VF];cases h:l.length with|zero=>omega|succ n=>rfl
   simp only[tR,nD,o,Wm,WA,aF,WE,aa,Wt,aZ,Xg,XJ];rw[VC (by rw[VF];omega)];simp only[eO];rw[show aB (c.ble (l.map ci).length) (some c) none=some c from by rw[aa,VC (by simp;omega)]];dsimp only;rw[hb]
   rfl
  refine it (λn t df g'=>df=[]/\g'=g/\n<=l.length/\S.UK l n=S.UQ l/\St t [(0,.hsl id ep 0 n none)]) l.length ⟨rfl,rfl,Vu _,rfl,by simp[sx,St]⟩ ?_;rintro n t df g' ⟨rfl,rfl,f,hc,h0,-⟩;have n1:∀h,dH .slice (.hsl id ep 0 n none) h=.val (ZJ (n:Int)):=λh=>rfl;have hk:=key n f;cases n with
  | zero =>
   have m:¬((0:Int)<((0:Nat):Int)):=by omega
   simp only[sz,simprocAttr,iV,h0,n1,m];have k:=k _ (by rw[<-hc];exact sl 0 f);exact k
  | succ n =>
   obtain⟨x,hx,ht,-⟩:=ae (l:=l) (j:=n) (by omega);have w1:IntKind.wrap .i64 (((n+1:Nat):Int) - 1)=(n:Int):=by rw[ap (by omega) (by omega)];omega
   have q0:(0:Int)<((n+1:Nat):Int):=by omega
   have p:n<((l.take (n+1)).map ci).length:=by simp;omega
   have q2:((l.take (n+1)).map ci)[n]?=some (ci x):=by rw[Vw,Yv,VC (by omega),hx];rfl
   have hs:=slc (n+1) n f (by omega)
   by_cases hx0:x=0
   ·simp only[sz,simprocAttr,h0,n1,q0,w1,hk,p,q2,ci,hx0,XV,XF,hs];refine⟨n,by omega,by omega,?_,by simp[sx,St]⟩;rw[<-hc,S.UK,hx,VB,VC hx0]
   ·simp only[sz,simprocAttr,iV,h0,n1,q0,w1,hk,p,q2,ci,hx0];have k:=k _ (by rw[<-hc,S.UK,hx,VB,Vz hx0];exact sl (n+1) f);exact k
theorem Au{d k k2:Nat}{g:G}{P P2:Nat->Prop}{v w:AV}{x y:Nat}(hd:0<d)(hv:SlR P k g.h (S.dg x) v)(hw:SlR P2 k2 g.h (S.dg y) w)(hx:x<1000000000000000000000000000000000000000000000000)(hy:y<1000000000000000000000000000000000000000000000000) :
  am C0 d 123 [v,w] g=.val (ZJ (S.Uz x y)):=by
 obtain⟨v',e1,n⟩:=bm hv d;obtain⟨w',e2,o⟩:=bm hw d;rw[uS];refine eE xV (xs:=[v',w']) (by simp only[aG,e1,e2]) (by simp[lj]) hd ?_;have n1:=λg=>(n .nil).len g;have n2:=λg=>(o .nil).len g;have c:=hv.1;simp only[sz,simprocAttr,lj,n1,n2];refine aX (λhq=>?_) (λhq=>?_)
 ·have r:(S.dg x).length≠(S.dg y).length:=by simp at hq;omega
  simp only[sz,simprocAttr,n1,n2];refine aX (λhq2=>?_) (λhq2=>?_)
  ·have hlt:(S.dg x).length<(S.dg y).length:=by simp at hq2;omega
   have:=xR hx hy hlt;simp only[sz,simprocAttr];rw[S.Uz,VC this]
  ·have hlt:(S.dg y).length<(S.dg x).length:=by simp at hq2;omega
   have:=xR hy hx hlt;simp only[sz,simprocAttr];rw[S.Uz,Vz (by omega),Vz (by omega)]
 ·have b:(S.dg x).length=(S.dg y).length:=by simp at hq;omega
  have w1:IntKind.wrap .i64 (((S.dg x).length:Int) - 1)=((S.dg x).length:Int) - 1:=by rw[ap (by omega) (by omega)]
  simp only[sz,simprocAttr,n1,mF];refine qD (m:=(S.dg x).length) c (λj t df g=>df=[]/\St t [(0,v'),(1,w')]/\x / 10000 ^ j=y / 10000 ^ j) ⟨rfl,by simp[St,sx],?_⟩ (by simp[sx,w1]) (by decide) (by rintro j t df g v s (rfl|rfl|rfl|rfl|rfl)<;>simp[St,sx]) ?_ ?_
  ·have h1:=wG hx;have h2:=wG hy;rw[<-b]at h2;rw[Xw h1,Xw h2]
  ·rintro j t df g i ⟨rfl,⟨h0,h1,-⟩,a⟩ h5;obtain⟨p,hp,-,-⟩:=ae i;obtain⟨q,hq,-,-⟩:=ae (l:=S.dg y) (j:=j) (by omega);have ep:=uY j x hx;have eq:=uY j y hy;rw[hp,VB]at ep;rw[hq,VB]at eq;have e:j<((S.dg x).map ci).length:=by simpa using i
   have q2:j<((S.dg y).map ci).length:=by rw[VF];omega
   have q3:((S.dg x).map ci)[j]?=some (ci p):=by rw[Vw,hp];rfl
   have f:((S.dg y).map ci)[j]?=some (ci q):=by rw[Vw,hq];rfl
   have ra:∀h',ak h' 1 v'=some ((S.dg x).map ci):=λh'=>(n h').ints;have rb:∀h',ak h' 1 w'=some ((S.dg y).map ci):=λh'=>(o h').ints
   by_cases hpq:p=q
   ·have:=RQ a (by omega);simp only[sz,simprocAttr,h0,h1,h5,ra,rb,e,q2,q3,f,ci,hpq,St];exact this
   ·by_cases hlt:p<q
    ·have:=Mo a (by omega);simp only[sz,simprocAttr,h0,h1,h5,ra,rb,e,q2,q3,f,ci,hpq,hlt];rw[S.Uz,VC this]
    ·have:=Mo a.symm (by omega);simp only[sz,simprocAttr,h0,h1,h5,ra,rb,e,q2,q3,f,ci,hpq,hlt];rw[S.Uz,Vz (by omega),Vz (by omega)]
  ·rintro t df g ⟨rfl,⟨h0,h1,-⟩,a⟩;rw[Nat.pow_zero,YF,YF]at a;subst a;simp only[sz,simprocAttr,mG];rw[S.Uz,Vz (by omega),VC rfl]
end
end Hx
end
section
namespace Hx
open Go
noncomputable section
theorem FD:∀{L:List Int} {p:Nat} {z:Int},p<L.length->S.TB (L.set p z)=S.TB L+(z - L[p]?.getD 0)*10000 ^ p
 |[],_,_,h=>by simp at h
 |x::L,0,z,_=>by simp[S.TB];omega
 | x::L,p+1,z,h=>by have ih:=FD (L:=L) (p:=p) (z:=z) (by simpa using h);rw[Yi,S.TB,S.TB,ih,Wn,Yn,<-Xi,YY,Xt _ (10000:Int)];generalize (z - L[p]?.getD 0)*10000 ^ p=u;omega
theorem J7{L:List Int}{p:Nat}{z:Int}(h:∀x∈L,0<=x/\x<10000)(hz:0<=z/\z<10000):∀x∈L.set p z,0<=x/\x<10000:=λx hx=>by
 rcases XZ hx with h1|rfl
 ·exact h x h1
 ·exact hz
theorem L5{L:List Int}(h:∀x∈L,0<=x/\x<10000)(p:Nat):0<=L[p]?.getD 0/\L[p]?.getD 0<10000:=by
 cases e:L[p]? with
 |none=>simp
 |some x=>exact h x (VA e)
structure S.tI (bl:List Int) (n i:Nat) (V ai:Int) (k:Nat) (c:Int) (L:List Int):Prop where
 len:L.length=n
 rng:∀x∈L,0<=x/\x<10000
 zer:∀j,i+bl.length<=j->i+k<=j->L[j]?.getD 0=0
 kle:k<=bl.length+1
 c0:0<=c
 c1:c<10000
 ce:k=bl.length+1->c=0
 cs:k=0->c=0
 eq:S.TB L+c*10000 ^ (i+k)=V+ai*10000 ^ i*S.TB (bl.take k)
def S.U0(bl:List Int):Prop:=∀(k:Nat) (z:Int),bl[k]?=some z->0<=z/\z<=10000/\(0<k->z<10000)
theorem QQ{D D' c c' s l z U V W m:Int}(h1:D'=D+(z - l)*U)(h2:s=c+l+m)(h3:s=10000*c'+z)(h4:D+c*U=V+W):D'+c'*(U*10000)=V+(W+m*U):=by
 have e1:(c+l+m)*U=(10000*c'+z)*U:=by rw[<-h2,h3]
 rw[X7,X7,X7,Xi]at e1;rw[Int.sub_mul]at h1;rw[<-Xi,Xt _ (10000:Int)];omega
theorem QR{bl L:List Int}{n i k:Nat}{V ai c m s:Int}(h:S.tI bl n i V ai k c L)(hi:i+k<n)(h2:S.U0 bl)(ha:0<=ai/\ai<10000)
  (hk:k<bl.length\/k=bl.length) (hm:m=ai*bl[k]?.getD 0) (hs:s=c+L[i+k]?.getD 0+m) :
  0<=s/\s<100000000/\S.tI bl n i V ai (k+1) (s / 10000) (L.set (i+k) (s % 10000)):=by
 obtain⟨a,hr,hz,o,c0,c1,ce,cs,he⟩:=h;obtain⟨q,l1⟩:=L5 hr (i+k);have hb:0<=bl[k]?.getD 0/\bl[k]?.getD 0<=10000/\(0<k->bl[k]?.getD 0<10000):=by
  cases e:bl[k]? with
  |none=>simp
  |some z=>exact h2 k z e
 obtain⟨l,b1,b2⟩:=hb;have r:0<=m:=by rw[hm];exact XU ha.1 l
 have t:m<=9999*bl[k]?.getD 0:=by rw[hm];exact X3 (by omega) l
 have b:0<=s/\s<100000000:=by
  by_cases hk0:k=0
  ·have:=cs hk0;omega
  ·have:=b2 (by omega);omega
 have d:k=bl.length->bl[k]?.getD 0=0:=λe=>by rw[Wx (by omega)];rfl
 have f:S.TB (bl.take (k+1))=S.TB (bl.take k)+10000 ^ k*bl[k]?.getD 0:=by
  rcases hk with hk|hk
  ·obtain⟨x,hx,ht,-⟩:=ae hk;rw[ht,mw,hx,Wf,WX (by omega)];simp[S.TB]
  ·rw[d hk,VX (by omega),VX (by omega)];simp
 refine⟨b.1,b.2,by simpa using a,J7 hr (by omega),λj h1 h3=>?_,by omega,by omega,by omega,λe=>?_,by omega,?_⟩
 ·rw[W0 (by omega)];exact hz j h1 (by omega)
 ·have e:k=bl.length:=by omega
  have h0:=hz (i+k) (by omega) (by omega);rw[d e,Int.mul_zero]at hm;rw[h0,hm]at hs;omega
 ·have hd:=FD (L:=L) (p:=i+k) (z:=s % 10000) (by omega);have:=QQ (c':=s / 10000) hd hs (by omega) he;rw[<-XE,Yn,this,f,YY,hm,Int.pow_add];congr 2;simp only[Xi,Xt,Int.mul_left_comm]
theorem O0{bl L:List Int}{n i:Nat}{V ai:Int}(hlen:L.length=n)(hr:∀x∈L,0<=x/\x<10000)(hz:∀j,i+bl.length<=j->L[j]?.getD 0=0)(hV:S.TB L=V):S.tI bl n i V ai 0 0 L :=
 ⟨hlen,hr,λj h1 h2=>hz j h1,by omega,by omega,by omega,λ_=>rfl,λ_=>rfl,by simp[S.TB,hV]⟩
structure S.tO (al bl:List Int) (i:Nat) (L:List Int):Prop where
 len:L.length=al.length+bl.length
 rng:∀x∈L,0<=x/\x<10000
 zer:∀j,i+bl.length<=j->L[j]?.getD 0=0
 eq:S.TB L=S.TB (al.take i)*S.TB bl
theorem CT:∀n:Nat,S.TB (List.replicate n 0)=0
 |0=>rfl
 |n+1=>by rw[Xk,S.TB,CT n];rfl
theorem O1(al bl:List Int):S.tO al bl 0 (List.replicate (al.length+bl.length) 0):=by
 refine⟨by simp,λx hx=>?_,λj _=>?_,by rw[CT];simp[S.TB]⟩
 ·have:=(XK.1 hx).2;omega
 ·rw[XO];split<;>rfl
theorem QS{al bl L:List Int}{i k:Nat}{c x:Int}(hi:i<al.length)(hx:al[i]?=some x)(h:S.tI bl (al.length+bl.length) i (S.TB (al.take i)*S.TB bl) x k c L)(hk:bl.length<=k)(hc:c=0):S.tO al bl (i+1) L:=by obtain⟨a,hr,hz,d,c0,c1,ce,cs,he⟩:=h;refine⟨a,hr,λj h1=>hz j (by omega) (by omega),?_⟩;obtain⟨y,b,ht,-⟩:=ae hi;rw[hx]at b;injection b with b;subst b;rw[hc,Int.zero_mul,Int.add_zero,VX hk]at he;rw[he,ht,mw,Wf,WX (by omega),X7];simp[S.TB,Xt]
theorem SA{al bl L:List Int}{x y:Nat}(h:S.tO al bl al.length L)(ha:S.TB al=(x:Int))(hb:S.TB bl=(y:Int))(hm:x*y<1000000000000000000000000000000000000000000000000):S.UQ L=S.dg (x*y):=by refine Ay h.rng ?_ hm;rw[h.eq,Wa,ha,hb,XX]
structure S.mI (al bl:List Int) (i:Nat) (r:Int) (L:List Int):Prop where
 len:L.length=i
 rng:∀x∈L,0<=x/\x<10000
 r01:r=0\/r=1
 eq:S.TB L=S.TB (al.take i) - S.TB (bl.take i)+r*10000 ^ i
theorem NK(al bl:List Int):S.mI al bl 0 0 []:=⟨rfl,by simp,.inl rfl,by simp[S.TB]⟩
theorem JM{al bl L:List Int}{i:Nat}{r x y e q:Int}(hi:i<al.length)(ha:∀x∈al,0<=x/\x<10000)(hb:∀x∈bl,0<=x/\x<10000)(h:S.mI al bl i r L)(hx:al[i]?=some x)(hy:bl[i]?.getD 0=y)
  (he:(x - r - y<0/\e=x - r - y+10000/\q=1)\/(0<=x - r - y/\e=x - r - y/\q=0)):S.mI al bl (i+1) q (L++[e]):=by
 obtain⟨k,hr,m,b⟩:=h;have n:=ha x (VA hx);have f:=L5 hb i;rw[hy]at f;have a:0<=e/\e<10000:=by omega
 have d:S.TB (bl.take (i+1))=S.TB (bl.take i)+10000 ^ i*y:=by
  by_cases hk:i<bl.length
  ·obtain⟨z,hz,ht,-⟩:=ae hk;rw[ht,mw,Wf,WX (by omega)];rw[hz,VB]at hy;simp[S.TB,hy]
  ·rw[Wx (by omega),Xg]at hy;rw[<-hy,VX (by omega),VX (by omega)];simp
 have c:S.TB (al.take (i+1))=S.TB (al.take i)+10000 ^ i*x:=by obtain⟨z,hz,ht,-⟩:=ae hi;rw[hx]at hz;injection hz with hz;rw[ht,mw,Wf,WX (by omega),hz];simp[S.TB]
 refine⟨by simp[k],λz hz=>?_,by omega,?_⟩
 ·rcases V7.1 hz with h1|h1
  ·exact hr z h1
  ·rw[VY.1 h1];exact a
 ·rw[mw,k,d,c,b,Yn];have e1:e=x - r - y+10000*q:=by omega
  have e2:10000 ^ i*e=10000 ^ i*x - 10000 ^ i*r - 10000 ^ i*y+10000 ^ i*(10000*q):=by rw[e1];simp only[YY,Int.mul_sub]
  have j:q*(10000 ^ i*10000)=10000 ^ i*(10000*q):=by simp only[Xi,Xt]
  have l:r*10000 ^ i=10000 ^ i*r:=Xt _ _;simp only[S.TB,Int.mul_zero,Int.add_zero];rw[e2,j,l];generalize (10000:Int) ^ i=U;generalize U*x=u1;generalize U*r=u2;generalize U*y=u3;generalize U*(10000*q)=u4;omega
theorem R5{x y:Nat}{L:List Int}{r:Int}(hx:x<1000000000000000000000000000000000000000000000000)(hxy:y<=x)(h:S.mI (S.dg x) (S.dg y) (S.dg x).length r L):S.UQ L=S.dg (x - y):=by
 obtain⟨a,hr,b,k⟩:=h;have c:=KQ (show y<1000000000000000000000000000000000000000000000000 by omega) hx hxy;rw[Wa,VX c,qK x hx,qK y (by omega)]at k;have hb:=my hr;rw[a]at hb;have:r=0:=by
  rcases b with e|e
  ·exact e
  ·rw[e,Int.one_mul]at k;omega
 rw[this,Int.zero_mul,Int.add_zero]at k;exact Ay hr (by omega) (by omega)
end
end Hx
end
section
namespace Hx
open Go
noncomputable section
theorem Fh{x y:Int}(h0:0<=x)(h1:x<9223372036854775808)(hy:0<y):bQ .rem (ZJ x) (ZJ y)=.val (ZJ (x % y)):=by obtain⟨n,rfl⟩:=Vy h0;obtain⟨m,rfl⟩:=Vy (by omega:0<=y);have:=zT (x:=n) (y:=m) (by omega);rw[this,Int.natCast_emod]
theorem wj{x y:Int}(h0:0<=x)(h1:x<9223372036854775808)(hy:0<y):bQ .quo (ZJ x) (ZJ y)=.val (ZJ (x / y)):=by obtain⟨n,rfl⟩:=Vy h0;obtain⟨m,rfl⟩:=Vy (by omega:0<=y);have:=ug (x:=n) (y:=m) (by omega) (by omega);rw[this,Int.natCast_ediv]
theorem O3{d i:Nat}{v' w' u:AV}{al bl:List Int}{x V:Int}{Q:QT}{t:T}{g:G}{L:List Int}(hi:i<al.length)(hx:al[i]?=some x)(hx1:0<=x/\x<10000)(hla:al.length<=1000)(hlb:bl.length<=1000)(hb:S.U0 bl)
  (ra:∀h,ak h 1 v'=some (al.map ci)) (rb:∀h,ak h 1 w'=some (bl.map ci)) (n2:∀g,dH .slice w' g=.val (ZJ (bl.length:Int)))
  (ht:St t [(0,v'),(1,w'),(5,u),(6,ZJ (i:Int)),(7,ZJ 0),(8,ZJ 0)]) (hu:Own g 0 u 1 (L.map ci)) (hI:S.tI bl (al.length+bl.length) i V x 0 0 L)
  (fin:∀t g L k,St t [(0,v'),(1,w'),(5,u),(6,ZJ (i:Int))]->Own g 0 u 1 (L.map ci)->S.tI bl (al.length+bl.length) i V x k 0 L->bl.length<=k->Q (.exit 2) t [] g) :
  wpL (wp C0 d none dU) Q t [] g:=by
 refine it (λn t df g=>df=[]/\∃(k:Nat) (c:Int) (L:List Int),n=bl.length+2 - k/\St t [(0,v'),(1,w'),(5,u),(6,ZJ (i:Int)),(7,ZJ c),(8,ZJ (k:Int))]/\Own g 0 u 1 (L.map ci)/\S.tI bl (al.length+bl.length) i V x k c L) (bl.length+2)
  ⟨rfl,0,0,L,by omega,ht,hu,hI⟩ ?_
 rintro n t df g ⟨rfl,k,c,L,rfl,⟨h0,h1,h5,f,h7,h8,-⟩,hu,hI⟩;have A:=hI.kle;have c0:=hI.c0;have c1:=hI.c1;have w1:IntKind.wrap .i64 ((i:Int)+(k:Int))=((i+k:Nat):Int):=by rw[ap (by omega) (by omega)];omega
 have w:IntKind.wrap .i64 ((k:Int)+1)=((k+1:Nat):Int):=by rw[ap (by omega) (by omega)];omega
 have ur:=λg (hu:Own g 0 u 1 (L.map ci))=>hu.rows
 by_cases hk:k<bl.length\/(k=bl.length/\0<c)
 ·have b:i+k<L.length:=by rw[hI.len];omega
  obtain⟨p,hp,-,-⟩:=ae b;obtain⟨H,I⟩:=hI.rng p (VA hp);have w3:IntKind.wrap .i64 (c+p)=c+p:=ap (by omega) (by omega);have r:i+k<(L.map ci).length:=by simpa using b
  have q2:(L.map ci)[i+k]?=some (ci p):=by rw[Vw,hp];rfl
  have ur:=hu.rows;have key:∀s m:Int,m=x*bl[k]?.getD 0->s=c+p+m->0<=s/\s<100000000/\S.tI bl (al.length+bl.length) i V x (k+1) (s / 10000) (L.set (i+k) (s % 10000)):=λs m hm hs =>
   QR hI (by rw[<-hI.len];exact b) hb hx1 (by omega) hm (by rw[hp];exact hs)
  by_cases hk1:k<bl.length
  ·obtain⟨y,q,-,-⟩:=ae hk1;obtain⟨z,J,-⟩:=hb k y q;have q3:i<(al.map ci).length:=by simpa using hi
   have B:(al.map ci)[i]?=some (ci x):=by rw[Vw,hx];rfl
   have q5:k<(bl.map ci).length:=by simpa using hk1
   have C:(bl.map ci)[k]?=some (ci y):=by rw[Vw,q];rfl
   have a:((k:Int)<(bl.length:Int)):=by omega
   obtain⟨m,hm⟩:∃m,m=x*y:=⟨_,rfl⟩;have E:0<=m:=by rw[hm];exact XU hx1.1 z
   have F:m<=10000*y:=by rw[hm];exact X3 (by omega) z
   obtain⟨s,hs⟩:∃s,s=c+p+m:=⟨_,rfl⟩;obtain⟨s0,s1,j⟩:=key s m (by rw[q,VB];exact hm) hs;have D:IntKind.wrap .i64 (x*y)=m:=by rw[<-hm,ap (by omega) (by omega)]
   have w5:IntKind.wrap .i64 (c+p+m)=s:=by rw[<-hs,ap (by omega) (by omega)]
   have b1:=Fh (x:=s) (y:=10000) s0 (by omega) (by decide);have b2:=wj (x:=s) (y:=10000) s0 (by omega) (by decide);simp only[sz,simprocAttr,dU,h0,h1,h5,f,h7,h8,n2,a,w1,w3,D,w5,ur,r,q2,q3,B,q5,C,ra,rb,ci,jH,jI,b1];refine bK (v:=u) (sz:=1) (n:=1) (i:=i+k) (off:=0) (x:=ZJ (s % 10000)) (row':=ci (s % 10000)) hu q2 rfl rfl rfl λg2 hu2 n2 f2=>?_;rw[rk]at hu2;simp only[sz,simprocAttr,h8,w,b2];exact⟨bl.length+2 - (k+1),by omega,k+1,s / 10000,_,rfl,by simp[St,sx,h0,h1,h5,f],hu2,j⟩
  ·have a:¬((k:Int)<(bl.length:Int)):=by omega
   have o:(0:Int)<c:=by omega
   have l:bl[k]?.getD 0=0:=by rw[Wx (by omega)];rfl
   obtain⟨s,hs⟩:∃s,s=c+p:=⟨_,rfl⟩;obtain⟨s0,s1,j⟩:=key s 0 (by rw[l,Int.mul_zero]) (by omega);rw[<-hs]at w3;have b1:=Fh (x:=s) (y:=10000) s0 (by omega) (by decide);have b2:=wj (x:=s) (y:=10000) s0 (by omega) (by decide);simp only[sz,simprocAttr,dU,h1,h5,f,h7,h8,n2,a,o,w1,w3,<-hs,ur,r,q2,ci,jH,jI,b1];refine bK (v:=u) (sz:=1) (n:=1) (i:=i+k) (off:=0) (x:=ZJ (s % 10000)) (row':=ci (s % 10000)) hu q2 rfl rfl rfl λg2 hu2 n2 f2=>?_;rw[rk]at hu2;simp only[sz,simprocAttr,h8,w,b2];exact⟨bl.length+2 - (k+1),by omega,k+1,s / 10000,_,rfl,by simp[St,sx,h0,h1,h5,f],hu2,j⟩
 ·have a:¬((k:Int)<(bl.length:Int)):=by omega
  have hc:c=0:=by
   by_cases e:k=bl.length+1
   ·exact hI.ce e
   ·omega
  subst hc;simp only[sz,simprocAttr,dU,h1,h7,h8,n2,a,Int.lt_irrefl];refine fin _ _ L k ?_ hu hI (by omega);simp[St,sx,h0,h1,h5,f]
theorem Dm{d k k2:Nat}{g:G}{P P2:Nat->Prop}{v w:AV}{x y:Nat}{bl:List Int}(hd:0<d)(hv:SlR P k g.h (S.dg x) v)(hw:SlR P2 k2 g.h bl w)(hx:x<1000000000000000000000000000000000000000000000000)(hb:S.U0 bl)(hlb:bl.length<=100)(hy:S.TB bl=(y:Int))(hm:x*y<1000000000000000000000000000000000000000000000000) :
  ∃r,am C0 d 124 [v,w] g=.val r/\IT 0 (S.dg (x*y)) r:=by
 obtain⟨v',e1,l⟩:=bm hv d;obtain⟨w',e2,o⟩:=bm hw d;rw[xF];have f:=qK x hx;have ha:=uZ x hx;have A:=k_ x;generalize S.dg x=al at *;refine a_ AC (xs:=[v',w']) (by simp only[aG,e1,e2]) (by simp[oY]) (aY _) (by decide) hd ?_;have n1:=λg=>(l .nil).len g;have n2:=λg=>(o .nil).len g;have ra:∀h',ak h' 1 v'=some (al.map ci):=λh'=>(l h').ints;have rb:∀h',ak h' 1 w'=some (bl.map ci):=λh'=>(o h').ints;have w1:IntKind.wrap .i64 ((al.length:Int)+(bl.length:Int))=((al.length+bl.length:Nat):Int):=by rw[ap (by omega) (by omega)];omega
 simp only[sz,simprocAttr,oY,n1,n2,w1];refine zP (b:=0) (n:=al.length+bl.length) (by simp[aT];omega) (by simp[aT];omega) (Wp _) λu g1 hu hn1 hf1 hvid=>?_;have hu:Own g1 0 u 1 ((List.replicate (al.length+bl.length) (0:Int)).map ci):=by simpa [ci] using hu
 simp only[sz,simprocAttr,pN];refine oy (m:=al.length) (v:=v') (by omega) n1 (λi t df g=>df=[]/\St t [(1,w'),(5,u)]/\∃L,Own g 0 u 1 (L.map ci)/\S.tO al bl i L) ⟨rfl,by simp[St,sx],_,hu,O1 al bl⟩ (by simp[sx]) (by simp[sx]) (by decide) (by rintro j t df g v s (rfl|rfl|rfl|rfl|rfl|rfl|rfl)<;>simp[St,sx]) ?_ ?_
 ·rintro i t df g hi ⟨rfl,⟨h1,h5,-⟩,L,hu,a⟩ c h0;obtain⟨p,hp,-,e⟩:=ae hi;simp only[sz,simprocAttr];refine O3 (V:=S.TB (al.take i)*S.TB bl) (L:=L) hi hp (ha p e) (by omega) (by omega) hb ra rb n2 (by simp[St,sx,h0,h1,h5,c]) hu (O0 a.len a.rng a.zer a.eq) ?_;rintro t g L k ⟨h0,h1,h5,c,-⟩ hu z hk;simp only[sx,sy,↓reduceIte];refine⟨⟨?_,L,hu,QS hi hp z hk rfl⟩,c,h0⟩;simp[St,h1,h5]
 ·rintro t df g ⟨rfl,⟨h1,h5,-⟩,L,hu,a⟩ h0;have B:L.length<=200:=by have:=a.len;omega
  have q:=SA a f hy hm;simp only[sz,simprocAttr,pO,h5];refine Az hu (by omega) λv2 hv2=>?_;rw[q]at hv2;simp only[sz,simprocAttr];exact⟨_,v2,rfl,hv2⟩
theorem Gn{d i:Nat}{v' w' u:AV}{e0:Int}{L:List Int}{Q:QT}{t:T}{g:G}(ht:St t [(0,v'),(1,w'),(7,ZJ (i:Int)),(8,ZJ e0)])(h5:tat t 5=u)(hu:Own g 0 u 1 (L.map ci))(hL:L.length<=100)(he:-20000<e0/\e0<20000)
  (fin:∀t g u e q,(e0<0/\e=e0+10000/\q=1)\/(0<=e0/\e=e0/\q=0)->St t [(0,v'),(1,w'),(7,ZJ (i:Int))]->tat t 5=u->tat t 6=ZJ q->Own g 0 u 1 ((L++[e]).map ci)->Q .norm t [] g) :
  wp C0 d none fZ Q t [] g:=by
 obtain⟨h0,h1,h7,h8,-⟩:=ht
 by_cases h:e0<0
 ·have w1:IntKind.wrap .i64 (e0+10000)=e0+10000:=ap (by omega) (by omega);simp only[sz,simprocAttr,fZ,jG,h5,h8,h,w1];refine aM (new:=[ci (e0+10000)]) (hu.step (Fr.new _ _)) (by simp[sx,sy,ci]) (by simp<;>omega) (by simp[aT]<;>omega) λv2 g2 hv2 n2 f2 _ l2=>?_;simp only[sz,simprocAttr];exact fin _ _ v2 _ _ (.inl ⟨h,rfl,rfl⟩) (by simp[St,sx,h0,h1,h7]) (by simp[sx]) (by simp[sx]) (by simpa using hv2)
 ·simp only[sz,simprocAttr,fZ,jG,h5,h8,h];refine aM (new:=[ci e0]) (hu.step (Fr.new _ _)) (by simp[sx,sy,ci]) (by simp<;>omega) (by simp[aT]<;>omega) λv2 g2 hv2 n2 f2 _ l2=>?_;simp only[sz,simprocAttr];exact fin _ _ v2 _ _ (.inr ⟨by omega,rfl,rfl⟩) (by simp[St,sx,h0,h1,h7]) (by simp[sx]) (by simp[sx]) (by simpa using hv2)
theorem Lr{d k k2:Nat}{g:G}{P P2:Nat->Prop}{v w:AV}{x y:Nat}(hd:0<d)(hv:SlR P k g.h (S.dg x) v)(hw:SlR P2 k2 g.h (S.dg y) w)(hx:x<1000000000000000000000000000000000000000000000000)(hxy:y<=x) :
  ∃r,am C0 d 125 [v,w] g=.val r/\IT 0 (S.dg (x - y)) r:=by
 obtain⟨v',e1,o⟩:=bm hv d;obtain⟨w',e2,A⟩:=bm hw d;rw[xE];have ha:=uZ x hx;have hb:=uZ y (by omega);have D:=k_ x;have E:=k_ y;refine a_ AB (xs:=[v',w']) (by simp only[aG,e1,e2]) (by simp[oT]) (aY _) (by decide) hd ?_;have n1:=λg=>(o .nil).len g;have n2:=λg=>(A .nil).len g;have ra:∀h',ak h' 1 v'=some ((S.dg x).map ci):=λh'=>(o h').ints;have rb:∀h',ak h' 1 w'=some ((S.dg y).map ci):=λh'=>(A h').ints;simp only[sz,simprocAttr,oT,pL];refine oy (m:=(S.dg x).length) (v:=v') (by omega) n1 (λi t df g=>df=[]/\St t [(1,w')]/\∃(u:AV) (r:Int) (L:List Int),tat t 5=u/\tat t 6=ZJ r/\Own g 0 u 1 (L.map ci)/\S.mI (S.dg x) (S.dg y) i r L) ⟨rfl,by simp[St,sx],.nils,0,[],by simp[sx],by simp[sx],.inl ⟨rfl,rfl⟩,NK _ _⟩ (by simp[sx]) (by simp[sx]) (by decide) (by rintro j t df g v s (rfl|rfl|rfl|rfl|rfl|rfl|rfl)<;>simp[St,sx]) ?_ ?_
 ·rintro i t df g hi ⟨rfl,⟨h1,-⟩,u,r,L,h5,a,hu,b⟩ h7 h0;obtain⟨p,hp,-,f⟩:=ae hi;have H:=ha p f;have n:i<((S.dg x).map ci).length:=by simpa using hi
  have q2:((S.dg x).map ci)[i]?=some (ci p):=by rw[Vw,hp];rfl
  have r01:=b.r01;have C:=b.len;have w1:IntKind.wrap .i64 (p - r)=p - r:=ap (by omega) (by omega)
  by_cases hk:i<(S.dg y).length
  ·obtain⟨q,hq,-,l⟩:=ae hk;have I:=hb q l;have q3:i<((S.dg y).map ci).length:=by simpa using hk
   have J:((S.dg y).map ci)[i]?=some (ci q):=by rw[Vw,hq];rfl
   have c:(i:Int)<((S.dg y).length:Int):=by omega
   have K:IntKind.wrap .i64 (p - r - q)=p - r - q:=ap (by omega) (by omega);simp only[sz,simprocAttr,h0,h1,a,h7,n2,ra,rb,n,q2,q3,J,ci,w1,K,c];refine Gn (v':=v') (w':=w') (i:=i) (e0:=p - r - q) (by simp[St,sx,h0,h1,h7]) (by simp[sx,h5]) hu (by omega) (by omega) ?_;rintro t g u e z he ⟨h0,h1,h7,-⟩ h5 a hu;simp only[sy];exact⟨⟨by simp[St,h1],u,z,_,h5,a,hu,JM hi ha hb b hp (by rw[hq];rfl) he⟩,h7,h0⟩
  ·have c:¬(i:Int)<((S.dg y).length:Int):=by omega
   simp only[sz,simprocAttr,h0,h1,a,h7,n2,ra,n,q2,ci,w1,c];refine Gn (v':=v') (w':=w') (i:=i) (e0:=p - r) (by simp[St,sx,h0,h1,h7]) (by simp[sx,h5]) hu (by omega) (by omega) ?_;rintro t g u e z he ⟨h0,h1,h7,-⟩ h5 a hu;simp only[sy];exact⟨⟨by simp[St,h1],u,z,_,h5,a,hu,JM (y:=0) (e:=e) (q:=z) (x:=p) (r:=r) hi ha hb b hp (by rw[Wx (by omega)];rfl) (by omega)⟩,h7,h0⟩
 ·rintro t df g ⟨rfl,⟨h1,-⟩,u,r,L,h5,a,hu,b⟩ h0;have F:L.length<=200:=by have:=b.len;omega
  have B:=R5 hx hxy b;simp only[sz,simprocAttr,pM,h5];refine Az hu (by omega) λv2 hv2=>?_;rw[B]at hv2;simp only[sz,simprocAttr];exact⟨_,v2,rfl,hv2⟩
end
end Hx
end
section
namespace Hx
open Go
noncomputable section
theorem MA{A a b:Nat}:(10000*A+a) / b=10000*(A / b)+(10000*(A % b)+a) / b:=by
 rcases YV b with rfl|hb
 ·simp
 have h1:=WW A b;have h2:10000*A+a=(10000*(A % b)+a)+b*(10000*(A / b)):=by
  have:10000*(b*(A / b)+A % b)=10000*A:=by rw[h1]
  rw[Nat.mul_add,Nat.mul_left_comm]at this;omega
 rw[h2,Nat.add_mul_div_left _ _ hb,Nat.add_comm]
theorem NQ{A a b:Nat}:(10000*A+a) % b=(10000*(A % b)+a) % b:=by
 have h1:=WW A b;have h2:10000*A+a=(10000*(A % b)+a)+b*(10000*(A / b)):=by
  have:10000*(b*(A / b)+A % b)=10000*A:=by rw[h1]
  rw[Nat.mul_add,Nat.mul_left_comm]at this;omega
 rw[h2,Nat.add_mul_mod_self_left]
theorem RU{r a b:Nat}(hr:r<b)(ha:a<10000):(10000*r+a) / b<10000:=by refine X8 ?_;have:r+1<=b:=hr;have:=V9 10000 this;omega
theorem Mz{r a b:Nat}(hr:r<b)(ha:a<10000):10000*r+a<10000*b:=by omega
theorem PF{R b M:Nat}(hb:0<b)(hM:0<M):R / M / (b / M+1)<=R / b:=by
 refine (Yk hb).2 ?_;have h1:R / M / (b / M+1)*(b / M+1)<=R / M:=YM _ _;have h2:R / M*M<=R:=YM _ _;have h:b<=(b / M+1)*M:=by have:=WW b M;have h4:=WP b hM;rw[Wc,Xc,Xy];omega
 calc R / M / (b / M+1)*b<=R / M / (b / M+1)*((b / M+1)*M):=Nat.mul_le_mul_left _ h
  _=R / M / (b / M+1)*(b / M+1)*M:=by rw[YO]
  _<=R / M*M:=V9 _ h1
  _<=R:=h2
theorem My{R b M:Nat}(hM:0<M)(ht:0<b / M):R / b<=R / M / (b / M):=by
 refine (Yk ht).2 ((Yk hM).2 ?_);have h1:b / M*M<=b:=YM _ _
 calc R / b*(b / M)*M=R / b*(b / M*M):=by rw[YO]
  _<=R / b*b:=Nat.mul_le_mul_left _ h1
  _<=R:=YM _ _
theorem PG{R b M:Nat}(hM:0<M)(hR:R<10000*b)(ht:0<b / M)(h:M=1\/10000<=b / M):R / M / (b / M)<=10000:=by
 rcases h with rfl|h
 ·rw[YF,YF];have:R / b<10000:=X8 (by rw[Xy];exact hR);omega
 ·have k:b<(b / M+1)*M:=by have:=WW b M;have h4:=WP b hM;rw[Wc,Xc,Xy];omega
  have h4:R / M<10000*(b / M+1):=by
   refine X8 ?_;have:=Nat.mul_lt_mul_of_pos_left k (show 0<10000 by decide);have e:10000*((b / M+1)*M)=M*(10000*(b / M+1)):=by simp only[YO,Xy]
   omega
  refine Nat.le_of_lt_succ (X8 ?_);have e:b / M*(10000+1)=10000*(b / M)+b / M:=by omega
  rw[Nat.succ_eq_add_one,e];omega
theorem MB{L:List Int}{i:Nat}{z:Int}(h:i<L.length):(L.set i z).drop i=z::L.drop (i+1):=by
 rw[W7 (by simpa using h)];congr 1
 ·simp
 ·rw[List.drop_set,VC (by omega)]
theorem HF{x b i:Nat}:x / 10000 ^ i / b=10000*(x / 10000 ^ (i+1) / b)+(10000*(x / 10000 ^ (i+1) % b)+x / 10000 ^ i % 10000) / b:=by rw[<-MA,Xz,<-WZ];congr 1;have:=WW (x / 10000 ^ i) 10000;omega
theorem HT{x b i:Nat}:x / 10000 ^ i % b=(10000*(x / 10000 ^ (i+1) % b)+x / 10000 ^ i % 10000) % b:=by rw[<-NQ,Xz,<-WZ];congr 1;have:=WW (x / 10000 ^ i) 10000;omega
structure S.qI (x b n:Nat) (i:Nat) (L:List Int):Prop where
 len:L.length=n
 rng:∀z∈L,0<=z/\z<10000
 eq:S.TB (L.drop i)=((x / 10000 ^ i / b:Nat):Int)
theorem Og{x b n:Nat}(h:x / 10000 ^ n<b):S.qI x b n n (List.replicate n 0):=by
 refine⟨by simp,λz hz=>?_,?_⟩
 ·have:=(XK.1 hz).2;omega
 ·rw[Xw h,List.drop_of_length_le (by simp)];rfl
theorem Qr{x b n i q:Nat}{L:List Int}(h:S.qI x b n (i+1) L)(hb:0<b)(hi:i<n)(hq:q=(10000*(x / 10000 ^ (i+1) % b)+x / 10000 ^ i % 10000) / b):S.qI x b n i (L.set i (q:Int)):=by obtain⟨k,hr,he⟩:=h;have h1:=RU (WP (x / 10000 ^ (i+1)) hb) (WP (x / 10000 ^ i) (show 0<10000 by decide));rw[<-hq]at h1;refine⟨by simpa using k,J7 hr (by omega),?_⟩;rw[MB (by omega),S.TB,he,HF (x:=x) (b:=b) (i:=i),<-hq];omega
theorem Sj{x b n:Nat}{L:List Int}(h:S.qI x b n 0 L)(hx:x<1000000000000000000000000000000000000000000000000):S.UQ L=S.dg (x / b):=by have:=W8 x b;refine Ay h.rng ?_ (by omega);have he:=h.eq;rw[Nat.pow_zero,YF,Xp]at he;exact he
theorem nq{R i j:Nat}(h:R<10000 ^ (i+j)):R / 10000 ^ i<10000 ^ j:=X8 (by rw[<-Nat.pow_add];exact h)
theorem xS(R j:Nat):R / 10000 ^ j=R / 10000 ^ (j+1)*10000+R / 10000 ^ j % 10000:=by have:=WW (R / 10000 ^ j) 10000;rw[Xz,<-WZ];omega
end
end Hx
end
section
namespace Hx
open Go
noncomputable section
theorem QK{w:AV}{l:List Int}{k:Nat}(hw:SlR NoP k .nil l w)(hne:l≠[]){c:Nat}(hc:c<=l.length) :
  ∃w',(∀g,tR 1 w (some (ZJ (c:Int))) none g=.val w')/\SlR NoP k .nil (l.drop c) w':=by
 have hlt:(l.drop c).length<9223372036854775808:=by have:=hw.1;rw[Ye];omega
 have h:=hw.2;unfold SlV at h
 split at h
 ·exact absurd h hne
 ·exact absurd h hne
 ·rename_i t s rows;obtain⟨h0,h1,h2⟩:=h;have a:=h2.len;have hs:s=1:=by
   rcases h1 with e|e
   ·exact e
   ·rw[e]at a;simp at a;exact absurd a hne
  subst hs;refine⟨.tsl t 1 (rows.drop c),λg=>?_,hlt,h0,.inl rfl,h2.drop c⟩;show orV (match aZ (bC rows) (bC rows) none with
   |none=>none
   | some h=>match aZ 0 h (some (ZJ (.ofNat c))) with
    |none=>none
    |some l=>aB (Nat.beq 1 1) (some (.tsl t 1 (iJ (h - l) (iz l rows)))) none)=_
  show orV (match aZ 0 (bC rows) (some (ZJ (.ofNat c))) with
    |none=>none
    |some l=>aB (Nat.beq 1 1) (some (.tsl t 1 (iJ (bC rows - l) (iz l rows)))) none)=_
  have:aZ 0 (bC rows) (some (ZJ (.ofNat c)))=some c:=by show aB (Nat.ble c (bC rows)) (some c) none=_;rw[aa,VC];rw[aF,<-a];simp;omega
  rw[this];show orV (aB (Nat.beq 1 1) (some (AV.tsl t 1 (iJ (bC rows - c) (iz c rows)))) none)=_;rw[show Nat.beq 1 1=true from rfl,bif'_true,bj,bp,VX (by rw[Ye,aF];exact Vu _)];rfl
 ·exact h.1.elim
 ·exact h.elim
theorem Mp{a b:Nat}(h:a<=b):S.Uz a b<=0:=by unfold S.Uz;split<;>first|omega| (split<;>omega)
theorem RR{a b:Nat}(h:¬a<=b):¬S.Uz a b<=0:=by unfold S.Uz;rw[Vz (by omega),Vz (by omega)];omega
theorem Mx{m:Nat}(h:m<=10000):S.U0 [(m:Int)]:=λk z hz=>by
 cases k with
 |zero=>simp at hz;omega
 |succ k=>simp at hz
theorem PE{m:Nat}(h:m<1000000000000000000000000000000000000000000000000):S.U0 (S.dg m):=λk z hz=>by have:=uZ m h z (VA hz);omega
theorem GC(g:G)(x:Int):Own (g.new (Y6 1 [[ZJ x]])) 0 (.hsl g.nx 0 0 1 none) 1 ([x].map ci):=.inr ⟨g.nx,0,false,Wp _,by simp,rfl,by simp[aJ,ci]⟩
def Dv(v w q r:AV)(n:Nat):List (Nat×AV):=[(0,v),(1,w),(6,ZJ (n:Int)),(7,q),(8,r)]
theorem PH{d k i n lo hi:Nat}{v w uq rest:AV}{y R:Nat}{P:Nat->Prop}{Q:QT}{t:T}{g:G}(hd:0<d)(hw:∀h,SlR NoP k h (S.dg y) w)(hy0:0<y)(hy:y*10000<1000000000000000000000000000000000000000000000000)(hR:R<1000000000000000000000000000000000000000000000000)
  (hr:SlR P 0 g.h (S.dg R) rest) (hP:∀i,P i->i<g.nx) (ht:St t ((9,ZJ (i:Int))::Dv v w uq rest n)) (h13:tat t 13=ZJ (lo:Int)) (h14:tat t 14=ZJ (hi:Int)) (hlo:lo<=R / y) (hhi:R / y<=hi) (hh:hi<=10000)
  (fin:∀t g',Fr g g'->St t ((9,ZJ (i:Int))::Dv v w uq rest n)->tat t 13=ZJ ((R / y:Nat):Int)->Q (.exit 4) t [] g') :
  wpL (wp C0 d none fm) Q t [] g:=by
 refine it (λz t df g'=>df=[]/\∃lo hi:Nat,z=hi - lo/\lo<=R / y/\R / y<=hi/\hi<=10000/\Fr g g'/\St t ((9,ZJ (i:Int))::Dv v w uq rest n)/\tat t 13=ZJ (lo:Int)/\tat t 14=ZJ (hi:Int)) (hi - lo)
  ⟨rfl,lo,hi,rfl,hlo,hhi,hh,Fr.refl _,ht,h13,h14⟩ ?_
 rintro z t df g' ⟨rfl,lo,hi,rfl,hlo,hhi,hh,hf,⟨h9,h0,h1,j,h7,h8,-⟩,h13,h14⟩
 by_cases hlt:lo<hi
 ·have b:(lo:Int)<(hi:Int):=by omega
  obtain⟨mid,l⟩:∃mid:Nat,mid=(lo+hi+1) / 2:=⟨_,rfl⟩;have w1:IntKind.wrap .i64 ((lo:Int)+(hi:Int))=(lo:Int)+(hi:Int):=ap (by omega) (by omega);have m:IntKind.wrap .i64 ((lo:Int)+(hi:Int)+1)=(lo:Int)+(hi:Int)+1:=ap (by omega) (by omega);have b1:bQ .quo (ZJ ((lo:Int)+(hi:Int)+1)) (ZJ 2)=.val (ZJ (mid:Int)):=by rw[wj (by omega) (by omega) (by decide)];congr 2;omega
  have o:y*mid<=y*10000:=Nat.mul_le_mul_left _ (by omega);have c:mid<=R / y↔y*mid<=R:=by rw[Yk hy0,Xy]
  simp only[sz,simprocAttr,fm,h1,h13,h14,b,w1,m,b1];have ho:=GC g' (mid:Int);refine bi (Dm (d:=d) (x:=y) (y:=mid) hd (hw _) (ho.sl (α:=Int) (k:=0) (P:=λ_=>True) (by simp) (Tx (λa=>aW.2 rfl) _) λ_ _=>trivial) (by omega) (Mx (by omega)) (by simp) (by simp[S.TB]) (by omega)) λr hr2=>?_;simp only[sz,simprocAttr,h8];have f:Fr g (g'.new (Y6 1 [[ZJ (mid:Int)]])):=hf.trans (Fr.new _ _);refine bi (Q:=λz=>z=ZJ (S.Uz (y*mid) R)) ⟨_,Au hd (hr2.sl _) (hr.far8 (h':=(g'.new (Y6 1 [[ZJ (mid:Int)]])).h) λi hi=>f.2 i (hP i hi)) (by omega) hR,rfl⟩ ?_;rintro _ rfl
  by_cases hle:y*mid<=R
  ·have hc:=Mp hle;simp only[sz,simprocAttr,hc];refine⟨hi - mid,by omega,mid,hi,rfl,c.2 hle,hhi,hh,f,?_,?_,?_⟩<;>simp[St,Dv,sx,h0,h1,j,h7,h8,h9,h14]
  ·have hc:=RR hle;have w3:IntKind.wrap .i64 ((mid:Int) - 1)=((mid - 1:Nat):Int):=by rw[ap (by omega) (by omega)];omega
   have:¬mid<=R / y:=λe=>hle (c.1 e);simp only[sz,simprocAttr,hc,w3];refine⟨mid - 1 - lo,by omega,lo,mid - 1,rfl,hlo,by omega,by omega,f,?_,?_,?_⟩<;>simp[St,Dv,sx,h0,h1,j,h7,h8,h9,h13]
 ·have b:¬(lo:Int)<(hi:Int):=by omega
  have e:lo=R / y:=by omega
  simp only[sz,simprocAttr,fm,h13,h14,b];refine fin _ g' hf ?_ ?_
  ·simp[St,Dv,sx,h0,h1,j,h7,h8,h9]
  ·simp[sx,h13,e]
theorem PI{d k i n:Nat}{v w uq rest:AV}{y R m:Nat}{P:Nat->Prop}{Q:QT}{t:T}{g:G}(hw:∀h,SlR NoP k h (S.dg y) w)(hm:m=n - 1)(hn:n+1=(S.dg y).length)(hy:y<1000000000000000000000000000000000000000000000000)(hR:R<1000000000000000000000000000000000000000000000000)(hRy:R<10000*y)
  (hr:SlR P 0 g.h (S.dg R) rest) (ht:St t ((9,ZJ (i:Int))::Dv v w uq rest n)) (h10:tat t 10=ZJ 0) (h11:tat t 11=ZJ 0) (h12:tat t 12=ZJ ((n:Int)+1))
  (fin:∀t,St t ((9,ZJ (i:Int))::Dv v w uq rest n)->tat t 10=ZJ ((y / 10000 ^ m:Nat):Int)->tat t 11=ZJ ((R / 10000 ^ m:Nat):Int)->Q (.exit 2) t [] g) :
  wpL (wp C0 d none dx) Q t [] g:=by
 have K:=k_ y;have yb:y<10000 ^ (n+1):=by rw[hn];exact wG hy
 have rb2:R<10000 ^ (n+2):=by rw[Xz];omega
 have r:=hr.len;have x:=hr.ints;have M:=λg=>(hw .nil).len g;have A:∀h,ak h 1 w=some ((S.dg y).map ci):=λh=>(hw h).ints;have lr:=k_ R;refine it (λz t df g'=>df=[]/\g'=g/\∃j:Nat,z=j/\m<=j/\j<=n+2/\St t ((9,ZJ (i:Int))::Dv v w uq rest n)/\tat t 10=ZJ ((y / 10000 ^ j:Nat):Int)/\tat t 11=ZJ ((R / 10000 ^ j:Nat):Int)/\tat t 12=ZJ ((j:Int) - 1)) (n+2)
  ⟨rfl,rfl,n+2,rfl,by omega,by omega,ht,?_,?_,?_⟩ ?_
 ·rw[h10,Xw (VL yb (V_ (by decide) (by omega)))];rfl
 ·rw[h11,Xw rb2];rfl
 ·rw[h12];congr 1;omega
 rintro j t df g' ⟨rfl,rfl,_,rfl,L,J,⟨h9,h0,h1,c,h7,h8,-⟩,h10,h11,h12⟩;have w1:IntKind.wrap .i64 ((n:Int) - 1)=(n:Int) - 1:=ap (by omega) (by omega);have B:max 0 ((n:Int) - 1)=(m:Int):=by omega
 by_cases hj:m<j
 ·have l:(m:Int)<=(j:Int) - 1:=by omega
  obtain⟨k,rfl⟩:∃k,j=k+1:=⟨j - 1,by omega⟩;have ek:((k+1:Nat):Int) - 1=(k:Int):=by omega
  rw[ek]at h12 l;have f1:R / 10000 ^ (k+1)<10000 ^ 2:=VL (nq (i:=k+1) (j:=n+2 - (k+1)) (by rw[show k+1+(n+2 - (k+1))=n+2 by omega];exact rb2)) (V_ (by decide) (by omega));have f2:y / 10000 ^ (k+1)<10000 ^ 2:=VL (nq (i:=k+1) (j:=n+2 - (k+1)) (by rw[show k+1+(n+2 - (k+1))=n+2 by omega];exact VL yb (V_ (by decide) (by omega)))) (V_ (by decide) (by omega));have s1:=xS R k;have s2:=xS y k;have g1:=uY k R hR;have g2:=uY k y hy;have l1:=WP (R / 10000 ^ k) (show 0<10000 by decide);have l2:=WP (y / 10000 ^ k) (show 0<10000 by decide);have N:10000 ^ 2=100000000:=rfl;rw[N]at f1 f2;generalize R / 10000 ^ (k+1)=F at *;generalize y / 10000 ^ (k+1)=U at *;generalize R / 10000 ^ k % 10000=a at *;generalize y / 10000 ^ k % 10000=b at *;have D:IntKind.wrap .i64 ((F:Int)*10000)=((F*10000:Nat):Int):=by rw[ap (by omega) (by omega)];omega
  have tail:∀t,St t ((9,ZJ (i:Int))::Dv v w uq rest n)->tat t 10=ZJ (U:Int)->tat t 11=ZJ ((R / 10000 ^ k:Nat):Int)->tat t 12=ZJ (k:Int) ->
    wp C0 d none fp (λe t df g2=>e=.norm/\df=[]/\g2=g'/\St t ((9,ZJ (i:Int))::Dv v w uq rest n)/\tat t 10=ZJ ((y / 10000 ^ k:Nat):Int)/\tat t 11=ZJ ((R / 10000 ^ k:Nat):Int)/\tat t 12=ZJ (k:Int)) t [] g':=by
   rintro t ⟨h9,h0,h1,c,h7,h8,-⟩ h10 h11 h12
   by_cases hk:k<=n
   ·have f:(k:Int)<=(n:Int):=by omega
    have o:k<(S.dg y).length:=by omega
    obtain⟨q,hq,-,-⟩:=ae o;have C:k<((S.dg y).map ci).length:=by simpa using o
    have q2:((S.dg y).map ci)[k]?=some (ci q):=by rw[Vw,hq];rfl
    rw[hq,VB]at g2;subst g2;have w3:IntKind.wrap .i64 ((U:Int)*10000)=((U*10000:Nat):Int):=by rw[ap (by omega) (by omega)];omega
    have O:IntKind.wrap .i64 (((U*10000:Nat):Int)+(b:Int))=((y / 10000 ^ k:Nat):Int):=by rw[s2,ap (by omega) (by omega)];omega
    simp only[sz,simprocAttr,fp,h1,c,h10,h11,h12,f,A,C,q2,ci,w3,O];simp[St,Dv,sx,h0,h1,c,h7,h8,h9]
   ·have f:¬(k:Int)<=(n:Int):=by omega
    have I:b=0:=by rw[Wx (by omega),Xg]at g2;omega
    have E:y / 10000 ^ k=0:=Xw (VL yb (V_ (by decide) (by omega)));have s:U=0:=by omega
    simp only[sz,simprocAttr,fp,c,h10,h11,h12,f];simp[St,Dv,sx,h0,h1,c,h7,h8,h9,E,s]
  have u:=x
  by_cases hk:k<(S.dg R).length
  ·have f:(k:Int)<((S.dg R).length:Int):=by omega
   obtain⟨p,hp,-,-⟩:=ae hk;have C:k<((S.dg R).map ci).length:=by simpa using hk
   have q2:((S.dg R).map ci)[k]?=some (ci p):=by rw[Vw,hp];rfl
   rw[hp,VB]at g1;subst g1;have w3:IntKind.wrap .i64 (((F*10000:Nat):Int)+(a:Int))=((R / 10000 ^ k:Nat):Int):=by rw[s1,ap (by omega) (by omega)];omega
   simp only[sz,simprocAttr,dx,c,h8,h11,h12,w1,B,l,D,r,f,u,C,q2,ci,w3];refine bX _ (tail _ (by simp[St,Dv,sx,h0,h1,c,h7,h8,h9]) (by simp[sx,h10]) (by simp[sx]) (by simp[sx,h12])) ?_;rintro e t df g2 ⟨rfl,rfl,rfl,⟨h9,h0,h1,c,h7,h8,-⟩,h10,h11,h12⟩;have w5:IntKind.wrap .i64 ((k:Int) - 1)=(k:Int) - 1:=ap (by omega) (by omega);simp only[sz,simprocAttr,iX,h12,w5];refine⟨k,by omega,k,rfl,by omega,by omega,?_,?_,?_,?_⟩<;>simp[St,Dv,sx,h0,h1,c,h7,h8,h9,h10,h11]
  ·have f:¬(k:Int)<((S.dg R).length:Int):=by omega
   have H:a=0:=by rw[Wx (by omega),Xg]at g1;omega
   have w3:((F*10000:Nat):Int)=((R / 10000 ^ k:Nat):Int):=by rw[s1];omega
   simp only[sz,simprocAttr,dx,c,h8,h11,h12,w1,B,l,D,r,f];refine bX _ (tail _ (by simp[St,Dv,sx,h0,h1,c,h7,h8,h9]) (by simp[sx,h10]) (by simp[sx,w3]) (by simp[sx,h12])) ?_;rintro e t df g2 ⟨rfl,rfl,rfl,⟨h9,h0,h1,c,h7,h8,-⟩,h10,h11,h12⟩;have w5:IntKind.wrap .i64 ((k:Int) - 1)=(k:Int) - 1:=ap (by omega) (by omega);simp only[sz,simprocAttr,iX,h12,w5];refine⟨k,by omega,k,rfl,by omega,by omega,?_,?_,?_,?_⟩<;>simp[St,Dv,sx,h0,h1,c,h7,h8,h9,h10,h11]
 ·have l:¬(m:Int)<=(j:Int) - 1:=by omega
  have e:j=m:=by omega
  subst e;simp only[sz,simprocAttr,dx,c,h12,w1,B,l];refine fin _ ?_ ?_ ?_
  ·simp[St,Dv,sx,h0,h1,c,h7,h8,h9]
  ·simp[sx,h10]
  ·simp[sx,h11]
end
end Hx
end
section
namespace Hx
open Go
noncomputable section
theorem SlR.wd{α:Type} [Rp α]{P P':Nat->Prop}{k:Nat}{h h':H}{l:List α}{v:AV}(r:SlR P k h l v)(hf:∀i,P i->P' i/\h'.get i=h.get i):SlR P' k h' l v:=by obtain⟨w,hw,q⟩:=Rp.mono (k':=k) (P':=P') (h':=h') (show Rp.rp P k h l [v] from ⟨v,rfl,r⟩) hf (Vu _);injection hw with hw;subst hw;exact q
theorem GB(g:G){b:Nat}(hb:b<=g.nx):Own (g.new (Y6 1 [])) b (.hsl g.nx 0 0 0 none) 1 []:=.inr ⟨g.nx,0,false,hb,by simp,rfl,by simp[aJ]⟩
def DvJ(v w q:AV)(n x y N:Nat)(i:Nat):PT:=λt df g=>df=[]/\St t [(0,v),(1,w),(6,ZJ (n:Int)),(7,q)]/\∃rest L,tat t 8=rest/\Own g 0 q 1 (L.map ci)/\S.qI x y N i L/\SlR (λj=>j<g.nx/\vid q≠some j) 0 g.h (S.dg (x / 10000 ^ i % y)) rest
theorem RW{d k i n N:Nat}{v w uq rest:AV}{x y R:Nat}{P:Nat->Prop}{Q:QT}{t:T}{g:G}{L:List Int}(hd:0<d)(hw:∀h,SlR NoP k h (S.dg y) w)(hy0:0<y)(hy:y*10000<1000000000000000000000000000000000000000000000000)(hR:R<10000*y)
  (hr:SlR P 0 g.h (S.dg R) rest) (hP:∀j,P j->j<g.nx/\vid uq≠some j) (hu:Own g 0 uq 1 (L.map ci)) (hq:S.qI x y N (i+1) L) (hi:i<N) (hRx:R=10000*(x / 10000 ^ (i+1) % y)+x / 10000 ^ i % 10000)
  (ht:St t ((9,ZJ (i:Int))::Dv v w uq rest n)) (h13:tat t 13=ZJ ((R / y:Nat):Int))
  (fin:∀t g,DvJ v w uq n x y N i t [] g->tat t 9=ZJ (i:Int)->Q .norm t [] g) :
  wp C0 d none iY Q t [] g:=by
 obtain⟨h9,h0,h1,r,h7,h8,-⟩:=ht;have c:i<L.length:=by rw[hq.len];exact hi
 have m:=Qr (q:=R / y) hq hy0 hi (by rw[hRx]);have ql:R / y<10000:=X8 (by rw[Xy];exact hR);have f:y*(R / y)<=R:=Nat.mul_div_le R y;have e:R - y*(R / y)=x / 10000 ^ i % y:=by rw[HT,<-hRx];have:=WW R y;omega
 obtain⟨p,hp,-,-⟩:=ae c;have s:i<(L.map ci).length:=by simpa using c
 have q2:(L.map ci)[i]?=some (ci p):=by rw[Vw,hp];rfl
 have ur:=hu.rows;simp only[sz,simprocAttr,iY,h7,h9,h13,ur,s];refine bK (v:=uq) (sz:=1) (n:=1) (i:=i) (off:=0) (x:=ZJ ((R / y:Nat):Int)) (row':=ci ((R / y:Nat):Int)) hu q2 rfl rfl rfl λg4 hu4 n4 f4=>?_;rw[rk]at hu4;simp only[sz,simprocAttr,h1,h8,h13];refine Az (l:=[((R / y:Nat):Int)]) (GC g4 _) (by simp) λv5 hv5=>?_;rw[Ay (n:=R / y) (by intro z hz;rw[VY.1 hz];exact⟨X4 _,Int.ofNat_lt.2 ql⟩) (by simp[S.TB]) (by omega)]at hv5;simp only[sz,simprocAttr];refine bi (Dm (d:=d) (x:=y) (y:=R / y) hd (hw _) hv5 (by omega) (PE (by omega)) (by have:=k_ (R / y);omega) (qK _ (by omega)) (by omega)) λr6 hr6=>?_;simp only[sz,simprocAttr];have o:SlR (λ_=>True) 0 (g4.new (Y6 1 [[ZJ ((R / y:Nat):Int)]])).h (S.dg R) rest:=hr.wd λj hj=>⟨trivial,by
  obtain⟨a,b⟩:=hP j hj;rw[G.new_h,af _ _ _ (by omega),f4 j b]⟩
 refine bi (Lr (d:=d) (x:=R) (y:=y*(R / y)) hd o (hr6.sl _) (by omega) f) λr8 hr8=>?_;rw[e]at hr8;simp only[sz,simprocAttr];refine fin _ _ ⟨rfl,?_,r8,_,?_,hu4.step (Fr.new _ _),m,(hr8.sl .nil).wd λ_ h=>h.elim⟩ ?_
 ·simp[St,sx,h0,h1,r,h7]
 ·simp[sx]
 ·simp[sx,h9]
theorem vK{d k k2:Nat}{g:G}{P P2:Nat->Prop}{v w:AV}{x y:Nat}(hd:0<d)(hv:SlR P k g.h (S.dg x) v)(hw:SlR P2 k2 g.h (S.dg y) w)(hx:x<1000000000000000000000000000000000000000000000000)(hy0:0<y)(hy:y*10000<1000000000000000000000000000000000000000000000000) :
  ∃r,am C0 d 107 [v,w] g=.val r/\Hn (One (S.dg (x / y))) (One (S.dg (x % y))) NoP 0 .nil r:=by
 obtain⟨v',e1,r1⟩:=bm hv d;obtain⟨w',e2,O⟩:=bm hw d;rw[wo];have he:=k_ x;have hf:=k_ y;have hg:=Jh (n:=y) (by omega) (by omega);refine a_ zh (xs:=[v',w']) (by simp only[aG,e1,e2]) (by simp[iW]) (qA (m:=1) (aY _) (aY _) (by decide) (by decide)) (by decide) hd ?_;have n1:=λg=>(r1 .nil).len g;have n2:=λg=>(O .nil).len g;have ra:∀h',ak h' 1 v'=some ((S.dg x).map ci):=λh'=>(r1 h').ints;obtain⟨n,Z⟩:∃n,n+1=(S.dg y).length:=⟨(S.dg y).length - 1,by omega⟩;have w1:IntKind.wrap .i64 (((S.dg y).length:Int) - 1)=(n:Int):=by rw[ap (by omega) (by omega)];omega
 have ybx:10000 ^ n<=y:=by have:=Q4 (n:=y) (by omega) (by omega);rw[<-Z]at this;exact this
 by_cases hle:(S.dg x).length<=n
 ·have l:((S.dg x).length:Int)<=(n:Int):=by omega
  have hlt:x<y:=VL (VL (wG hx) (V_ (by decide) hle)) ybx;simp only[sz,simprocAttr,iW,n1,n2,w1,l];refine aM (b:=0) (new:=(S.dg x).map ci) (GB _ (Wp _)) (ra _) (Wp _) (by simp[aT];omega) λv2 g2 f n2 f2 _ l2=>?_;simp only[sz,simprocAttr];refine⟨λ_=>True,.nils,v2,rfl,?_,?_⟩
  ·rw[Xw hlt];exact⟨.nils,rfl,by show 0<9223372036854775808;decide,rfl⟩
  ·rw[Yf hlt];exact Own.ints (by simpa using f) (by omega)
 ·have l:¬((S.dg x).length:Int)<=(n:Int):=by omega
  obtain⟨N,hN⟩:∃N,N+n=(S.dg x).length:=⟨(S.dg x).length - n,by omega⟩;have w2:IntKind.wrap .i64 (((S.dg x).length:Int) - (n:Int))=(N:Int):=by rw[ap (by omega) (by omega)];omega
  obtain⟨w3,hs,M⟩:=QK (c:=N) (r1 .nil) (by intro e;rw[e]at hN hle;simp at hN hle) (by omega);rw[Jf N x hx]at M;have W:x / 10000 ^ N<10000 ^ n:=nq (by rw[hN];exact wG hx);have D:x / 10000 ^ N<y:=VL W ybx;simp only[sz,simprocAttr,iW,n1,n2,w1,l,w2];refine zP (b:=0) (n:=N) (by simp[aT];omega) (by simp[aT];omega) (Wp _) λuq g1 hu hn1 hf1 hvid=>?_;have hu:Own g1 0 uq 1 ((List.replicate N (0:Int)).map ci):=by simpa [ci] using hu
  simp only[sz,simprocAttr,n1,w2,XV,XF,hs];have hb:=k_ (x / 10000 ^ N);refine aM (b:=g1.nx) (new:=(S.dg (x / 10000 ^ N)).map ci) (GB _ (Vu _)) (M.tree (Vu _)).ints (by simp) (by simp[aT];omega) λv4 g4 o n4 f4 _ l4=>?_;have o:Own g4 g1.nx v4 1 ((S.dg (x / 10000 ^ N)).map ci):=by simpa using o
  have I:Fr g1 g4:=⟨by simp at n4;omega,λi hi=>by rw[f4 i (by simp;omega) (by intro e;injection e with e;omega),G.new_h,af _ _ _ (by omega)]⟩;have K:=hu.step I;have Y:dH .slice uq g4=.val (ZJ (N:Int)):=by rw[dl K.rows];simp
  have w4:IntKind.wrap .i64 ((N:Int) - 1)=(N:Int) - 1:=ap (by omega) (by omega);simp only[sz,simprocAttr,Y,w4,nR,nT];refine qD (m:=N) (by omega) (DvJ v' w' uq n x y N) ⟨rfl,by simp[St,sx],v4,_,by simp[sx],K,Og D,?_⟩ (by simp[sx]) (by decide) (by rintro j t df g v s (rfl|rfl|rfl|rfl|rfl)<;>simp[DvJ,St,sx]) ?_ ?_
  ·rw[Yf D];exact o.sl (by omega) (Tx (λa=>aW.2 rfl) _) λi hi=>⟨(o.lt hi).2,λe=>by have:=(hu.lt e).2;have:=(o.lt hi).1;omega⟩
  ·rintro i t df g hi ⟨rfl,⟨h0,h1,C,h7,-⟩,rest,L,h8,hu,hq,hr⟩ h9;have J:i<(S.dg x).length:=by omega
   obtain⟨p,hp,-,-⟩:=ae J;have q1:i<((S.dg x).map ci).length:=by simpa using J
   have q2:((S.dg x).map ci)[i]?=some (ci p):=by rw[Vw,hp];rfl
   have gp:=uY i x hx;rw[hp,VB]at gp;have ha:=WP (x / 10000 ^ i) (show 0<10000 by decide);have h2:=WP (x / 10000 ^ (i+1)) hy0;obtain⟨R,hR⟩:∃R,R=10000*(x / 10000 ^ (i+1) % y)+x / 10000 ^ i % 10000:=⟨_,rfl⟩;have u:R<10000*y:=by rw[hR];exact Mz h2 ha
   have hc:=k_ (x / 10000 ^ (i+1) % y);have H:S.UQ (p::S.dg (x / 10000 ^ (i+1) % y))=S.dg R:=by
    refine Ay (λz hz=>?_) ?_ (by omega)
    ·rcases VP.1 hz with rfl|hz
     ·omega
     ·exact uZ _ (by omega) z hz
    ·rw[S.TB,qK _ (by omega),gp,hR];omega
   have w5:IntKind.wrap .i64 ((n:Int)+1)=(n:Int)+1:=ap (by omega) (by omega);simp only[sz,simprocAttr,h0,h8,h9,ra,q1,q2,ci];refine aM (b:=g.nx) (rows:=[p].map ci) (new:=(S.dg (x / 10000 ^ (i+1) % y)).map ci) (Qp (Vu _) _) (hr.far8 λj hj=>by rw[G.new_h,af _ _ _ (by omega)]).ints (by simp) (by simp[aT];omega) λv2 g2 f n2 f2 _ l2=>?_;have f:Own g2 g.nx v2 1 ((p::S.dg (x / 10000 ^ (i+1) % y)).map ci):=by simpa using f
   have X:Fr g g2:=⟨by simp at n2;omega,λi hi=>by rw[f2 i (by simp;omega) (by intro e;injection e with e;omega),G.new_h,af _ _ _ (by omega)]⟩;simp only[sz,simprocAttr];refine Az f (by simp;omega) λv3 hv3=>?_;rw[H]at hv3;simp only[sz,simprocAttr,C,w5];have q:∀j,vid v2=some j->j<g2.nx/\vid uq≠some j:=λj hj=>⟨(f.lt hj).2,λe=>by have:=(hu.lt e).2;have:=(f.lt hj).1;omega⟩;obtain⟨m,hm⟩:∃m,m=n - 1:=⟨_,rfl⟩;refine PI (i:=i) (n:=n) (v:=v') (uq:=uq) (rest:=v3) (m:=m) (R:=R) (k:=max k2 d) O hm Z (by omega) (by omega) u hv3 (by simp[St,Dv,sx,h0,h1,C,h7,h9]) (by simp[sx]) (by simp[sx]) (by simp[sx]) ?_;rintro t ⟨h9,h0,h1,C,h7,h8,-⟩ Q T;have E:0<10000 ^ m:=Nat.pow_pos (by decide);have B:0<y / 10000 ^ m:=Nat.div_pos (VR (V_ (by decide) (by omega)) ybx) E;have h4:10000 ^ m=1\/10000<=y / 10000 ^ m:=by
    by_cases h:m=0
    ·left;rw[h]
    ·right;refine (Yk E).2 (VR (Nat.le_of_eq ?_) ybx);rw[show n=m+1 by omega,Xz,Xy]
   have d1:=PF (R:=R) (b:=y) hy0 E;have d2:=My (R:=R) E B;have d3:=PG E u B h4;have t1:y / 10000 ^ m<10000 ^ 2:=nq (VL (wG (n:=y) (by omega)) (V_ (by decide) (by omega)));have t2:R / 10000 ^ m<10000 ^ 3:=nq (by
    have:=wG (n:=y) (by omega);rw[<-Z]at this;refine VL (m:=10000 ^ (n+2)) ?_ (V_ (by decide) (by omega));rw[Xz];omega)
   generalize y / 10000 ^ m=U at *;generalize R / 10000 ^ m=F at *;have p2:10000 ^ 2=100000000:=rfl;have p3:10000 ^ 3=1000000000000:=rfl;rw[p2]at t1;rw[p3]at t2;have w6:IntKind.wrap .i64 ((U:Int)+1)=((U+1:Nat):Int):=by rw[ap (by omega) (by omega)];omega
   have b1:=ug (x:=F) (y:=U+1) (by omega) (by omega);have b2:=ug (x:=F) (y:=U) (by omega) B;simp only[sz,simprocAttr,nS,Q,T,w6,b1,b2];refine PH (d:=d+1) (i:=i) (n:=n) (v:=v') (w:=w') (uq:=uq) (rest:=v3) (y:=y) (R:=R) (k:=max k2 d) (lo:=F / (U+1)) (hi:=F / U) (VI d) O hy0 hy (by omega) hv3 (λj hj=>(q j hj).1) (by simp[St,Dv,sx,h0,h1,C,h7,h8,h9]) (by simp[sx]) (by simp[sx]) d1 d2 d3 ?_;rintro t g3 A h3 V;simp only[sx,↓reduceIte];refine RW (d:=d+1) (k:=max k2 d) (P:=λj=>vid v2=some j) (N:=N) (x:=x) (VI d) O hy0 hy u (hv3.far8 λj hj=>A.2 j (q j hj).1) (λj hj=>⟨VL (q j hj).1 A.1,(q j hj).2⟩) (hu.step (X.trans A)) hq hi hR h3 V ?_;rintro t g hJ h9;exact⟨hJ,h9⟩
  ·rintro t df g ⟨rfl,⟨h0,h1,C,h7,-⟩,rest,L,h8,hu,hq,hr⟩;have h5:=hq.len;simp only[sz,simprocAttr,nU,h7];refine Az hu (by omega) λv9 hv9=>?_;rw[Sj hq hx]at hv9;rw[Nat.pow_zero,YF]at hr;simp only[sz,simprocAttr,h8];exact⟨λ_=>True,v9,rest,rfl,⟨v9,rfl,hv9.wd λ_ _=>⟨trivial,rfl⟩⟩,⟨rest,rfl,hr.wd λ_ _=>⟨trivial,rfl⟩⟩⟩
end
end Hx
end
section
namespace Hx
open Go
noncomputable section
theorem Qy{d:Nat}{g:G}{v w:AV}{x y:Nat}(hd:0<d)(hv:IT 0 (S.dg x) v)(hw:IT 0 (S.dg y) w)(hx:x*10000<1000000000000000000000000000000000000000000000000)(hy:y*10000<1000000000000000000000000000000000000000000000000) :
  ∃r,am C0 d 106 [v,w] g=.val r/\IT 0 (S.dg (Nat.gcd x y)) r:=by
 rw[Ao];refine a_ DY (xs:=[v,w]) (by simp only[aG,l9 d (hv.sl g.h),l9 d (hw.sl g.h)]) (by simp[te]) (aY _) (by decide) hd ?_;simp only[sz,simprocAttr,te];refine it (λn t df g=>df=[]/\∃(a b:Nat) (va vb:AV),n=b/\a*10000<1000000000000000000000000000000000000000000000000/\b*10000<1000000000000000000000000000000000000000000000000/\Nat.gcd a b=Nat.gcd x y/\tat t 0=va/\tat t 1=vb/\IT 0 (S.dg a) va/\IT 0 (S.dg b) vb) y
  ⟨rfl,x,y,v,w,rfl,hx,hy,rfl,by simp[sx],by simp[sx],hv,hw⟩ ?_
 rintro b t df g ⟨rfl,a,_,va,vb,rfl,ha,hb,hg,h0,h1,c,k⟩;have hl:=k.len
 by_cases hb0:b=0
 ·subst hb0;have q0:¬((0:Int)<((S.dg 0).length:Int)):=by rw[nN];simp
  rw[Nat.gcd_zero_right]at hg;subst hg;simp only[sz,simprocAttr,mJ,tf,h0,h1,hl,q0];exact⟨λ_=>True,va,rfl,(c.sl g.h).wd λ_ h=>h.elim⟩
 ·have q0:(0:Int)<((S.dg b).length:Int):=by have:=Jh (n:=b) hb0 (by omega);omega
  simp only[sz,simprocAttr,mJ,h0,h1,hl,q0];refine bi (vK (d:=d+1) (VI d) (c.sl g.h) (k.sl g.h) (by omega) (YW hb0) hb) ?_;rintro _ ⟨i,e,rfl,f,h4⟩;have hlt:=WP a (YW hb0);simp only[sz,simprocAttr,h1];refine⟨a % b,hlt,b,a % b,vb,e,rfl,hb,Xd (V9 _ (Nat.le_of_lt hlt)) hb,?_,?_,?_,k,h4⟩
  ·rw[<-hg,Nat.gcd_comm a b,Nat.gcd_comm b (a % b),<-Nat.gcd_rec]
  ·simp[sx]
  ·simp[sx]
theorem Dn{d k:Nat}{g:G}{P:Nat->Prop}{v:AV}{x:Nat}(hd:0<d)(hv:SlR P k g.h (S.dg x) v)(hx:x<=4611686018427387903) :
  am C0 d 108 [v] g=.val (.tup [ZJ (x:Int),.bool true]):=by
 have key:∃r,am C0 d 108 [v] g=.val r/\Hn (One (x:Int)) (One true) NoP 0 .nil r:=by
  obtain⟨v',e1,l⟩:=bm hv d;rw[xG];refine a_ AD (xs:=[v']) (by simp only[aG,e1]) (by simp[oZ]) (qA (m:=1) (aY _) (aY _) (by decide) (by decide)) (by decide) hd ?_;have n1:=λg=>(l .nil).len g;have ra:∀h',ak h' 1 v'=some ((S.dg x).map ci):=λh'=>(l h').ints;have q:=k_ x;have w1:IntKind.wrap .i64 (((S.dg x).length:Int) - 1)=((S.dg x).length:Int) - 1:=ap (by omega) (by omega);simp only[sz,simprocAttr,oZ];obtain⟨M,y⟩:∃M:Nat,M=4611686018427387903:=⟨_,rfl⟩;have f:(M:Int)=4611686018427387903:=by omega
  have e:=λg=>xT (d:=d+1) (g:=g) (n:=M) (VI d) (by omega);rw[f]at e;refine bi (e _) λr hr=>?_;have hc:∀g,am C0 (d+1) 123 [v',r] g=.val (ZJ (S.Uz x M)):=λg=>Au (VI d) (l g.h) (hr.sl g.h) (by omega) (by omega);have i:¬(0<S.Uz x M):=by have:=Mp (a:=x) (b:=M) (by omega);omega
  simp only[sz,simprocAttr,hc,i,n1,w1,pP];refine qD (m:=(S.dg x).length) (by omega) (λj t df g=>df=[]/\St t [(0,v')]/\tat t 4=ZJ ((x / 10000 ^ j:Nat):Int)) ⟨rfl,by simp[St,sx],?_⟩ (by simp[sx]) (by decide) (by rintro j t df g v s (rfl|rfl|rfl|rfl|rfl)<;>simp[St,sx]) ?_ ?_
  ·rw[Xw (wG (by omega))];simp[sx]
  ·rintro j t df g o ⟨rfl,⟨h0,-⟩,h4⟩ h5;obtain⟨p,hp,-,-⟩:=ae o;have ep:=uY j x (by omega);rw[hp,VB]at ep;have u:j<((S.dg x).map ci).length:=by simpa using o
   have q2:((S.dg x).map ci)[j]?=some (ci p):=by rw[Vw,hp];rfl
   have hs:=xS x j;have hl:=W8 x (10000 ^ j);generalize x / 10000 ^ (j+1)=F at *;generalize x / 10000 ^ j % 10000=a at *;subst ep;have w:IntKind.wrap .i64 (10000*(F:Int))=((10000*F:Nat):Int):=by rw[ap (by omega) (by omega)];omega
   have w3:IntKind.wrap .i64 (((10000*F:Nat):Int)+(a:Int))=((x / 10000 ^ j:Nat):Int):=by rw[hs,ap (by omega) (by omega)];omega
   simp only[sz,simprocAttr,h0,h4,h5,ra,u,q2,ci,w,w3];simp[St,sx,h0]
  ·rintro t df g ⟨rfl,⟨h0,-⟩,h4⟩;rw[Nat.pow_zero,YF]at h4;simp only[sz,simprocAttr,pQ,h4];exact⟨λ_=>True,_,_,rfl,aW.2 rfl,jh.2 rfl⟩
 obtain⟨z,h1,a,b,rfl,h2,c⟩:=key;have h2:=aW.1 h2;have c:=jh.1 c;injection h2 with h2;injection c with c;rw[h1,h2,c]
theorem CZ{x y:Nat}(hy:0<y):0<Nat.gcd x y/\Nat.gcd x y<=y/\x / Nat.gcd x y<=x/\y / Nat.gcd x y<=y :=
 ⟨Nat.gcd_pos_of_pos_right x hy,Nat.le_of_dvd hy (Nat.gcd_dvd_right x y),W8 _ _,W8 _ _⟩
theorem Oo{d:Nat}{g:G}{v w:AV}{x y:Nat}(hd:0<d)(hv:IT 0 (S.dg x) v)(hw:IT 0 (S.dg y) w)(hx:x<=4611686018427387903)(hy0:0<y)(hy:y<=4611686018427387903) :
  am C0 d 93 [.bool false,v,w] g=.val (.tup [.agg [ZJ (S.T9 x y).1,ZJ (S.T9 x y).2],.bool true]):=by
 have key:∃r,am C0 d 93 [.bool false,v,w] g=.val r/\Hn (Agg (S.T9 x y)) (One true) NoP 0 .nil r:=by obtain⟨g0,g1,g2,g3⟩:=CZ (x:=x) hy0;rw[y_];refine a_ B7 (xs:=[.bool false,v,w]) (by simp only[aG,L0 0,l9 d (hv.sl g.h),l9 d (hw.sl g.h)]) (by simp[qT]) (qA (m:=2) (bW _) (aY _) (by decide) (by decide)) (by decide) hd ?_;simp only[sz,simprocAttr,qT,tg];refine bi (Qy (VI d) hv hw (by omega) (by omega)) λr hr=>?_;simp only[sz,simprocAttr];refine bi (vK (VI d) (hv.sl _) (hr.sl _) (by omega) g0 (by omega)) ?_;rintro _ ⟨e,i,rfl,⟨_,k,h4⟩,-⟩;injection k with k;subst k;simp only[sz,simprocAttr];refine bi (vK (VI d) (hw.sl _) (hr.sl _) (by omega) g0 (by omega)) ?_;rintro _ ⟨f,j,rfl,⟨_,h5,c⟩,-⟩;injection h5 with h5;subst h5;have e1:∀g,am C0 (d+1) 108 [e] g=.val (.tup [ZJ ((x / Nat.gcd x y:Nat):Int),.bool true]):=λg=>Dn (VI d) (h4.tree (h':=g.h) (Vu _)) (by omega);have e2:∀g,am C0 (d+1) 108 [f] g=.val (.tup [ZJ ((y / Nat.gcd x y:Nat):Int),.bool true]):=λg=>Dn (VI d) (c.tree (h':=g.h) (Vu _)) (by omega);simp only[sz,simprocAttr,e1,e2,rU];exact⟨λ_=>True,_,_,rfl,pz.2 rfl,jh.2 rfl⟩
 obtain⟨z,h1,a,b,rfl,h2,k⟩:=key;have k:=jh.1 k;injection k with k;rw[h1,pz.1 h2,k]
theorem Sm{d:Nat}{g:G}{x y:Nat}(hd:0<d)(hx:x<=4611686018427387903)(hy0:0<y)(hy:y<=4611686018427387903) :
  am C0 d 35 [ZJ (x:Int),ZJ (y:Int)] g=.val (.agg [ZJ (S.T9 x y).1,ZJ (S.T9 x y).2]):=by
 have mk:∀(d:Nat) (g:G),0<d->am C0 d 67 [ZJ (x:Int),ZJ (y:Int)] g=.val (.tup [.agg [ZJ (S.T9 x y).1,ZJ (S.T9 x y).2],.bool true]):=λd g hd=>by
  have key:∃r,am C0 d 67 [ZJ (x:Int),ZJ (y:Int)] g=.val r/\Hn (Agg (S.T9 x y)) (One true) NoP 0 .nil r:=by
   rw[y9];refine a_ B4 (xs:=[ZJ (x:Int),ZJ (y:Int)]) (by simp only[aG,bS 0]) (by simp[qS]) (qA (m:=2) (bW _) (aY _) (by decide) (by decide)) (by decide) hd ?_;have k:¬((x:Int)<0):=by omega
   have q2:¬((y:Int)<0):=by omega
   have qe:D6 true EqKind.bool (AV.bool false) (AV.bool false)=.val (.bool false):=rfl;simp only[sz,simprocAttr,qS,tb,k,q2,qe];refine bi (xT (VI d) (by omega)) λr hr=>?_;simp only[sz,simprocAttr];refine bi (xT (VI d) (by omega)) λr2 hr2=>?_;have e1:∀g,am C0 (d+1) 93 [.bool false,r,r2] g=.val (.tup [.agg [ZJ (S.T9 x y).1,ZJ (S.T9 x y).2],.bool true]):=λg=>Oo (VI d) hr hr2 hx hy0 hy;simp only[sz,simprocAttr,e1];exact⟨λ_=>True,_,_,rfl,pz.2 rfl,jh.2 rfl⟩
  obtain⟨z,h1,a,b,rfl,h2,h⟩:=key;have h:=jh.1 h;injection h with h;rw[h1,pz.1 h2,h]
 have key:∃r,am C0 d 35 [ZJ (x:Int),ZJ (y:Int)] g=.val r/\Agg (S.T9 x y) NoP 0 .nil r:=by rw[BQ];refine a_ FI (xs:=[ZJ (x:Int),ZJ (y:Int)]) (by simp only[aG,bS 0]) (by simp[vq]) (bW _) (by decide) hd ?_;have e1:=λg=>mk (d+1) g (VI d);simp only[sz,simprocAttr,vq,wO,e1];exact⟨λ_=>True,pz.2 rfl⟩
 obtain⟨z,h1,h2⟩:=key;rw[h1,pz.1 h2]
end
end Hx
end
section
namespace Hx
open Go
noncomputable section
abbrev P3:Nat->Prop:=λi=>3<=i
end
end Hx
end
section
namespace Hx
open Go
noncomputable section
end
end Hx
end
section
namespace Hx
open Go
noncomputable section
structure HS (m:Causal) (c1 c2 la lb lc:AV) (p q:Nat) (gb g:G):Prop where
 fr:Fr gb g
 mp:g.h.get p=Y6 3 [[ZJ m.grain,c1,c2]]
 ml:g.h.get q=Y6 3 [[la,lb,lc]]
 pn:p<gb.nx
 q0:gb.nx<=q
 qn:q<g.nx
section
variable {m:Causal}{c1 c2 la lb lc w c28 vi c90 vj:AV}{A B Z:List Int}{p q:Nat}
end
end
end Hx
end
end
namespace Hx
open Go
noncomputable section
variable {n:Net}{vals:List Int}
section
variable {p:List Nat}
theorem C3:Kx p 0:=⟨λv _ hb=>by simp at hb,λv _ hb=>by simp at hb⟩
theorem FZ{q:Nat}(ih:Kx p q){j:Nat}(hj:j<64)(hd:Sub (Par p j) q):Kx p (q ||| S.TT j):=by
 refine⟨λv hv hb=>?_,λv hv hb=>?_⟩
 ·intro u hu;rw[dJ,sO hj,Wh,VK]at hb;rw[dJ,Wh];rcases hb with hb|hb
  ·exact .inl (ih.1 v hv hb u hu)
  ·subst hb;exact .inl (hd u hu)
 ·rw[dJ,sO hj,Wh,VK]at hb;cases hq:q.testBit v
  ·rw[hq]at hb;simp at hb;subst hb;rw[<-XM];intro hu;have:=Ix ih.1 hd p.length j hu;rw[hq]at this;cases this
  ·exact ih.2 v hv hq
theorem vY{q:Nat}(h:Kx p q)(hf:∀v,v<p.length->q.testBit v=true):S.Uu p=true :=
 z9.2 λv hv=>h.2 v hv (hf v hv)
theorem Dy(hp:∀x∈p,x<2 ^ p.length)(h:S.Uu p=true){T:Nat}(hst:∀v,v<p.length->T.testBit v=false->¬Sub (Par p v) T):∀v,v<p.length->T.testBit v=true:=by
 rw[z9]at h;have none:∀r v,v<p.length->T.testBit v=false->S.up p (Par p v) p.length=r->False:=by
  intro r
  induction r using Nat.strongRecOn with
  | _ r ih =>
   intro v i hb hr;have d:=hst v i hb;have:∃u,(Par p v).testBit u=true/\T.testBit u=false:=by
    apply W6;intro c;apply d;intro u hu;cases hc:T.testBit u
    ·exact absurd ⟨u,hu,hc⟩ c
    ·rfl
   obtain⟨u,hu,f⟩:=this;have k:u<p.length:=He (H3 hp) hu;have hcl:=LK hp (s:=Par p v) (H3 hp);have a:(S.up p (Par p v) p.length).testBit u=true:=EZ _ u hu;have b:Sub (S.up p (Par p u) p.length) (S.up p (Par p v) p.length):=Ix hcl (hcl u k a) _;have hlt:S.up p (Par p u) p.length<S.up p (Par p v) p.length:=by refine Nat.lt_of_le_of_ne (Sz b) λe=>?_;have:=h u k;rw[e,a]at this;cases this
   exact ih _ (by omega) u k f rfl
 intro v i;cases hc:T.testBit v
 ·exact (none _ v i hc rfl).elim
 ·rfl
end
theorem Bq:∀a b:List Int,S.Ty (a++b)=S.Ty a*S.Ty b
 |[],b=>by simp[S.Ty]
 |x::a,b=>by rw[VE,cy,cy,Bq a b,Xi]
theorem zK:∀{a va:List Int} (b vb:List Int),a.length=va.length->S.TC (a++b) (va++vb)=S.TC a va*S.Ty b+S.TC b vb
 |[],[],b,vb,_=>by simp[S.TC]
 |[],_::_,_,_,h=>by simp at h
 |_::_,[],_,_,h=>by simp at h
 | c::a,v::va,b,vb,h=>by rw[VE,VE,S.TC,S.TC,zK b vb (by simpa using h),Bq,X7,Xi];omega
theorem GN:∀{cs vs:List Int} (a:Int),(∀c∈cs,1<=c)->InC cs vs->S.Ur cs (a*S.Ty cs+S.TC cs vs)=a
 |[],[],a,_,_=>by simp[S.Ur,S.Ty,S.TC]
 |[],_::_,_,_,h=>by cases h
 |_::_,[],_,_,h=>by cases h
 | c::cs,v::vs,a,hc,h=>by
  obtain⟨⟨h1,h2⟩,k⟩:=h;have ih:=GN (cs:=cs) (vs:=vs) (a*c+v) (λx hx=>hc x (by simp[hx])) k;have e:a*S.Ty (c::cs)+S.TC (c::cs) (v::vs)=(a*c+v)*S.Ty cs+S.TC cs vs:=by rw[cy,S.TC,X7,Xi];omega
  rw[e];show S.Ur cs _ / c=a;rw[ih,Int.add_comm,Int.add_mul_ediv_right _ _ (by omega),Int.ediv_eq_zero_of_lt h1 h2];omega
theorem CS:∀{cs vs:List Int} (a:Int) (i:Nat),(∀c∈cs,1<=c)->InC cs vs->i<cs.length->S.Ui cs (a*S.Ty cs+S.TC cs vs) i=vs[i]?.getD 0
 |[],_,_,_,_,_,hi=>by simp at hi
 |_::_,[],_,_,_,h,_=>by cases h
 | c::cs,v::vs,a,i,hc,h,hi=>by
  obtain⟨⟨h1,h2⟩,b⟩:=h;have k:∀x∈cs,1<=x:=λx hx=>hc x (by simp[hx]);have e:a*S.Ty (c::cs)+S.TC (c::cs) (v::vs)=(a*c+v)*S.Ty cs+S.TC cs vs:=by rw[cy,S.TC,X7,Xi];omega
  rw[e];cases i with
  | zero =>
   show S.Ur cs _ % c=v;rw[GN _ k b,Int.add_comm,Int.add_mul_emod_self_right,Ym h1 h2]
  | succ i =>
   have:=CS (a*c+v) i k b (by simpa using hi);simpa [S.Ui] using this
theorem BI{cs vs:List Int}(hc:∀c∈cs,1<=c)(h:InC cs vs):S.TK cs (S.TC cs vs)=vs:=by
 have hl:=h.len;refine YI (by simp[S.TK,hl]) λi h1 h2=>?_;have hi:i<cs.length:=by simpa [S.TK] using h1
 have:=CS 0 i hc h hi;rw[Int.zero_mul,Int.zero_add,Vt h2,VB]at this;simp[S.TK,this]
theorem vQ{cs:List Int}(hc:∀c∈cs,1<=c)(h:Int):InC cs (S.TK cs h):=by refine AX (by simp[S.TK]) λi c v h1 h2=>?_;have hi:=(Vv.1 h1).1;rw[S.TK,Vw,XA hi,WM,Wj]at h2;have k:=hc c (VA h1);rw[<-h2,S.Ui,h1,VB];exact⟨YP _ (by omega),YT _ (by omega)⟩
theorem rM(cs:List Int)(h:Int):(S.TK cs h).length=cs.length:=by simp[S.TK]
theorem uf:∀{cs:List Int},(∀c∈cs,1<=c)->1<=S.Ty cs
 |[],_=>by decide
 | c::cs,h=>by rw[cy];have h1:=h c (by simp);have h2:=uf (cs:=cs) λx hx=>h x (by simp[hx]);exact Int.le_trans h1 (by have:=Int.mul_le_mul_of_nonneg_left h2 (show 0<=c by omega);omega)
theorem AW:∀(cs:List Int) (n:Nat),S.TC cs (List.replicate n 0)=0
 |[],n=>by cases n<;>rfl
 |_::_,0=>rfl
 |c::cs,n+1=>by rw[Xk,S.TC,AW cs n];simp
theorem Ef:∀{cs vs:List Int},cs.length=vs.length->(∀(i:Nat) (c:Int),cs[i]?=some c->vs[i]?.getD 0=c - 1)->S.TC cs vs=S.Ty cs - 1
 |[],[],_,_=>by decide
 |[],_::_,h,_=>by simp at h
 |_::_,[],h,_=>by simp at h
 | c::cs,v::vs,hl,h=>by
  have h0:=h 0 c rfl;have ih:=Ef (cs:=cs) (vs:=vs) (by simpa using hl) λi x hx=>by have:=h (i+1) x (by simpa using hx);simpa using this
  simp at h0;rw[S.TC,ih,cy,h0,Int.sub_mul];omega
theorem Nk{cs vs:List Int}(hl:cs.length=vs.length){i:Nat}{x:Int}(hi:vs[i]?=some x)(hm:∀(j:Nat) (c:Int),i<j->cs[j]?=some c->vs[j]?.getD 0=c - 1) :
  S.TC cs (vs.take i++(x+1)::List.replicate (vs.length - (i+1)) 0)=S.TC cs vs+1:=by
 have h:=(Vv.1 hi).1;obtain⟨c,hc⟩:∃c,cs[i]?=some c:=⟨_,Vt (by omega)⟩;have e1:cs=cs.take i++c::cs.drop (i+1):=by have:=W7 (l:=cs) (i:=i) (by omega);rw[Vt (by omega),Wj]at hc;rw[<-hc,<-this,WS]
 have e2:vs=vs.take i++x::vs.drop (i+1):=by have:=W7 (l:=vs) (i:=i) h;rw[Vt h,Wj]at hi;rw[<-hi,<-this,WS]
 have hlt:(cs.take i).length=(vs.take i).length:=by simp[hl]
 have k:S.TC (cs.drop (i+1)) (vs.drop (i+1))=S.Ty (cs.drop (i+1)) - 1:=by refine Ef (by simp[hl]) λj d hj=>?_;rw[WG]at hj ⊢;exact hm _ d (by omega) hj
 have h1:S.TC cs vs=S.TC (cs.take i) (vs.take i)*S.Ty (c::cs.drop (i+1))+(x*S.Ty (cs.drop (i+1))+S.TC (cs.drop (i+1)) (vs.drop (i+1))):=by
  conv=>lhs;rw[e1,e2,zK _ _ hlt,S.TC]
 have h2:S.TC cs (vs.take i++(x+1)::List.replicate (vs.length - (i+1)) 0)=S.TC (cs.take i) (vs.take i)*S.Ty (c::cs.drop (i+1))+((x+1)*S.Ty (cs.drop (i+1))+0):=by
  conv=>lhs;rw[e1,zK _ _ hlt,S.TC,AW]
 rw[h2,h1,k,X7];omega
section
variable {l:List Int}{k:Int}
def S.Tx(n:Net):List Int:=n.nodes.map (·.card)
def S.TA(cs ps:List Int):List Int:=ps.map λp=>cs[p.toNat]?.getD 0
def S.TJ(n:Net):List Nat:=n.nodes.map λx=>S.TP x.parents
def S.T4(gr card:Int)(r:List Int):Bool:=decide ((r.length:Int)=card)&&r.all (λx=>decide (0<=x)&&decide (x<=gr))&&decide (r.sum=gr)
def S.Uy(k:Int)(x:Node):Bool:=decide (1<=x.card)&&decide (x.card<=4)&&S.Uv x.parents k
def S.UO(n:Net)(x:Node):Bool:=decide ((x.rows.length:Int)=S.Ty (S.TA (S.Tx n) x.parents))&&x.rows.all (S.T4 n.grain x.card)
def S.T3(n:Net):Bool:=decide (1<=n.grain)&&decide (n.grain<=60)&&decide (1<=n.nodes.length)&&decide (n.nodes.length<=8)&&n.nodes.all (S.Uy n.nodes.length)&&decide (S.Ty (S.Tx n)<=1024)&&S.Uu (S.TJ n)&&n.nodes.all (S.UO n)
structure NR (n:Net):Prop where
 g1:1<=n.grain
 g2:n.grain<=60
 l1:1<=n.nodes.length
 l2:n.nodes.length<=8
 card:∀x∈n.nodes,1<=x.card/\x.card<=4
 places:∀x∈n.nodes,S.Uv x.parents n.nodes.length=true
 worlds:S.Ty (S.Tx n)<=1024
 acyc:S.Uu (S.TJ n)=true
 rows:∀x∈n.nodes,(x.rows.length:Int)=S.Ty (S.TA (S.Tx n) x.parents)
 row:∀x∈n.nodes,∀r∈x.rows,(r.length:Int)=x.card/\(∀y∈r,0<=y/\y<=n.grain)/\r.sum=n.grain
theorem jR:S.T3 n=true↔NR n:=by
 simp only[S.T3,S.Uy,S.UO,S.T4,Vx,VK,VQ];constructor
 ·rintro⟨⟨⟨⟨⟨⟨⟨a,b⟩,c⟩,d⟩,e⟩,f⟩,g⟩,h⟩;exact⟨a,b,c,d,λx hx=>(e x hx).1,λx hx=>(e x hx).2,f,g,λx hx=>(h x hx).1,λx hx r hr=>⟨((h x hx).2 r hr).1.1,((h x hx).2 r hr).1.2,((h x hx).2 r hr).2⟩⟩
 ·rintro⟨a,b,c,d,e1,e2,f,g,h1,h2⟩;exact⟨⟨⟨⟨⟨⟨⟨a,b⟩,c⟩,d⟩,λx hx=>⟨e1 x hx,e2 x hx⟩⟩,f⟩,g⟩,λx hx=>⟨h1 x hx,λr hr=>⟨⟨(h2 x hx r hr).1,(h2 x hx r hr).2.1⟩,(h2 x hx r hr).2.2⟩⟩⟩
theorem eS(h:S.Uv l k=true):∀x∈l,0<=x/\x<k:=by
 intro x hx;obtain⟨i,hi,he⟩:=XQ.1 hx;have:=VQ.1 h i (VM.2 hi);have e:l[i]?.getD 0=x:=by rw[Vt hi,he];rfl
 simp only[S.UC,Vx,VK,e]at this;omega
theorem Bo(h:S.Uv l k=true){i:Nat}{x y:Int}(hx:l[i]?=some x)(hy:l[i+1]?=some y):x<y:=by have hi:=(Vv.1 hy).1;have:=VQ.1 h (i+1) (VM.2 hi);simp only[S.UC,Vx,VK,hy,VB,Yw,hx]at this;simp at this;omega
theorem fS(h:S.Uv l k=true)(hk:0<=k):(l.length:Int)<=k:=by
 have key:∀(i:Nat) (x:Int),l[i]?=some x->(i:Int)<=x:=by
  intro i
  induction i with
  |zero=>intro x hx;have:=eS h x (VA hx);omega
  | succ i ih =>
   intro x hx;have hi:=(Vv.1 hx).1;have h1:=ih l[i] (Vt (by omega));have:=Bo h (Vt (show i<l.length by omega)) hx;omega
 by_cases hl:l.length=0
 ·omega
 ·have h1:=key (l.length - 1) l[l.length - 1] (Vt (by omega));have h2:=eS h _ (Wy (show l.length - 1<l.length by omega));omega
theorem NR.cs(h:NR n):∀c∈S.Tx n,1<=c/\c<=4:=λc hc=>by obtain⟨x,hx,rfl⟩:=Wk.1 hc;exact h.card x hx
theorem aH(n:Net):(S.Tx n).length=n.nodes.length:=by simp[S.Tx]
theorem eG{cs ps:List Int}(hc:∀c∈cs,1<=c/\c<=4)(hp:∀p∈ps,0<=p/\p<cs.length):∀c∈S.TA cs ps,1<=c/\c<=4:=λc h=>by obtain⟨p,h1,rfl⟩:=Wk.1 h;have h2:=hp p h1;rw[Vt (by omega),VB];exact hc _ (Wy _)
theorem Bl{cs ps:List Int}(h:InC cs vals)(hp:∀p∈ps,0<=p/\p<cs.length):InC (S.TA cs ps) (S.TA vals ps):=by refine AX (by simp[S.TA]) λi c v h1 h2=>?_;simp only[S.TA,Vw,Option.map_eq_some_iff]at h1 h2;obtain⟨p,k,rfl⟩:=h1;obtain⟨p',h4,rfl⟩:=h2;rw[k]at h4;injection h4 with h4;subst h4;have h5:=hp p (VA k);have a:cs[p.toNat]?=some cs[p.toNat]:=Vt (by omega);obtain⟨v,h7,h8⟩:=h.get a;rw[a,h7,VB,VB];exact h8
theorem H4(cs a b:List Int):S.TA cs (a++b)=S.TA cs a++S.TA cs b:=by simp[S.TA]
def S.TL(n:Net)(vals:List Int)(v:Nat):Int:=match n.nodes[v]? with
 |none=>1
 |some x=>(x.rows[(S.TC (S.TA (S.Tx n) x.parents) (S.TA vals x.parents)).toNat]?.getD [])[(vals[v]?.getD 0).toNat]?.getD 0
def S.UD(n:Net)(vals:List Int):Int:=S.Ty ((List.range n.nodes.length).map (S.TL n vals))
theorem NR.pin(h:NR n){x:Node}(hx:x∈n.nodes):∀p∈x.parents,0<=p/\p<(S.Tx n).length:=λp hp=>by rw[aH];exact eS (h.places x hx) p hp
theorem FN(h:NR n)(hv:InC (S.Tx n) vals){v:Nat}{x:Node}(hx:n.nodes[v]?=some x) :
  ∃(i:Nat) (r:List Int) (c y:Int),S.TC (S.TA (S.Tx n) x.parents) (S.TA vals x.parents)=(i:Int)/\i<x.rows.length/\x.rows[i]?=some r/\vals[v]?=some c/\0<=c/\c<x.card/\r[c.toNat]?=some y/\S.TL n vals v=y/\0<=y/\y<=n.grain:=by
 have hm:=VA hx;have hi:=iG (eG h.cs (h.pin hm)) (Bl hv (h.pin hm));rw[<-h.rows x hm]at hi;obtain⟨i,he⟩:=Vy hi.1;have k:i<x.rows.length:=by omega
 have hc:(S.Tx n)[v]?=some x.card:=by simp[S.Tx,hx]
 obtain⟨c,h1,h2,a⟩:=hv.get hc;obtain⟨d,b,-⟩:=h.row x hm x.rows[i] (Wy k);have hcl:c.toNat<(x.rows[i]).length:=by omega
 refine⟨i,x.rows[i],c,(x.rows[i])[c.toNat],he,k,Vt k,h1,h2,a,Vt hcl,?_,b _ (Wy hcl)⟩;simp only[S.TL,hx,he,h1,VU,Vt k,VB,Vt hcl]
theorem jf:∀{l:List Int},(∀x∈l,0<=x/\x<=60)->0<=S.Ty l/\S.Ty l<=60 ^ l.length
 |[],_=>by decide
 | x::l,h=>by have h1:=jf (l:=l) λy hy=>h y (by simp[hy]);have h2:=h x (by simp);rw[cy,Wd,Yn,Xt x];refine⟨XU h1.1 h2.1,Int.le_trans (Int.mul_le_mul_of_nonneg_left h2.2 h1.1) (X3 h1.2 (by decide))⟩
theorem JZ{k:Nat}(h:k<=8):(60:Int) ^ k<=167961600000000:=by
 have hk:k=0\/k=1\/k=2\/k=3\/k=4\/k=5\/k=6\/k=7\/k=8:=by omega
 rcases hk with rfl|rfl|rfl|rfl|rfl|rfl|rfl|rfl|rfl<;>decide
theorem KU(h:NR n)(hv:InC (S.Tx n) vals){v:Nat}(hi:v<n.nodes.length):0<=S.TL n vals v/\S.TL n vals v<=60:=by obtain⟨i,r,c,y,-,-,-,-,-,-,-,e,a,b⟩:=FN h hv (Vt hi);have:=h.g2;omega
theorem uO(h:NR n)(hv:InC (S.Tx n) vals){j:Nat}(hj:j<=n.nodes.length):0<=S.Ty ((List.range j).map (S.TL n vals))/\S.Ty ((List.range j).map (S.TL n vals))<=167961600000000:=by
 have h1:=jf (l:=(List.range j).map (S.TL n vals)) λx hx=>by obtain⟨i,hi,rfl⟩:=Wk.1 hx;exact KU h hv (by have:=VM.1 hi;omega)
 have h2:=JZ (k:=((List.range j).map (S.TL n vals)).length) (by have:=h.l2;simp;omega);omega
theorem BK(n:Net)(vals:List Int)(j:Nat):S.Ty ((List.range (j+1)).map (S.TL n vals))=S.Ty ((List.range j).map (S.TL n vals))*S.TL n vals j:=by rw[WC,WJ,Yh,iH]
def S.Uj(n:Net)(p:Nat->Bool):Nat->Int
 |0=>0
 |j+1=>S.Uj n p j+if p j then S.UD n (S.TK (S.Tx n) (j:Int)) else 0
theorem Cr(h:NR n)(hv:InC (S.Tx n) vals):0<=S.UD n vals/\S.UD n vals<=167961600000000:=uO h hv (Vu _)
theorem vO{n:Net}(h:NR n)(p:Nat->Bool):∀j:Nat,0<=S.Uj n p j/\S.Uj n p j<=167961600000000*j
 |0=>by simp[S.Uj]
 | j+1=>by
  have ih:=vO h p j;have hw:=Cr h (vQ (λc hc=>(h.cs c hc).1) (j:Int));rw[S.Uj]
  split<;>omega
def S.UU(n:Net):Nat:=(S.Ty (S.Tx n)).toNat
def S.UJ(n:Net)(e:List Int):Int:=S.Uj n (λw=>S.T_ (S.TK (S.Tx n) (w:Int)) e) (S.UU n)
theorem NR.wl(h:NR n):1<=S.UU n/\S.UU n<=1024/\((S.UU n:Nat):Int)=S.Ty (S.Tx n):=by have h1:=uf λc hc=>(h.cs c hc).1;have h2:=h.worlds;unfold S.UU;omega
theorem tM(h:NR n)(e:List Int):0<=S.UJ n e/\S.UJ n e<=171992678400000000:=by have h1:=vO h (λw=>S.T_ (S.TK (S.Tx n) (w:Int)) e) (S.UU n);have h2:=h.wl;unfold S.UJ;omega
def S.UR(n:Net):Int:=S.Ty (List.replicate n.nodes.length n.grain)
def S.TY(n:Net)(e:List Int):Bool:=decide (e.length=n.nodes.length)&&(List.range e.length).all λv=>decide (-1<=e[v]?.getD 0)&&decide (e[v]?.getD 0<(S.Tx n)[v]?.getD 0)
def S.Ue(n:Net)(e:List Int):Int:=if S.T3 n then (if S.TY n e then 0 else 2) else 50
end
section
variable {b card:Nat}
def S.U4(b card p:Nat):Nat:=p / (b*card)*b+p % b
def S.U5(b card p:Nat):Nat:=p / b % card
def S.Vh(rows:List (List Int))(b card t:Nat):List Int:=(List.range (rows.length*card)).map λp=>if S.U4 b card p*card+S.U5 b card p<t then (rows[S.U4 b card p]?.getD [])[S.U5 b card p]?.getD 0 else 0
def S.Vi(rows:List (List Int))(b card:Nat):List Int:=(List.range (rows.length*card)).map λp=>(rows[S.U4 b card p]?.getD [])[S.U5 b card p]?.getD 0
end
def S.U8(ps:List Int)(k:Nat)(v:Int):List Int:=ps.take k++v::ps.drop k
theorem JN{e:List Int}:S.T_ vals e=true↔∀i,i<e.length->e[i]?.getD 0<0\/e[i]?.getD 0=vals[i]?.getD 0:=by simp only[S.T_,VQ,VM,S.UZ,Wh,VK]
section
variable {w:List Int}
def S.sm(F:Nat->Int):Nat->Int
 |0=>0
 |j+1=>S.sm F j+F j
theorem cE{F G:Nat->Int}:∀{k:Nat},(∀i,i<k->F i=G i)->S.sm F k=S.sm G k
 |0,_=>rfl
 |k+1,h=>by rw[S.sm,S.sm,cE λi hi=>h i (by omega),h k (by omega)]
theorem ON(F G:Nat->Int):∀k,S.sm (λi=>F i+G i) k=S.sm F k+S.sm G k
 |0=>rfl
 |k+1=>by rw[S.sm,S.sm,S.sm,ON F G k];omega
theorem Ip(c:Int)(F:Nat->Int):∀k,S.sm (λi=>c*F i) k=c*S.sm F k
 |0=>by simp[S.sm]
 |k+1=>by rw[S.sm,S.sm,Ip c F k,YY]
theorem zX:∀k:Nat,S.sm (λ_=>0) k=0
 |0=>rfl
 |k+1=>by rw[S.sm,zX k];rfl
theorem OO(F:Nat->Int)(a:Nat):∀b,S.sm F (a+b)=S.sm F a+S.sm (λj=>F (a+j)) b
 |0=>by simp[S.sm]
 |b+1=>by rw[<-XE,S.sm,S.sm,OO F a b];omega
theorem G6(F:Nat->Int)(b:Nat):∀a,S.sm F (a*b)=S.sm (λi=>S.sm (λj=>F (i*b+j)) b) a
 |0=>by simp[S.sm]
 |a+1=>by rw[Wc,Xc,OO,S.sm,G6 F b a]
def S.Ux:List Int->(List Int->Int)->Int
 |[],F=>F []
 |c::cs,F=>S.sm (λx=>S.Ux cs λvs=>F ((x:Int)::vs)) c.toNat
theorem qC:∀{cs:List Int} {F G:List Int->Int},(∀vs,InC cs vs->F vs=G vs)->S.Ux cs F=S.Ux cs G
 |[],_,_,h=>h [] trivial
 | c::cs,F,G,h=>by rw[S.Ux,S.Ux];exact cE λi hi=>qC λvs hv=>h _ ⟨⟨by omega,by omega⟩,hv⟩
theorem Jw:∀{a va b vb:List Int},InC a va->InC b vb->InC (a++b) (va++vb)
 |[],[],_,_,_,h=>h
 |_::_,_::_,_,_,h1,h2=>⟨h1.1,Jw h1.2 h2⟩
theorem vP:∀{cs pre pv:List Int} (F:List Int->Int),(∀c∈pre++cs,1<=c)->InC pre pv ->
  S.sm (λj=>F (S.TK (pre++cs) (S.TC pre pv*S.Ty cs+(j:Int)))) (S.Ty cs).toNat=S.Ux cs λvs=>F (pv++vs)
 | [],pre,pv,F,hc,hp=>by
  have e:S.TK pre (S.TC pre pv*S.Ty []+((0:Nat):Int))=pv:=by
   have:S.TC pre pv*S.Ty []+((0:Nat):Int)=S.TC pre pv:=by simp[S.Ty]
   rw[this];exact BI (λc h=>hc c (by simp[h])) hp
  show S.sm _ 1=F (pv++[]);rw[S.sm,S.sm,VV,VV,e];omega
 | c::cs,pre,pv,F,hc,hp=>by
  have l:=hc c (by simp);have m:1<=S.Ty cs:=uf λx hx=>hc x (by simp[hx]);obtain⟨P,a⟩:=Vy (show 0<=S.Ty cs by omega);obtain⟨C,k⟩:=Vy (show 0<=c by omega);have e1:(S.Ty (c::cs)).toNat=C*P:=by rw[cy,a,k,<-XX,VU]
  rw[e1,G6,S.Ux,k,VU];refine cE λi hi=>?_;have ih:=vP (cs:=cs) (pre:=pre++[(C:Int)]) (pv:=pv++[(i:Int)]) F (by rw[<-k];simpa using hc) (Jw hp ⟨⟨by omega,by omega⟩,trivial⟩);rw[a,VU]at ih;have el:=hp.len;rw[zK _ _ el.symm]at ih;have e2:∀vs,pv++[(i:Int)]++vs=pv++(i:Int)::vs:=λvs=>by simp
  simp only[e2]at ih;rw[<-ih];refine cE λj _=>?_;have b:pre++[(C:Int)]++cs=pre++(C:Int)::cs:=by simp
  rw[b];congr 2;have d:S.TC [(C:Int)] [(i:Int)]=(i:Int):=by simp[S.TC,S.Ty]
  have f:S.Ty [(C:Int)]=(C:Int):=by simp[S.Ty]
  rw[d,f,cy,a,X7,Int.natCast_add,XX,Xi];omega
def S.TM:List Int->List Nat->List Int->List Int
 |w,v::r,x::xs=>S.TM (w.set v x) r xs
 |w,_,_=>w
def S.TH(cs:List Int):List Nat->(List Int->Int)->List Int->Int
 |[],F,w=>F w
 |v::r,F,w=>S.sm (λx=>S.TH cs r F (w.set v (x:Int))) (cs[v]?.getD 0).toNat
theorem tP:∀(w:List Int) (l:List Nat) (xs:List Int),(S.TM w l xs).length=w.length
 |w,[],_=>by simp[S.TM]
 |w,v::r,[]=>by simp[S.TM]
 |w,v::r,x::xs=>by rw[S.TM,tP];simp
theorem zE{cs:List Int}{F:List Int->Int}:∀{l:List Nat} {w:List Int},S.TH cs l F w=S.Ux (l.map λv=>cs[v]?.getD 0) λxs=>F (S.TM w l xs)
 |[],w=>by simp[S.TH,S.Ux,S.TM]
 | v::r,w=>by
  rw[S.TH,W4,S.Ux];refine cE λi _=>?_;rw[zE]
  rfl
theorem Hr{cs:List Int}{F:List Int->Int}{l:List Nat}(hc:∀v∈l,1<=cs[v]?.getD 0) :
  S.sm (λj=>F (S.TM w l (S.TK (l.map λv=>cs[v]?.getD 0) (j:Int)))) (S.Ty (l.map λv=>cs[v]?.getD 0)).toNat=S.TH cs l F w:=by
 have h:=vP (cs:=l.map λv=>cs[v]?.getD 0) (pre:=[]) (pv:=[]) (λxs=>F (S.TM w l xs)) (by simpa using hc) trivial;have e:∀j:Nat,S.TC [] []*S.Ty (l.map λv=>cs[v]?.getD 0)+(j:Int)=(j:Int):=λj=>by simp[S.TC]
 simp only[VH,e]at h;rw[h,zE]
theorem L4{cs:List Int}:∀{l:List Nat} {G:Nat->List Int->Int} {w:List Int} (k:Nat),S.TH cs l (λw=>S.sm (λx=>G x w) k) w=S.sm (λx=>S.TH cs l (G x) w) k
 |[],_,_,_=>rfl
 | v::r,G,w,k=>by
  have key:∀m:Nat,S.sm (λi=>S.sm (λx=>S.TH cs r (G x) (w.set v (i:Int))) k) m=S.sm (λx=>S.sm (λi=>S.TH cs r (G x) (w.set v (i:Int))) m) k:=by
   intro m
   induction m with
   |zero=>simp only[S.sm];rw[zX]
   |succ m ih=>simp only[S.sm];rw[ih,<-ON]
  rw[S.TH,cE λi _=>L4 k,key];exact cE λx _=>rfl
theorem DF{cs:List Int}{v:Nat}{x:Int}:∀{l:List Nat} {F:List Int->Int} {w:List Int},v ∉ l->S.TH cs l F (w.set v x)=S.TH cs l (λw=>F (w.set v x)) w
 |[],_,_,_=>rfl
 | u::r,F,w,h=>by rw[S.TH,S.TH];refine cE λi _=>?_;simp only[VP,not_or]at h;rw[List.set_comm _ _ h.1,DF h.2]
theorem Ab{cs:List Int}{p q:Nat->Bool}(hpq:∀v,p v=true->q v=false):∀{L:List Nat} {F:List Int->Int} {w:List Int},L.Nodup->S.TH cs (L.filter λv=>p v || q v) F w=S.TH cs (L.filter p) (λw=>S.TH cs (L.filter q) F w) w
 |[],_,_,_=>rfl
 | v::r,F,w,h=>by
  rw[Yx]at h;cases hp:p v with
  | true =>
   have hq:=hpq v hp;rw[X9 (by simp[hp]),X9 hp,XN (by simp[hq]),S.TH,S.TH];exact cE λi _=>Ab hpq h.2
  | false =>
   cases hq:q v with
   | true =>
    rw[X9 (by simp[hq]),XN (by simp[hp]),X9 hq,S.TH];rw[cE (G:=λi=>S.TH cs (r.filter p) (λw=>S.TH cs (r.filter q) F (w.set v (i:Int))) w) λi _=>?_,<-L4]
    ·rfl
    ·rw[Ab hpq h.2,DF (λhm=>h.1 (YQ.1 hm).1)]
   | false =>
    rw[XN (by simp[hp,hq]),XN (by simp[hp]),XN (by simp[hq])];exact Ab hpq h.2
def Ind(l:List Nat)(F:List Int->Int):Prop:=∀v∈l,∀(x:Int) (w:List Int),F (w.set v x)=F w
theorem Pq{cs:List Int}{l:List Nat}{F:List Int->Int}{v:Nat}{x:Int}(hv:v ∉ l)(hF:∀(x:Int) (w:List Int),F (w.set v x)=F w):S.TH cs l F (w.set v x)=S.TH cs l F w:=by rw[DF hv];congr 1;exact funext λw=>hF x w
theorem IE{cs:List Int}{G H:List Int->Int}:∀{l:List Nat} {w:List Int},Ind l G->S.TH cs l (λw=>G w*H w) w=G w*S.TH cs l H w
 |[],_,_=>rfl
 | v::r,w,h=>by rw[S.TH,S.TH,<-Ip];refine cE λi _=>?_;rw[IE λu hu=>h u (by simp[hu]),h v (by simp)]
theorem L3{cs:List Int}{a b:List Nat}{G H:List Int->Int}(hab:∀v∈a,v ∉ b)(hG:Ind b G)(hH:Ind a H) :
  S.TH cs a (λw=>S.TH cs b (λw=>G w*H w) w) w=S.TH cs a G w*S.TH cs b H w:=by
 have e:(λw=>S.TH cs b (λw=>G w*H w) w)=λw=>G w*S.TH cs b H w:=funext λw=>IE hG;rw[e];have hb:Ind a (S.TH cs b H):=λv hv x w=>Pq (hab v hv) (hH v hv);have key:∀{a:List Nat} {K:List Int->Int} {w:List Int},Ind a K->S.TH cs a (λw=>G w*K w) w=S.TH cs a G w*K w:=by
  intro a
  induction a with
  |nil=>intro K w _;rfl
  | cons v r ih =>
   intro K w hK;rw[S.TH,S.TH,cE (G:=λi=>K w*S.TH cs r G (w.set v (i:Int))) λi _=>?_,Ip,Xt];rw[ih λu hu=>hK u (by simp[hu]),hK v (by simp),Xt]
 exact key hb
theorem Hh:∀cs:List Int,S.Ux cs (λ_=>0)=0
 |[]=>rfl
 |c::cs=>by rw[S.Ux,cE (G:=λ_=>0) λi _=>Hh cs,zX]
theorem NM{v y:Int}{vs e:List Int}:S.T_ (v::vs) (y::e)=((decide (y<0) || decide (y=v))&&S.T_ vs e):=by
 rw[WU,Vx,JN,JN,Wh,VK,VK];constructor
 ·intro h;refine⟨by have:=h 0 (by simp);simpa using this,λi hi=>?_⟩;have:=h (i+1) (by simp;omega);simpa using this
 ·rintro⟨h1,h2⟩ i hi;cases i with
  |zero=>simpa using h1
  |succ i=>simpa using h2 i (by simpa using hi)
theorem OP{G:Nat->Int}{Y:Nat}:∀{m:Nat},(∀x,x≠Y->G x=0)->Y<m->S.sm G m=G Y
 |0,_,h=>by omega
 | m+1,hG,h=>by
  rw[S.sm]
  by_cases e1:Y=m
  ·subst e1;rw[cE (G:=λ_=>0) λi hi=>hG i (by omega),zX];omega
  ·rw[OP hG (by omega),hG m (λe2=>e1 e2.symm)];omega
theorem Hg{F:List Int->Int}:∀{cs e pc pv:List Int},e.length=cs.length->pv.length=pc.length->(∀(i:Nat) (x:Int),e[i]?=some x->x = -1\/0<=x/\x<cs[i]?.getD 0) ->
  S.Ux cs (λvs=>if S.T_ vs e then F (pv++vs) else 0) =
   S.TH (pc++cs) ((List.range' pc.length cs.length).filter λv=>decide ((pv++e)[v]?.getD 0 = -1)) F (pv++e)
 | [],e,pc,pv,he,hp,hv=>by have:e=[]:=Yt.1 he;subst this;simp[S.Ux,S.TH,S.T_]
 |c::cs,[],pc,pv,he,hp,hv=>by simp at he
 | c::cs,y::e,pc,pv,he,hp,hv=>by
  have d:e.length=cs.length:=by simpa using he
  have f:∀(i:Nat) (x:Int),e[i]?=some x->x = -1\/0<=x/\x<cs[i]?.getD 0:=λi x h=>by simpa using hv (i+1) x (by simpa using h)
  have ih:=λ(z:Int)=>Hg (F:=F) (cs:=cs) (e:=e) (pc:=pc++[c]) (pv:=pv++[z]) d (by simp[hp]) f;have ea:∀(z:Int) (vs:List Int),pv++[z]++vs=pv++z::vs:=λz vs=>by simp
  have eb:pc++[c]++cs=pc++c::cs:=by simp
  simp only[ea,eb,Wr,XC]at ih;have ey:(pv++y::e)[pc.length]?.getD 0=y:=by rw[VW (by omega)];simp[hp]
  have ec:(pc++c::cs)[pc.length]?.getD 0=c:=by simp
  have hr:List.range' pc.length (c::cs).length=pc.length::List.range' (pc.length+1) cs.length:=by rw[Wd,List.range'_succ]
  have b:∀z:Int,(pv++y::e).set pc.length z=pv++z::e:=λz=>by rw[Xl _ _ (by omega)];simp[hp]
  have a:∀z:Int,((List.range' (pc.length+1) cs.length).filter λv=>decide ((pv++z::e)[v]?.getD 0 = -1))=(List.range' (pc.length+1) cs.length).filter λv=>decide ((pv++y::e)[v]?.getD 0 = -1):=λz=>by refine YB λv hv=>?_;have:pc.length+1<=v:=(List.mem_range'_1.1 hv).1;rw[VW (by omega),VW (by omega)];obtain⟨k,hk⟩:∃k,v - pv.length=k+1:=⟨v - pv.length - 1,by omega⟩;rw[hk];simp
  rw[S.Ux,hr];simp only[NM];rcases hv 0 y (by simp) with h|⟨h1,h2⟩
  ·rw[X9 (by rw[ey,h];rfl),S.TH,ec];refine cE λx hx=>?_;rw[b,<-a (x:Int),<-ih];refine qC λvs _=>?_;rw[Wz (show y<0 by omega),Yl,WA]
  ·rw[XN (by rw[ey];simp;omega)];have h2:y<c:=by simpa using h2
   obtain⟨Y,rfl⟩:=Vy h1;rw[OP (Y:=Y) (λx hx=>?_) (by omega),<-ih]
   ·refine qC λvs _=>?_;rw[Wz (rfl:((Y:Nat):Int)=(Y:Int)),YH,WA]
   ·rw[qC (G:=λ_=>0) λvs _=>?_,Hh];rw[Vz];rw[We (show ¬((Y:Nat):Int)<0 by omega),We (show ¬((Y:Nat):Int)=(x:Int) by omega)];simp
end
end
end Hx
