/- A part of the proof: what the functions of the chapter compute. -/
import Derived.Test.YtikpmbiklokdiaaGreatHx9
set_option linter.all false
set_option maxRecDepth 20000
set_option maxHeartbeats 8000000
namespace Hx
open Go
noncomputable section
variable {g:G}{n:Net}{d k i q A k2 b:Nat}{v w:AV}{P P2:Nat->Prop}{l vals:List Int}{x:Node}{t:T}{Q:QT}{h:H}{K:AV->G->Prop}
end
end Hx
section
section
namespace Hx
open Go
noncomputable section
theorem ae{α:Type}{l:List α}{j:Nat}(h:j<l.length):∃x,l[j]?=some x/\l.take (j+1)=l.take j++[x]/\x∈l :=
 ⟨l[j],Qu h,by rw[SG,Qu h];rfl,RZ h⟩
def S.PX(l:List Int):Int:=l.foldl (λs x=>IntKind.wrap .i64 (s*x)) 1
theorem MJ[XOc]{d:Nat}{g:G}{v:AV}(hd:0<d)(hv:zf g.h v)(hl:(nB g.h v).length<9223372036854775808) :
  aq C0 d 30 [v] g=.val (Uk (S.PX (nB g.h v))):=by
 obtain⟨v',e,hr,k⟩:=I9 hv hl d;generalize nB g.h v=l at hr k hl ⊢;rw[wY];refine eF Ap (xs:=[v']) (by simp only[aF,e]) (by simp[px]) hd ?_;simp only[sz,simprocAttr,px];refine sP hl k (λj t df g=>df=[]/\tat t 3=Uk (S.PX (l.take j))) ⟨rfl,by simp[sx,S.PX]⟩ (by simp[sx]) (by simp[sx]) (by decide)
  (by rintro j t df g v s (rfl|rfl|rfl|rfl|rfl|rfl|rfl)<;>simp[sx]) ?_ ?_
 ·rintro j t df g c ⟨rfl,a⟩ h4 h0;obtain⟨x,hx,b,hm⟩:=ae c;simp only[sz,simprocAttr,hr,h0,a,h4,hx,c,QJ,Qx,Rz,ci,b,S.PX,SZ,SK,List.foldl_nil]
 ·rintro t df g ⟨rfl,a⟩ -;rw[Q4]at a;simp only[sz,simprocAttr,qd,a]
end
end Hx
end
section
namespace Hx
open Go
noncomputable section
def S.PL(l:List Int)(n:Int)(i:Nat):Bool:=decide (0<=l[i]?.getD 0)&&decide (l[i]?.getD 0<n)&&(i == 0 || decide (l[i - 1]?.getD 0<l[i]?.getD 0))
def S.Px(l:List Int)(n:Int):Bool:=(List.range l.length).all (S.PL l n)
end
end Hx
end
section
namespace Hx
open Go
noncomputable section
def S.Ph(n:Nat):Nat:=1*2 ^ n % 18446744073709551616
def S.O9(l:List Int):Nat:=l.foldl (λs x=>s ||| S.Ph x.toNat) 0
theorem mX(n:Nat):S.Ph n<18446744073709551616:=R_ _ (by decide)
theorem wH{α:Type}(f:α->Nat)(hf:∀a,f a<18446744073709551616):∀(l:List α) (s:Nat),s<18446744073709551616->l.foldl (λs x=>s ||| f x) s<18446744073709551616
 |[],_,h=>h
 |a::l,s,h=>wH f hf l _ (G9 h (hf a))
theorem sC(l:List Int):S.O9 l<18446744073709551616:=wH _ (λa=>mX _) l 0 (by decide)
theorem Bg(l:List Int)(x:Int):S.O9 (l++[x])=S.O9 l ||| S.Ph x.toNat:=by simp[S.O9]
theorem eK(k':IntKind)(n:Nat):bT .shl (Um 1) (.int k' (n:Int))=.val (Um (S.Ph n:Int)):=LA k' 1 n
end
end Hx
end
section
namespace Hx
open Go
noncomputable section
def S.Pq(s v:Nat):Bool:=s / 2 ^ v &&& 1 == 1
theorem J3[XOc]{d:Nat}{g:G}{s v:Nat}(hd:0<d)(hs:s<18446744073709551616)(hv:v<9223372036854775808) :
  aq C0 d 97 [Um (s:Int),Uk (v:Int)] g=.val (.bool (S.Pq s v)):=by
 rw[Ah];refine d7 Df (xs:=[Um (s:Int),Uk (v:Int)]) (by simp only[aF,bJ 0]) (by simp[tS]) hd ?_;have h1:s / 2 ^ v<18446744073709551616:=SW (Tq _ _) hs;have h2:bT .and (Um ((s / 2 ^ v:Nat):Int)) (Um 1)=.val (Um ((s / 2 ^ v &&& 1:Nat):Int)):=ut (s / 2 ^ v) 1 h1 (by decide);simp only[sz,simprocAttr,tS,jp (show (0:Int)<=(v:Int) by omega) (by omega),sj _ _ _ hs,h2,S.Pq];congr 1;generalize s / 2 ^ v &&& 1=z;rw[SH,decide_eq_true_iff,beq_iff_eq];omega
def S.Ps(p:List Nat)(s:Nat)(j:Nat):Nat:=(List.range j).foldl (λs v=>if S.Pq s v then s ||| p[v]?.getD 0 else s) s
def S.up(p:List Nat)(s:Nat)(j:Nat):Nat:=(List.range j).foldl (λs _=>S.Ps p s p.length) s
theorem EI{p:List Nat}(hp:∀x∈p,x<18446744073709551616){s:Nat}(hs:s<18446744073709551616):∀j,S.Ps p s j<18446744073709551616:=by
 intro j
 induction j with
 |zero=>exact hs
 | succ j ih =>
  unfold S.Ps at ih ⊢;rw[Sd,SZ];simp only[SK,List.foldl_nil]
  split
  ·refine G9 ih ?_;cases h:p[j]? with
   |none=>decide
   |some x=>exact hp x (Qz h)
  ·exact ih
theorem gE(p:List Nat)(s j:Nat):S.Ps p s (j+1)=if S.Pq (S.Ps p s j) j then S.Ps p s j ||| p[j]?.getD 0 else S.Ps p s j:=by unfold S.Ps;rw[Sd,SZ];rfl
theorem Nr{p:List Nat}(hp:∀x∈p,x<18446744073709551616){s:Nat}(hs:s<18446744073709551616):∀j,S.up p s j<18446744073709551616:=by
 intro j
 induction j with
 |zero=>exact hs
 | succ j ih =>
  unfold S.up at ih ⊢;rw[Sd,SZ];exact EI hp ih _
theorem mV(p:List Nat)(s j:Nat):S.up p s (j+1)=S.Ps p (S.up p s j) p.length:=by unfold S.up;rw[Sd,SZ];rfl
theorem OM[XOc]{d k:Nat}{g:G}{P:Nat->Prop}{v:AV}{p:List Nat}{s:Nat}(hd:0<d)(hv:SlR P k g.h p v)(hs:s<18446744073709551616) :
  aq C0 d 151 [v,Um (s:Int)] g=.val (Um (S.up p s p.length:Int)):=by
 obtain⟨v',e,b⟩:=bE hv d;have hp:=o5 hv;have hl:=hv.1;rw[Ai];refine eF Dg (xs:=[v',Um (s:Int)]) (by simp only[aF,e,bJ 0]) (by simp[tT]) hd ?_;simp only[sz,simprocAttr,tT];refine sP hl (b .nil).len (λj t df g=>df=[]/\tat t 1=Um (S.up p s j:Int)) ⟨rfl,by simp[sx,S.up]⟩ (by simp[sx]) (by simp[sx]) (by decide)
  (by rintro j t df g v s (rfl|rfl|rfl|rfl|rfl|rfl|rfl)<;>simp[sx]) ?_ ?_
 ·rintro j t df g c ⟨rfl,h1⟩ h5 h0;simp only[sz,simprocAttr];have hu:=Nr hp hs j;refine sP hl (b .nil).len (λi t df g=>df=[]/\tat t 5=Uk (j:Int)/\tat t 1=Um (S.Ps p (S.up p s j) i:Int)) ⟨rfl,by simp[sx,h5],by simp[sx,S.Ps,h1]⟩ (by simp[sx]) (by simp[sx,h0]) (by decide)
   (by rintro j t df g v s (rfl|rfl|rfl|rfl|rfl|rfl|rfl)<;>simp[sx]) ?_ ?_
  ·rintro i t df g hi ⟨rfl,h5,h1⟩ a h0;have hr:=EI hp hu i;obtain⟨x,hx,-,hm⟩:=ae hi;simp only[sz,simprocAttr,h1,a,J3 (QM d) hr (show i<9223372036854775808 by omega)];refine ba (λhb=>?_) (λhb=>?_)
   ·simp only[sz,simprocAttr,h0,h1,h5,a,(b g.h).nats,hi,hx,QJ,Qx,Rz,cu,vH _ _ hr (hp x hm)];rw[gE,hb,hx];rfl
   ·simp only[sx,sy,↓reduceIte,Nat.reduceEqDiff,h0,h1,h5,a];rw[gE,hb];rfl
  ·rintro t df g ⟨rfl,h5,h1⟩ h0;simp only[sx,sy,↓reduceIte,h0,h5,h1];rw[mV]
 ·rintro t df g ⟨rfl,h1⟩ -;simp only[sz,simprocAttr,tk,h1]
def S.Py(p:List Nat):Bool:=(List.range p.length).all λv=>!S.Pq (S.up p (p[v]?.getD 0) p.length) v
theorem wL[XOc]{d k:Nat}{g:G}{P:Nat->Prop}{v:AV}{p:List Nat}(hd:0<d)(hv:SlR P k g.h p v) :
  aq C0 d 124 [v] g=.val (.bool (S.Py p)):=by
 obtain⟨v',e,c⟩:=bE hv d;have hp:=o5 hv;have hl:=hv.1;rw[tC];refine d7 vZ (xs:=[v']) (by simp only[aF,e]) (by simp[jT]) hd ?_;simp only[sz,simprocAttr,jT];refine sP hl (c .nil).len (λj t df g=>df=[]/\(List.range j).all (λv=>!S.Pq (S.up p (p[v]?.getD 0) p.length) v)=true) ⟨rfl,rfl⟩ (by simp[sx]) (by simp[sx]) (by decide)
  (by rintro j t df g v s (rfl|rfl|rfl|rfl|rfl|rfl|rfl)<;>simp[sx]) ?_ ?_
 ·rintro j t df g b ⟨rfl,hw⟩ f h0;obtain⟨x,hx,-,hm⟩:=ae b;have a:=hp x hm;simp only[sz,simprocAttr,h0,f,(c g.h).nats,b,hx,QJ,Qx,Rz,cu,OM (QM d) (c g.h) a,J3 (QM d) (Nr hp a _) (show j<9223372036854775808 by omega)];refine ba (λhb=>?_) (λhb=>?_)
  ·simp only[sz,simprocAttr];rw[S.Py,gk b (by rw[hx];simp[hb])]
  ·simp only[sx,sy,↓reduceIte,Nat.reduceEqDiff,h0,f];rw[dj,hw,hx];simp[hb]
 ·rintro t df g ⟨rfl,hw⟩ h0;simp only[sz,simprocAttr,lI];rw[S.Py,hw]
end
end Hx
end
section
namespace Hx
open Go
noncomputable section
def S.O4(l:List Int):Int:=l.foldl (·*·) 1
theorem sG(l:List Int)(x:Int):S.O4 (l++[x])=S.O4 l*x:=by simp[S.O4]
theorem dI{a b:Nat}(h:a<=b):(4:Int) ^ a<=4 ^ b:=by
 obtain⟨c,rfl⟩:∃c,b=a+c:=⟨b - a,by omega⟩
 induction c with
 |zero=>exact Int.le_refl _
 | succ c ih =>
  have:=ih (by omega);rw[show a+(c+1)=(a+c)+1 from rfl,Int.pow_succ];have h0:(0:Int)<=4 ^ (a+c):=Int.le_of_lt (Int.pow_pos (by decide));omega
theorem cF(a:Int)(l:List Int):S.O4 (a::l)=a*S.O4 l:=by
 have:∀(l:List Int) (s:Int),l.foldl (·*·) s=s*l.foldl (·*·) 1:=by
  intro l
  induction l with
  |nil=>intro s;simp
  |cons x l ih=>intro s;rw[SK,ih,SK,ih (1*x),Int.one_mul,Tm]
 unfold S.O4;rw[SK,this,Int.one_mul]
theorem bO:∀{l:List Int},(∀x∈l,1<=x/\x<=4)->1<=S.O4 l/\S.O4 l<=4 ^ l.length
 |[],_=>⟨by decide,by decide⟩
 | a::l,h=>by
  obtain⟨h1,h2⟩:=bO (l:=l) λx hx=>h x (by simp[hx]);obtain⟨k,h4⟩:=h a (by simp);rw[cF,Q9,Int.pow_succ,Int.mul_comm (4 ^ l.length)];constructor
  ·have:=Ty k h1 (by decide) (by omega);simpa using this
  ·exact Ty h4 h2 (by omega) (by decide)
theorem Bt{b:Int}(hb:0<=b):∀{l:List Int},(∀x∈l,0<=x/\x<=b)->0<=l.sum/\l.sum<=b*l.length
 |[],_=>by simp
 | a::l,h=>by
  obtain⟨h1,h2⟩:=Bt hb (l:=l) λx hx=>h x (by simp[hx]);obtain⟨k,h4⟩:=h a (by simp);rw[Sv,Q9];have:b*((l.length+1:Nat):Int)=b*(l.length:Int)+b:=by rw[Tn,Tw];simp
  omega
theorem vz(l:List Int)(x:Int):(l++[x]).sum=l.sum+x:=by simp
end
end Hx
end
section
namespace Hx
open Go
noncomputable section
def S.Qj(m:Causal)(p:Int):Int:=(m.nodes[p.toNat]?.map (·.card)).getD 0
def S.Qn(m:Causal)(r:Int):Int:=(m.roots[r.toNat]?.map λr=>(r.length:Int)).getD 0
end
end Hx
end
section
namespace Hx
open Go
noncomputable section
def S.PU(a b:Nat):Nat:=a ^^^ (a &&& b)
theorem Jb{n:Nat}(h:n<64):S.Ph n=2 ^ n:=by unfold S.Ph;rw[RB,RO];exact Nat.pow_lt_pow_right (a:=2) (by decide) h
end
end Hx
end
section
namespace Hx
open Go
noncomputable section
theorem FI[XOc]{d k:Nat}{g:G}{P:Nat->Prop}{v:AV}{l:List Int}{n:Int}(hd:0<d)(hv:SlR P k g.h l v) :
  aq C0 d 123 [v,Uk n] g=.val (.bool (S.Px l n)):=by
 obtain⟨v',e,c⟩:=bE hv d;rw[ux];refine d7 xh (xs:=[v',Uk n]) (by simp only[aF,bJ 0,e]) (by simp[lG]) hd ?_;simp only[sz,simprocAttr,lG];have hl:=hv.1;refine sP hl (c .nil).len (λj t df g=>df=[]/\tat t 1=Uk n/\(List.range j).all (S.PL l n)=true)
  ⟨rfl,by simp[sx],rfl⟩ (by simp[sx]) (by simp[sx]) (by decide) (by rintro j t df g v s (rfl|rfl|rfl|rfl|rfl|rfl|rfl)<;>simp[sx]) ?_ ?_
 ·rintro j t df g a ⟨rfl,h1,hw⟩ h5 h0;obtain⟨x,hx,f,hm⟩:=ae a;have bad:S.PL l n j=false->S.Px l n=false:=λh=>gk a h;have rr:=(c g.h).ints;simp only[sz,simprocAttr,rr,h0,h5,hx,a,QJ,Qx,Rz,ci];refine ba (λhb=>?_) (λhb=>?_)
  ·simp only[sz,simprocAttr,hb];rw[bad (by simp[S.PL,hx]at *;omega)]
  ·simp only[sz,simprocAttr,rr,hb,h0,h1,h5,hx,a,QJ,Qx,Rz,ci];refine ba (λhc=>?_) (λhc=>?_)
   ·simp only[sz,simprocAttr,hc];rw[bad (by simp[S.PL,hx]at *;omega)]
   ·simp only[sz,simprocAttr,hc,h5];refine ba (λhd=>?_) (λhd=>?_)
    ·obtain⟨i,rfl⟩:∃i,j=i+1:=⟨j - 1,by simp at hd;omega⟩;obtain⟨y,b,-,-⟩:=ae (l:=l) (j:=i) (by omega);have hi:i<l.length:=by omega
     have e:IntKind.wrap .i64 (((i+1:Nat):Int) - 1)=(i:Int):=by rw[aA (by omega) (by omega)];omega
     simp only[sz,simprocAttr,rr,hd,e,h0,h5,hx,a,b,hi,QJ,Qx,Rz,ci];refine ba (λhe=>?_) (λhe=>?_)
     ·simp only[sz,simprocAttr];rw[bad (by simp[S.PL,hx,b]at *;omega)]
     ·simp only[sx,sy,↓reduceIte,Nat.reduceEqDiff,h0,h1,h5];rw[dj,hw];simp[S.PL,hx,b]at *;omega
    ·have:j=0:=by simp at hd;omega
     subst this;simp only[sz,simprocAttr,h0,h1,h5];simp[S.PL,hx]at *;omega
 ·rintro t df g ⟨rfl,-,hw⟩ -;simp only[sz,simprocAttr,mA];rw[S.Px,hw]
def S.Qo(m:Causal)(x:Mech):List Int:=x.frm.map (S.Qj m)++x.noise.map (S.Qn m)
end
end Hx
end
section
namespace Hx
open Go
noncomputable section
def S.Ql(m:Causal):Int:=S.O4 (m.roots.map λr=>(r.length:Int))
end
end Hx
end
section
namespace Hx
open Go
def Sub(a s:Nat):Prop:=∀v,a.testBit v=true->s.testBit v=true
theorem kC(s v:Nat):S.Pq s v=s.testBit v:=by rw[Nat.testBit_eq_decide_div_mod_eq,S.Pq,Nat.and_one_is_mod];rw[SH,beq_iff_eq,decide_eq_true_iff]
theorem A3{a s:Nat}:S.PU a s=0↔Sub a s:=by
 constructor
 ·intro h v k;have:=congrArg (·.testBit v) h;simp[S.PU,k]at this;exact this
 ·intro h;refine Nat.eq_of_testBit_eq λv=>?_;have:=h v;simp only[S.PU,Nat.testBit_xor,Nat.testBit_and,Nat.zero_testBit];cases ha:a.testBit v
  ·rfl
  ·rw[this ha];rfl
theorem rH(a b v:Nat):(a ||| b).testBit v=(a.testBit v || b.testBit v):=Nat.testBit_or a b v
theorem ym{n:Nat}(h:n<64)(v:Nat):(S.Ph n).testBit v=decide (n=v):=by rw[Jb h,Nat.testBit_two_pow]
section
variable {p:List Nat}
def Par(p:List Nat)(v:Nat):Nat:=p[v]?.getD 0
def Cl(p:List Nat)(s:Nat):Prop:=∀v,v<p.length->s.testBit v=true->Sub (Par p v) s
theorem Bz{s t:Nat}(hc:Cl p t)(h:Sub s t):∀j,j<=p.length->Sub (S.Ps p s j) t
 |0,_=>h
 | j+1,hj=>by
  have ih:=Bz hc h j (by omega);rw[gE]
  split
  ·rename_i hb;rw[kC]at hb;intro v hv;rw[rH,Rk]at hv;rcases hv with hv|hv
   ·exact ih v hv
   ·exact hc j (by omega) (ih j hb) v hv
  ·exact ih
theorem F8{s t:Nat}(hc:Cl p t)(h:Sub s t):∀j,Sub (S.up p s j) t
 |0=>h
 |j+1=>by rw[mV];exact Bz hc (F8 hc h j) _ (Qv _)
def HJ(p:List Nat)(s:Nat):Prop:=Cl p s/\∀v,v<p.length->s.testBit v=true->(S.up p (Par p v) p.length).testBit v=false
theorem uk:S.Py p=true↔∀v,v<p.length->(S.up p (Par p v) p.length).testBit v=false:=by
 unfold S.Py;rw[QS];constructor
 ·intro h v k;have:=h v (QX.2 k);rw[kC]at this;simpa [Par] using this
 ·intro h v k;have:=h v (QX.1 k);rw[kC];simpa [Par] using this
def bct(s:Nat):Nat->Nat
 |0=>0
 |n+1=>bct s n+(if s.testBit n then 1 else 0)
theorem EQ(s:Nat):∀n,bct s n<=n
 |0=>Qv _
 |n+1=>by have:=EQ s n;unfold bct;split<;>omega
theorem CV{a s:Nat}(h:Sub a s):∀n,bct a n<=bct s n
 |0=>Qv _
 | n+1=>by
  have:=CV h n;unfold bct
  split
  ·rename_i hb;rw[QA (h n hb)];omega
  ·split<;>omega
theorem I_{a s:Nat}(h:Sub a s){v:Nat}(hv:s.testBit v=true)(ha:a.testBit v=false):∀n,v<n->bct a n<bct s n
 |0,h0=>by omega
 | n+1,hn=>by
  unfold bct
  by_cases hvn:v=n
  ·subst hvn;have:=CV h v;rw[QA hv,ha];simp;omega
  ·have:=I_ h hv ha n (by omega)
   split
   ·rename_i hb;rw[QA (h n hb)];omega
   ·split<;>omega
theorem CU{s:Nat}:∀n,bct s n=n->∀v,v<n->s.testBit v=true
 |0,_,v,h=>by omega
 | n+1,h,v,hv=>by
  unfold bct at h;have:=EQ s n
  split at h
  ·rename_i hb
   by_cases e:v=n
   ·subst e;exact hb
   ·exact CU n (by omega) v (by omega)
  ·omega
theorem vy{a s:Nat}(h:Sub a s)(h':Sub s a):a=s:=Nat.eq_of_testBit_eq λv=>by
 cases ha:a.testBit v
 ·cases hs:s.testBit v
  ·rfl
  ·rw[h' v hs]at ha;cases ha
 ·rw[h v ha]
theorem Oh{a s:Nat}(h:Sub a s):a<=s:=by
 have:a ||| s=s:=Nat.eq_of_testBit_eq λv=>by
  rw[rH];cases ha:a.testBit v
  ·simp
  ·rw[h v ha];rfl
 rw[<-this];exact Nat.left_le_or
theorem pS(s:Nat):∀j,Sub s (S.Ps p s j)
 |0=>λ_ h=>h
 | j+1=>by
  have ih:=pS s j;rw[gE]
  split
  ·intro v k;rw[rH,ih v k];rfl
  ·exact ih
theorem F7{s:Nat}{j k:Nat}(h:j<=k):Sub (S.Ps p s j) (S.Ps p s k):=by
 induction h with
 |refl=>exact λ_ h=>h
 | step _ ih =>
  rw[gE]
  split
  ·intro v a;rw[rH,ih v a];rfl
  ·exact ih
theorem HU{s:Nat}(h:S.Ps p s p.length=s):Cl p s:=by
 intro v k hb u hu;have h1:(S.Ps p s v).testBit v=true:=pS s v v hb;have h2:(S.Ps p s (v+1)).testBit u=true:=by rw[gE,kC,h1,QA rfl,rH];have:(p[v]?.getD 0).testBit u=true:=hu;rw[this];simp
 have:=F7 (p:=p) (s:=s) (show v+1<=p.length by omega) u h2;rwa [h]at this
theorem K9{s n v:Nat}(h:s<2 ^ n)(hv:s.testBit v=true):v<n:=by
 rcases RX v n with h1|h1
 ·exact h1
 ·rw[Nat.testBit_lt_two_pow (QV h (Th (by decide) h1))]at hv;cases hv
theorem OL{f:Nat->Nat}{n:Nat}(hm:∀j,Sub (f j) (f (j+1)))(hb:∀j,f j<2 ^ n)(hs:∀j,f (j+1)=f j->f (j+2)=f (j+1)):f (n+1)=f n:=by
 have key:∀j,j<=bct (f j) n\/f (j+1)=f j:=by
  intro j
  induction j with
  |zero=>exact .inl (Rf _)
  | succ j ih =>
   rcases ih with ih|ih
   ·by_cases e:f (j+1)=f j
    ·exact .inr (hs j e)
    ·left;have:∃v,(f (j+1)).testBit v=true/\(f j).testBit v=false:=by
      apply RK;intro k;apply e;refine vy (λv hv=>?_) (hm j);cases hc:(f j).testBit v
      ·exact absurd ⟨v,hv,hc⟩ k
      ·rfl
     obtain⟨v,h1,h2⟩:=this;have:=I_ (hm j) h1 h2 n (K9 (hb _) h1);omega
   ·exact .inr (hs j ih)
 rcases key n with h|h
 ·have hc:bct (f n) n=n:=by have:=EQ (f n) n;omega
  refine vy (λv hv=>?_) (hm n);exact CU n hc v (K9 (hb _) hv)
 ·exact h
theorem N2{a b n:Nat}(h:a<2 ^ n)(h':b<2 ^ n):a ||| b<2 ^ n:=Te h h'
theorem FA{v:Nat}(hp:∀x∈p,x<2 ^ p.length):Par p v<2 ^ p.length:=by
 unfold Par;cases h:p[v]? with
 |none=>exact Nat.pow_pos (by decide)
 |some x=>exact hp x (Qz h)
theorem By(hp:∀x∈p,x<2 ^ p.length){s:Nat}(hs:s<2 ^ p.length):∀j,S.Ps p s j<2 ^ p.length
 |0=>hs
 | j+1=>by
  have ih:=By hp hs j;rw[gE]
  split
  ·exact N2 ih (FA hp)
  ·exact ih
theorem Ld(hp:∀x∈p,x<2 ^ p.length){s:Nat}(hs:s<2 ^ p.length):∀j,S.up p s j<2 ^ p.length
 |0=>hs
 |j+1=>by rw[mV];exact By hp (Ld hp hs j) _
theorem IU(hp:∀x∈p,x<2 ^ p.length){s:Nat}(hs:s<2 ^ p.length):Cl p (S.up p s p.length):=by
 apply HU;rw[<-mV];exact OL (f:=λj=>S.up p s j) (λj=>by rw[mV];exact pS _ _) (λj=>Ld hp hs j) (λj e=>by
  have e:S.up p s (j+1)=S.up p s j:=e;show S.up p s (j+1+1)=S.up p s (j+1);rw[mV,e,<-mV,e])
theorem x_{s:Nat}:∀j,Sub s (S.up p s j)
 |0=>λ_ h=>h
 |j+1=>λv hv=>by rw[mV];exact pS _ _ v (x_ j v hv)
end
end Hx
end
section
namespace Hx
open Go
noncomputable section
theorem pG{a b:List Nat}(h:∀i∈a,∀j∈b,i≠j):meets a b=false:=by simp only[meets,List.any_eq_false];intro i hi hc;exact h i hi i (Sp.1 hc) rfl
theorem dk{x y:Foot}(hb:x.lk.big=false)(hb2:y.lk.big=false)(hs:x.lk.sr=[])(hs2:y.lk.sr=[])(h1:∀i∈x.wr,∀j∈y.wr,i≠j)(h2:∀i∈x.wr,∀j∈y.lk.rd,i≠j)(h3:∀i∈y.wr,∀j∈x.lk.rd,i≠j) :
  bM x y=true:=by
 have h:=pG h1;have k:=pG h2;have a:=pG h3;have b:meets y.wr x.wr=false:=pG λi hi j hj e=>h1 j hj i hi e.symm;have c:∀l:List Nat,meets l []=false:=λl=>by simp[meets]
 simp only[bM,iz,fD,hb,hb2,hs,hs2,h,k,a,b,c,fst1,Rh,ST,S0,Tx]
 split<;>split<;>rfl
end
end Hx
end
section
namespace Hx
open Go
noncomputable section
theorem l_{g:G}{b sz bytes:Nat}{zero:List AV}{k1 k2:IntKind}{n:Nat}{K:AV->G->Prop}{D:ADf->Prop}(hn:n<=aQ)(hb:n*bytes<=aQ)(hg:b<=g.nx)
  (k:∀v' g',Own g' b v' sz (List.replicate n zero)->g'.nx=g.nx+1->(∀i,i<g.nx->g'.h.get i=g.h.get i)->vid v'=some g.nx->g'.lg=g.nx::g.lg->K v' g') :
  (Fs sz bytes zero (.int k1 (n:Int)) (.int k2 (n:Int)) g).sat K g D:=by
 show (match cL aQ (.int k2 (.ofNat n)) with
  | some cn=>match cL cn (.int k1 (.ofNat n)) with
   |some ln=>ap (Nat.ble (cn*bytes) aQ) (OR.upd (.hsl g.nx 0 0 ln none) (g.new (TD sz (gc cn zero)))) .fail
   |none=>.fail
  |none=>.fail).sat K g D
 simp only[cL,aa,Q6,QA hn,Qv,QA hb,if_true];refine k _ _ (.inr ⟨g.nx,0,false,hg,by simp,by simp,by simp[aV,gc]⟩) (by simp) (λi hi=>?_) rfl (by simp);rw[G.new_h,aE _ _ _ (by omega)]
end
end Hx
end
section
namespace Hx
open Go
noncomputable section
theorem Nc(n sz id ep i off:Nat)(k:IntKind){j:Nat}(h:j<n):uV n sz (.hptr id ep i off) (.int k (j:Int))=.val (.hptr id ep i (off+j*sz)):=by show ap (Nat.blt j n) (OR.val (.hptr id ep i (off+j*sz))) .fail=_;rw[aa,QA (by simpa using h)]
def u8v(x:UInt8):AV:=.int .u8 (x.toNat:Int)
theorem K4(l:List UInt8)(h:H)(d:Nat):snap h d aD (.agg (l.map u8v))=some (.agg (l.map u8v)):=by
 have:∀l:List UInt8,aF (Hx.snap h d 23) (l.map u8v)=some (l.map u8v):=λl=>by
  induction l with
  |nil=>rfl
  | cons x l ih =>
   simp only[Rx,aF,ih,show Hx.snap h d 23 (u8v x)=some (u8v x) from rfl]
 show (match aF (Hx.snap h d 23) (l.map u8v) with|some ys=>some (AV.agg ys)|none=>none)=_;rw[this]
end
end Hx
end
section
namespace Hx
open Go
noncomputable section
def Raw(w:AV):Prop:=w=.nils\/∃rows,w=.tsl 0 1 rows
theorem Ob{w:AV}{l:List Int}(hw:SlR NoP 0 .nil l w)(hr:Raw w)(c:Nat) :
  ∃w',(∀g,xC 1 w none (some (Uk (min (l.length:Int) (c:Int)))) g=.val w')/\SlR NoP 0 .nil (l.take c) w':=by
 have hm:min (l.length:Int) (c:Int)=((min l.length c:Nat):Int):=by omega
 rw[hm];have hlt:(l.take c).length<9223372036854775808:=by have:=hw.1;rw[Q_];omega
 rcases hr with rfl|⟨rows,rfl⟩
 ·have hl:l=[]:=hw.2;subst hl;refine⟨.nils,λg=>?_,hlt,by simp[SlV]⟩;have:min ([]:List Int).length c=0:=by simp
  rw[this];rfl
 ·obtain⟨h0,h1,h2⟩:=(show 0<=0/\(1=Rp.sz Int\/rows=[])/\All2 (Rp.rp NoP 0 .nil) l rows from hw.2);have k:=h2.len;refine⟨.tsl 0 1 (rows.take (min l.length c)),λg=>?_,hlt,?_⟩
  ·show orV (match aW (aZ rows) (aZ rows) (some (Uk (.ofNat (min l.length c)))) with
    |none=>none
    | some h=>match aW 0 h none with
     |none=>none
     |some l=>ap (Nat.beq 1 1) (some (.tsl 0 1 (iG (h - l) (gH l rows)))) none)=_
   have:aW (aZ rows) (aZ rows) (some (Uk (.ofNat (min l.length c))))=some (min l.length c):=by show ap (Nat.ble (min l.length c) (aZ rows)) (some (min l.length c)) none=_;rw[aa,QA];rw[au,<-k];simp;omega
   rw[this];show orV (ap (Nat.beq 1 1) (some (AV.tsl 0 1 (iG (min l.length c - 0) (gH 0 rows)))) none)=_;rw[show Nat.beq 1 1=true from rfl,bif'_true,a_,aX,Sz,SN];rfl
  ·refine⟨Qv _,h1.elim .inl (λh=>.inr (by rw[h];simp)),?_⟩;have:=h2.take (min l.length c);rwa [show l.take (min l.length c)=l.take c by rw[Nat.min_comm,<-List.take_take,Q4]]at this
end
end Hx
end
section
namespace Hx
open Go
noncomputable section
theorem Gt(z:AV)(k k':IntKind)(x y:Int)(g:G):Je 1 2 [z] [0,1] [.int k x,.int k' y] g=.upd (.hsl g.nx 0 0 2 none) (g.new (TD 1 [[.int k x],[.int k' y]])):=rfl
end
end Hx
end
section
namespace Hx
open Go
noncomputable section
abbrev EL:Type:=List UInt8×UInt16×List UInt8
def S.P4(us:List UInt8):List Int:=(us.take 5).map λu=>1+(u.toNat:Int) % 4
theorem KU{P:Nat->Prop}{k:Nat}{h:H}{x:UInt16}{cs:List AV}:Rp.rp P k h x cs↔cs=[.int .u16 (x.toNat:Int)]:=by simp[Rp.rp]
theorem sK{P:Nat->Prop}{k:Nat}{h:H}{x:EL}{cs:List AV}:Rp.rp P k h x cs↔∃a b,cs=[a,.int .u16 (x.2.1.toNat:Int),b]/\SlR P k h x.1 a/\SlR P k h x.2.2 b:=by
 constructor
 ·rintro⟨c1,d,rfl,⟨a,rfl,h1⟩,e,f,rfl,h2,⟨b,rfl,c⟩⟩;rw[KU.1 h2];exact⟨a,b,rfl,h1,c⟩
 ·rintro⟨a,b,rfl,h1,h2⟩;exact⟨[a],[_,b],rfl,⟨a,rfl,h1⟩,[_],[b],rfl,KU.2 rfl,⟨b,rfl,h2⟩⟩
theorem HY[XOc]{d k:Nat}{g:G}{P:Nat->Prop}{v:AV}{x:EL}(hd:0<d)(hm:Agg x P k g.h v) :
  ∃r,aq C0 d 71 [v] g=.val r/\IT 0 (S.P4 x.1) r:=by
 obtain⟨v',e,cs,rfl,hc⟩:=jK (c_ x) (by decide) d hm;obtain⟨a,b,rfl,i,D⟩:=sK.1 hc;obtain⟨rows,o,I,B,J⟩:=i.all;have o:∀h',af h' 1 a=some rows:=o;rw[o_];refine bj qP (xs:=[.agg [a,.int .u16 (x.2.1.toNat:Int),b]]) (by simp only[aF,e]) (by simp[fL]) (aU _) (by decide) hd ?_;have E:(S.P4 x.1).length=min x.1.length 5:=by simp[S.P4];omega
 simp only[sz,simprocAttr,fL,iJ];refine be (min x.1.length 5) (by omega) (λj t df g=>df=[]/\tat t 1=Ul 0/\g.h.get 0=TD 3 [[a,.int .u16 (x.2.1.toNat:Int),b]]/\1<=g.nx/\∃u,tat t 3=u/\Own g 1 u 1 (((S.P4 x.1).take j).map ci))
  ⟨rfl,by simp[sx],by simp[sx],by simp[sx],_,rfl,.inl ⟨by simp[sx],rfl⟩⟩ (by simp[sx]) (by decide)
  (by rintro j t df g v s (rfl|rfl|rfl)<;>simp[sx]) ?_ ?_ ?_
 ·rintro j t df g w ⟨rfl,h1,hg,c,u,f,hu⟩ h4
  by_cases hlt:(j:Int)<(x.1.length:Int)
  ·have:decide ((j:Int)<((min x.1.length 5:Nat):Int))=decide ((j:Int)<5):=by congr 1;apply propext;omega
   simp only[sz,simprocAttr,h1,h4,hg,i.len,hlt,this];exact⟨c,u,f,hu⟩
  ·have:decide ((j:Int)<((min x.1.length 5:Nat):Int))=false:=So (by omega);simp only[sz,simprocAttr,h1,h4,hg,i.len,hlt,this];exact⟨c,u,f,hu⟩
 ·rintro j t df g w ⟨rfl,h1,hg,c,u,f,hu⟩ h4;obtain⟨y,p,-,-⟩:=ae (l:=x.1) (j:=j) (by omega);obtain⟨z,hz,m,-⟩:=ae (l:=S.P4 x.1) (j:=j) (by omega);have n:z=1+(y.toNat:Int) % 4:=by
   have:(S.P4 x.1)[j]?=some (1+(y.toNat:Int) % 4):=by simp[S.P4,show j<5 by omega,p]
   rw[this]at hz;injection hz with hz;exact hz.symm
  obtain⟨row,q,C⟩:=B j y p;rw[dL.1 C]at q;have hlt:j<rows.length:=by omega
  have A:y.toNat<256:=y.toNat_lt;have F:0<=(y.toNat:Int) % 4:=by omega
  have H:(y.toNat:Int) % 4<4:=by omega
  simp only[sz,simprocAttr,h1,f,h4,hg,o,hlt,q,dN .u8 (show (0:Int)<=(y.toNat:Int) by omega) (show (0:Int)<4 by decide),aA (show -9223372036854775808<=(y.toNat:Int) % 4 by omega) (show (y.toNat:Int) % 4<9223372036854775808 by omega),aA (show -9223372036854775808<=1+(y.toNat:Int) % 4 by omega) (show 1+(y.toNat:Int) % 4<9223372036854775808 by omega)];refine bD (new:=[ci (1+(y.toNat:Int) % 4)]) (hu.step (Fr.new _ _)) (by simp[sx,sy,ci]) (by simp) (by simp[aQ];omega) λv2 g2 hv2 n2 f2 _ l2=>?_;simp only[sz,simprocAttr,h1,h4];refine⟨?_,?_,_,rfl,?_⟩
  ·rw[f2 0 (by simp) (λe=>by have:=(hu.lt e).1;omega),G.new_h,aE _ _ _ (by omega),hg]
  ·simp at n2;omega
  ·rw[m,n];simpa [ci] using hv2
 ·rintro t df g ⟨rfl,h1,hg,c,u,f,hu⟩;rw[RE (by omega)]at hu;simp only[sz,simprocAttr,ip,f];exact⟨_,hu.ints (by omega)⟩
end
end Hx
end
section
namespace Hx
open Go
noncomputable section
theorem FV{g:G}{b sz:Nat}{u:AV}{rows:List (List AV)}(hu:Own g b u sz rows){n:Nat}(hn:n<=rows.length) :
  ∃y,xC sz u none (some (Uk (n:Int))) g=.val y/\af g.h sz y=some (rows.take n):=by
 rcases hu with⟨rfl,rfl⟩|⟨id,ep,lo,h1,h2,rfl,k⟩
 ·have:n=0:=by simpa using hn
  subst this;exact⟨.nils,rfl,rfl⟩
 ·simp only[xC,nI,k,Q7,Q7,RS,au,Rc,aa,Q6,Qv,if_true,aW,SS,SN];simp only[cL];rw[show ap (n.ble rows.length) (some n) none=some n from by rw[aa,QA (by simpa using hn)]];dsimp only
  by_cases h0:rows=[]
  ·subst h0;have:n=0:=by simpa using hn
   subst this;cases lo
   ·exact⟨_,rfl,rfl⟩
   ·exact⟨_,rfl,pN _ _ _ _⟩
  ·have hb:rows.length.beq 0=false:=by cases rows with|nil=>exact absurd rfl h0|cons a l=>rfl
   rw[hb];refine⟨_,rfl,?_⟩;rw[ff,k,dg,QA (by omega),Sz]
theorem FW{g:G}{b sz:Nat}{u:AV}{rows:List (List AV)}(hu:Own g b u sz rows){n:Nat}(hn:n<=rows.length) :
  ∃y,xC sz u (some (Uk (n:Int))) none g=.val y/\af g.h sz y=some (rows.drop n):=by
 rcases hu with⟨rfl,rfl⟩|⟨id,ep,lo,h1,h2,rfl,k⟩
 ·have:n=0:=by simpa using hn
  subst this;exact⟨.nils,rfl,rfl⟩
 ·simp only[xC,nI,k,Q7,Q7,RS,au,Rc,aa,Q6,Qv,if_true,aW,SS,SN];simp only[cL];rw[show ap (n.ble rows.length) (some n) none=some n from by rw[aa,QA (by simpa using hn)]];dsimp only
  by_cases h0:rows.length=n
  ·subst h0;rw[QA (Q7 _),List.drop_length];cases lo
   ·exact⟨_,rfl,rfl⟩
   ·exact⟨_,rfl,pN _ _ _ _⟩
  ·rw[Qw (λe=>h0 (Ro e))];refine⟨_,rfl,?_⟩;rw[ff,k,dg,QA (by omega),RE (by simp)]
def S.PW(os:List UInt8)(k:Nat):Nat:=if k<os.length then ((os[k]?.map UInt8.toNat).getD 0) % (k+1) else 0
def S.Pj(os:List UInt8):Nat->List Int
 |0=>[]
 |k+1=>(S.Pj os k).take (S.PW os k)++(k:Int)::(S.Pj os k).drop (S.PW os k)
theorem oU(os:List UInt8):∀k,(S.Pj os k).length=k
 |0=>rfl
 |k+1=>by simp only[S.Pj,RW,Q9,Q_,S6,oU os k];omega
theorem zH[XOc]{d k:Nat}{g:G}{P:Nat->Prop}{v:AV}{x:EL}(hd:0<d)(hm:Agg x P k g.h v) :
  ∃r,aq C0 d 29 [v] g=.val r/\IT 0 (S.Pj x.2.2 (min x.1.length 5)) r:=by
 obtain⟨v',e,cs,rfl,hc⟩:=jK (c_ x) (by decide) d hm;obtain⟨a,b,rfl,D,p⟩:=sK.1 hc;have q:∀g:G,Agg x NoP (max k d) g.h (.agg [a,.int .u16 (x.2.1.toNat:Int),b]):=λg=>⟨_,rfl,sK.2 ⟨a,b,rfl,D.tree (Qv _),p.tree (Qv _)⟩⟩;obtain⟨rows,A,U,L,V⟩:=p.all;have A:∀h',af h' 1 b=some rows:=A;rw[jM];refine bj lz (xs:=[.agg [a,.int .u16 (x.2.1.toNat:Int),b]]) (by simp only[aF,e]) (by simp[cP]) (aU _) (by decide) hd ?_;have E:(S.P4 x.1).length=min x.1.length 5:=by simp[S.P4];omega
 simp only[sz,simprocAttr,cP,eE];refine be (min x.1.length 5) (by omega) (λj t df g=>df=[]/\tat t 1=Ul 0/\g.h.get 0=TD 3 [[a,.int .u16 (x.2.1.toNat:Int),b]]/\1<=g.nx/\∃u,tat t 3=u/\Own g 1 u 1 ((S.Pj x.2.2 j).map ci))
  ⟨rfl,by simp[sx],by simp[sx],by simp[sx],_,rfl,.inl ⟨by simp[sx],rfl⟩⟩ (by simp[sx]) (by decide)
  (by rintro j t df g v s (rfl|rfl|rfl)<;>simp[sx]) ?_ ?_ ?_
 ·rintro j t df g H ⟨rfl,h1,hg,f,u,c,hu⟩ h4;simp only[sz,simprocAttr,h1,h4,hg];refine bF (HY (QM d) (q _)) λr hr=>?_;simp only[sz,simprocAttr,h1,h4,hg,(hr.sl .nil).len,E];exact⟨f,u,c,hu⟩
 ·rintro j t df g H ⟨rfl,h1,hg,f,u,c,hu⟩ h4;have J:((S.Pj x.2.2 j).map ci).length=j:=by rw[QJ,oU]
  have I:S.PW x.2.2 j<=j:=by
   unfold S.PW;split
   ·have:=R_ (((x.2.2)[j]?.map UInt8.toNat).getD 0) (show 0<j+1 by omega);omega
   ·omega
  have key:∀(t:T) (Q:QT),tat t 1=Ul 0->tat t 3=u->tat t 4=Uk (j:Int)->tat t 5=Uk (S.PW x.2.2 j:Int) ->
    (∀(t':T) (g':G),tat t' 1=Ul 0->tat t' 4=Uk (j:Int)->g'.h.get 0=TD 3 [[a,.int .u16 (x.2.1.toNat:Int),b]]->1<=g'.nx->(∃u,tat t' 3=u/\Own g' 1 u 1 ((S.Pj x.2.2 (j+1)).map ci))->Q .norm t' [] g') ->
    wp C0 (d+1) none co Q t [] g:=by
   intro t Q h1 c h4 h5 kk;obtain⟨W,M,w1⟩:=FV hu (n:=S.PW x.2.2 j) (by omega);simp only[sz,simprocAttr,co,c,h5,Tz,To,M];refine bD (rows:=[]) (b:=1) (.inl ⟨rfl,rfl⟩) w1 f (by simp[aQ];omega) λv1 g1 hv1 n1 f1 vid1 _=>?_;simp only[sz,simprocAttr,h4];refine bD (new:=[ci (j:Int)]) (hv1.step (Fr.new _ _)) (by simp[sx,sy,ci]) (by simp) (by simp[aQ,oU];omega) λv2 g2 hv2 n2 f2 vid2 _=>?_;have w:Own g1 1 u 1 ((S.Pj x.2.2 j).map ci):=hu.fr n1 λi hi=>f1 i (hu.lt hi).2 (by simp[vid]);have o:∀i,i<g.nx->vid v1≠some i:=λi hi e=>by
    rcases vid1 with h|⟨i',h,F⟩
    ·rw[h]at e;cases e
    ·rw[h]at e;injection e with e;omega
   have z:Own g2 1 u 1 ((S.Pj x.2.2 j).map ci):=w.fr (by simp at n2;omega) λi hi=>by have hlt:=(hu.lt hi).2;rw[f2 i (by simp;omega) (o i hlt),G.new_h,aE _ _ _ (by omega)]
   obtain⟨X,N,O⟩:=FW z (n:=S.PW x.2.2 j) (by omega);simp only[sz,simprocAttr,c,h5,Tz,To,N];refine bD hv2 O (by simp at n2;omega) (by simp[aQ,oU];omega) λv3 g3 hv3 n3 f3 _ _=>?_;simp only[sz,simprocAttr];refine kk _ _ (by simp[sx,h1]) (by simp[sx,h4]) ?_ (by simp at n2;omega) ⟨_,rfl,?_⟩
   ·rw[f3 0 (by simp at n2;omega) (λe=>by have:=(hv2.lt e).1;omega),f2 0 (by simp) (o 0 (by omega)),G.new_h,aE _ _ _ (by omega),f1 0 (by omega) (by simp[vid]),hg]
   ·simp only[sx,↓reduceIte];simpa [S.Pj,List.map_take,List.map_drop] using hv3
  simp only[sz,simprocAttr,h1,h4,hg,p.len];refine ba (λhb=>?_) (λhb=>?_)
  ·have m:j<x.2.2.length:=by simp at hb;omega
   obtain⟨y,B⟩:∃y,x.2.2[j]?=some y:=⟨_,Qu m⟩;obtain⟨row,C,R⟩:=L j y B;rw[dL.1 R]at C;have K:y.toNat<256:=y.toNat_lt;have hlt:j<rows.length:=by omega
   have l:((S.PW x.2.2 j:Nat):Int)=(y.toNat:Int) % ((j:Int)+1):=by unfold S.PW;rw[QA m,B];simp
   simp only[sz,simprocAttr,h1,h4,hg,A,hlt,C,aA (show -9223372036854775808<=(y.toNat:Int) by omega) (show (y.toNat:Int)<9223372036854775808 by omega),aA (show -9223372036854775808<=(j:Int)+1 by omega) (show (j:Int)+1<9223372036854775808 by omega),dN .i64 (show (0:Int)<=(y.toNat:Int) by omega) (show 0<(j:Int)+1 by omega)];refine key _ _ (by simp[sx,h1]) (by simp[sx,c]) (by simp[sx,h4]) (by simp[sx,l]) λt' g' e1 e4 e0 en eu=>?_;simp only[sy,e1,e4,e0];exact⟨en,eu⟩
  ·have l:S.PW x.2.2 j=0:=by unfold S.PW;rw[Qw];simp at hb;omega
   simp only[sx];refine key _ _ (by simp[sx,h1]) (by simp[sx,c]) (by simp[sx,h4]) (by simp[sx,l]) λt' g' e1 e4 e0 en eu=>?_;simp only[sy,e1,e4,e0];exact⟨en,eu⟩
 ·rintro t df g ⟨rfl,h1,hg,f,u,c,hu⟩;simp only[sz,simprocAttr,dZ,c];exact⟨_,hu.ints (by rw[oU];omega)⟩
end
end Hx
end
section
namespace Hx
open Go
noncomputable section
def S.Qi(cards:List Int):List Int->Nat->List Int×Bool
 |vals,0=>(vals,false)
 |vals,k+1=>if (vals[k]?.getD 0)+1<(cards[k]?.getD 0) then (vals.set k ((vals[k]?.getD 0)+1),true) else S.Qi cards (vals.set k 0) k
def S.Qh(cards vals:List Int):List Int×Bool:=S.Qi cards vals vals.length
end
end Hx
end
section
namespace Hx
open Go
noncomputable section
def S.Qg(cards:List Int):Nat->List Int->List (List Int)
 |0,_=>[]
 |f+1,v=>v::(if (S.Qh cards v).2 then S.Qg cards f (S.Qh cards v).1 else [])
def S.Qp(cards:List Int):List (List Int):=S.Qg cards (S.O4 cards).toNat (List.replicate cards.length 0)
end
end Hx
end
section
namespace Hx
open Go
noncomputable section
def S.PI(l:List Int)(h:Int):Int:=l.foldr (λc q=>q / c) h
def S.Pz(l:List Int)(h:Int)(i:Nat):Int:=S.PI (l.drop (i+1)) h % l[i]?.getD 1
def S.O7(l:List Int)(h:Int):List Int:=(List.range l.length).map (S.Pz l h)
theorem Hf{l:List Int}{h:Int}(hl:∀c∈l,0<c)(hh:0<=h):0<=S.PI l h/\S.PI l h<=h:=by
 induction l with
 |nil=>exact⟨hh,Int.le_refl _⟩
 | cons c l ih =>
  obtain⟨a,b⟩:=ih λx hx=>hl x (by simp[hx]);have hc:=hl c (by simp);show 0<=S.PI l h / c/\S.PI l h / c<=h;exact⟨Int.ediv_nonneg a (by omega),Int.le_trans (Int.ediv_le_self _ a) b⟩
theorem IV[XOc]{d k:Nat}{g:G}{P:Nat->Prop}{v:AV}{l:List Int}{h:Int}(hd:0<d)(hv:SlR P k g.h l v)(hl:l.length<=1000)(hc:∀c∈l,0<c)(hh:0<=h/\h<9223372036854775808) :
  ∃r,aq C0 d 126 [v,Uk h] g=.val r/\IT 0 (S.O7 l h) r:=by
 obtain⟨v',e,z⟩:=bE hv d;rw[uy];refine bj xi (xs:=[v',Uk h]) (by simp only[aF,e,bJ 0]) (by simp[lH]) (aU _) (by decide) hd ?_;have vl:∀g,gz .slice v' g=.val (Uk (l.length:Int)):=λg=>(z .nil).len g;simp only[sz,simprocAttr,lH,vl];refine uZ (b:=0) (n:=l.length) (by simp[aQ];omega) (by simp[aQ];omega) (by simp) λu g1 hu n1 f1 v1=>?_;simp only[sz,simprocAttr,vl,aA (show -9223372036854775808<=(l.length:Int) - 1 by omega) (show (l.length:Int) - 1<9223372036854775808 by omega)];refine vB (m:=l.length) (by omega) (λj t df g=>df=[]/\St t [(0,v'),(1,Uk (S.PI (l.drop j) h)),(5,u)]/\Own g 0 u 1 (((List.range l.length).map λi=>if j<=i then S.Pz l h i else 0).map ci))
  ⟨rfl,by simp[sx,St,S.PI],?_⟩ (by simp[sx]) (by decide) (by rintro j t df g v s (rfl|rfl|rfl|rfl|rfl)<;>simp[sx,St]) ?_ ?_
 ·have:((List.range l.length).map λi=>if l.length<=i then S.Pz l h i else 0).map ci=List.replicate l.length [Uk 0]:=by
   refine S4 (by simp) λi h1 h2=>?_;have:i<l.length:=by simpa using h1
   simp[ci];omega
  rw[this];exact hu
 ·rintro j t df g p ⟨rfl,⟨h0,h1,h5,-⟩,ho⟩ A;obtain⟨c,a,-,hm⟩:=ae (l:=l) (j:=j) p;have f:=hc c hm;obtain⟨q0,q1⟩:=Hf (l:=l.drop (j+1)) (h:=h) (λx hx=>hc x (Rd hx)) hh.1;have hlt:j<(((List.range l.length).map λi=>if j+1<=i then S.Pz l h i else 0).map ci).length:=by simp;omega
  have w:(((List.range l.length).map λi=>if j+1<=i then S.Pz l h i else 0).map ci)[j]?=some (ci 0):=by rw[Qx,Qx,S3 p];show some (ci (if j+1<=j then _ else 0))=_;rw[Qw (by omega)]
  have hcl:(l.map ci)[j]?=some (ci c):=by rw[Qx,a];rfl
  have q:j<(l.map ci).length:=by simpa using p
  have y:S.PI (l.drop j) h=S.PI (l.drop (j+1)) h / c:=by
   have:l.drop j=c::l.drop (j+1):=by rw[RA p];congr 1;rw[Qu p]at a;injection a
   rw[this];rfl
  have o:S.Pz l h j=S.PI (l.drop (j+1)) h % c:=by rw[S.Pz,a];rfl
  simp only[sz,simprocAttr,h0,h1,h5,A,ho.rows,hlt,(z g.h).ints,hcl,q,ci,dN .i64 q0 f];refine ck (row:=ci 0) (row':=ci (S.Pz l h j)) ho w rfl rfl (by rw[o];rfl) λg2 o2 n2 f2=>?_;have B:(((List.range l.length).map λi=>if j+1<=i then S.Pz l h i else 0).map ci).set j (ci (S.Pz l h j))=((List.range l.length).map λi=>if j<=i then S.Pz l h i else 0).map ci:=by
   refine S4 (by simp) λi h1 h2=>?_;rw[List.getElem_set];simp only[List.getElem_map,List.getElem_range]
   split
   ·rename_i hi;subst hi;rw[QA (Qv _)]
   ·rename_i hi
    by_cases hji:j+1<=i
    ·rw[QA hji,QA (by omega)]
    ·rw[Qw hji,Qw (by omega)]
  rw[B]at o2;simp only[sz,simprocAttr,h0,h1,h5,A,(z g2.h).ints,hcl,q,ci,BJ .i64 q0 f,<-y,St];have hb:=Hf (l:=l.drop j) (h:=h) (λx hx=>hc x (Rd hx)) hh.1;refine⟨?_,o2⟩;rw[aA (by omega) (by omega)]
 ·rintro t df g ⟨rfl,⟨h0,h1,h5,-⟩,ho⟩;simp only[sz,simprocAttr,mB,h5];have:((List.range l.length).map λi=>if 0<=i then S.Pz l h i else 0)=S.O7 l h:=by simp[S.O7]
  rw[this]at ho;exact⟨λ_=>True,ho.ints (by simp[S.O7];omega)⟩
end
end Hx
end
section
namespace Hx
open Go
noncomputable section
def S.O5:List Int->List Int->Int
 |_::cs,v::vs=>v*S.O4 cs+S.O5 cs vs
 |_,_=>0
def InC(cards vals:List Int):Prop:=All2 (λc v=>(0:Int)<=v/\v<c) cards vals
theorem d9:∀{cards vals:List Int},(∀c∈cards,1<=c/\c<=4)->InC cards vals->0<=S.O5 cards vals/\S.O5 cards vals<S.O4 cards
 |[],[],_,_=>⟨Int.le_refl _,by decide⟩
 | c::cs,v::vs,hc,h=>by obtain⟨a,b⟩:=d9 (cards:=cs) (vals:=vs) (λx hx=>hc x (by simp[hx])) h.2;obtain⟨p1,-⟩:=bO (l:=cs) λx hx=>hc x (by simp[hx]);have k:=h.1;rw[cF];show 0<=v*S.O4 cs+S.O5 cs vs/\v*S.O4 cs+S.O5 cs vs<c*S.O4 cs;have h1:0<=v*S.O4 cs:=Sy k.1 (by omega);have h2:(v+1)*S.O4 cs<=c*S.O4 cs:=Int.mul_le_mul_of_nonneg_right (by omega) (by omega);rw[Tv,Int.one_mul]at h2;omega
 |[],_::_,_,h=>h.elim
 |_::_,[],_,h=>h.elim
theorem InC.drop:∀{cards vals:List Int} (j:Nat),InC cards vals->InC (cards.drop j) (vals.drop j)
 |_,_,0,h=>h
 |[],[],j+1,_=>trivial
 |_::_,_::_,j+1,h=>InC.drop j h.2
 |[],_::_,_,h=>h.elim
 |_::_,[],_,h=>h.elim
theorem InC.len{cards vals:List Int}(h:InC cards vals):vals.length=cards.length:=(All2.len h).symm
theorem J4[XOc]{d k k2:Nat}{g:G}{P P2:Nat->Prop}{v w:AV}{cards vals:List Int}(hd:0<d)(hv:SlR P k g.h cards v)(hw:SlR P2 k2 g.h vals w)(hl:cards.length<=13)(hc:∀c∈cards,1<=c/\c<=4)(hin:InC cards vals) :
  aq C0 d 152 [v,w] g=.val (Uk (S.O5 cards vals)):=by
 obtain⟨v',e,D⟩:=bE hv d;obtain⟨w',E,I⟩:=bE hw d;have H:=hin.len;rw[vM];refine eF yS (xs:=[v',w']) (by simp only[aF,e,E]) (by simp[nm]) hd ?_;have vl:∀g,gz .slice v' g=.val (Uk (cards.length:Int)):=λg=>(D .nil).len g;simp only[sz,simprocAttr,nm,vl,aA (show -9223372036854775808<=(cards.length:Int) - 1 by omega) (show (cards.length:Int) - 1<9223372036854775808 by omega)];refine vB (m:=cards.length) (by omega) (λj t df g=>df=[]/\St t [(0,v'),(1,w'),(5,Uk (S.O5 (cards.drop j) (vals.drop j))),(6,Uk (S.O4 (cards.drop j)))])
  ⟨rfl,?_⟩ (by simp[sx]) (by decide) (by rintro j t df g v s (rfl|rfl|rfl|rfl|rfl)<;>simp[sx,St]) ?_ ?_
 ·simp[sx,St,S.O5,S.O4]
 ·rintro j t df g p ⟨rfl,⟨h0,h1,h5,B,-⟩⟩ h7;obtain⟨c,a,-,hm⟩:=ae (l:=cards) (j:=j) p;obtain⟨x,b,-,-⟩:=ae (l:=vals) (j:=j) (by omega);have dc:cards.drop j=c::cards.drop (j+1):=by rw[RA p];rw[Qu p]at a;injection a with a;rw[a]
  have dv:vals.drop j=x::vals.drop (j+1):=by rw[RA (by omega)];rw[Qu (by omega)]at b;injection b with b;rw[b]
  have i:=hin.drop j;have o:∀y∈cards.drop j,1<=y/\y<=4:=λy hy=>hc y (Rd hy);have f:=d9 o i;obtain⟨p1,p2⟩:=bO o;have F:=d9 (λy hy=>hc y (Rd hy)) (hin.drop (j+1));obtain⟨q1,q2⟩:=bO (l:=cards.drop (j+1)) λy hy=>hc y (Rd hy);have pw:∀n,n<=13->(4:Int) ^ n<=67108864:=λn hn=>by
   have:=dI hn;have e:(4:Int) ^ 13=67108864:=by decide
   omega
  have pw1:=pw (cards.drop j).length (by simp;omega);rw[dc,dv]at f i;rw[dc]at p1 p2 pw1;have z:0<=x/\x<c:=i.1;have C:0<=x*S.O4 (cards.drop (j+1)):=Sy z.1 (by omega);rw[cF]at f p1 p2;have f:0<=x*S.O4 (cards.drop (j+1))+S.O5 (cards.drop (j+1)) (vals.drop (j+1))/\x*S.O4 (cards.drop (j+1))+S.O5 (cards.drop (j+1)) (vals.drop (j+1))<c*S.O4 (cards.drop (j+1)):=f;have r:j<(cards.map ci).length:=by simpa using p
  have u:j<(vals.map ci).length:=by rw[QJ];omega
  have hcl:(cards.map ci)[j]?=some (ci c):=by rw[Qx,a];rfl
  have A:(vals.map ci)[j]?=some (ci x):=by rw[Qx,b];rfl
  have q:S.O4 (cards.drop (j+1))*c=c*S.O4 (cards.drop (j+1)):=Int.mul_comm _ _;simp only[sz,simprocAttr,h0,h1,h5,B,h7,(D g.h).ints,(I g.h).ints,hcl,r,u,A,ci,aA (show -9223372036854775808<=x*S.O4 (cards.drop (j+1)) by omega) (show x*S.O4 (cards.drop (j+1))<9223372036854775808 by omega),aA (show -9223372036854775808<=S.O5 (cards.drop (j+1)) (vals.drop (j+1))+x*S.O4 (cards.drop (j+1)) by omega) (show S.O5 (cards.drop (j+1)) (vals.drop (j+1))+x*S.O4 (cards.drop (j+1))<9223372036854775808 by omega),aA (show -9223372036854775808<=S.O4 (cards.drop (j+1))*c by omega) (show S.O4 (cards.drop (j+1))*c<9223372036854775808 by omega),St];refine⟨?_,?_⟩
  ·rw[dc,dv];show Uk (_+_)=Uk (x*S.O4 (cards.drop (j+1))+S.O5 _ _);rw[Int.add_comm]
  ·rw[dc,cF,q]
 ·rintro t df g ⟨rfl,⟨h0,h1,h5,B,-⟩⟩;simp only[sz,simprocAttr,od,h5]
end
end Hx
end
section
namespace Hx
open Go
noncomputable section
theorem wo{l:List Int}(hc:∀c∈l,1<=c/\c<=4)(hl:l.length<=13):S.PX l=S.O4 l:=by
 have pw:∀n,n<=13->(4:Int) ^ n<=67108864:=λn hn=>by
  have:=dI hn;have e:(4:Int) ^ 13=67108864:=by decide
  omega
 have key:∀j,j<=l.length->S.PX (l.take j)=S.O4 (l.take j):=by
  intro j
  induction j with
  |zero=>intro _;rfl
  | succ j ih =>
   intro k;obtain⟨x,hx,h,hm⟩:=ae (l:=l) (j:=j) (by omega);have ih:=ih (by omega);have hb:=bO (l:=l.take (j+1)) λy hy=>hc y (Rs hy);have:=pw (l.take (j+1)).length (by simp;omega);rw[h]at hb this ⊢;rw[sG]at hb ⊢;show S.PX (l.take j++[x])=_;unfold S.PX at ih ⊢;rw[SZ,ih];show IntKind.wrap .i64 (S.O4 (l.take j)*x)=_;rw[aA (by omega) (by omega)]
 have:=key l.length (Qv _);rwa [Q4]at this
end
end Hx
end
section
namespace Hx
open Go
def S.Qm(x:Mech)(roots:List Int)(V:Nat->Int):List Int:=(x.frm.map λq=>V q.toNat)++(x.noise.map λr=>roots[r.toNat]?.getD 0)
def S.Qk(m:Causal)(roots act:List Int)(V:Nat->Int)(i:Nat)(x:Mech):Int:=if 0<=act[i]?.getD 0 then act[i]?.getD 0 else x.out[(S.O5 (S.Qo m x) (S.Qm x roots V)).toNat]?.getD 0
def Sol(m:Causal)(roots act:List Int)(V:Nat->Int):Prop:=∀(i:Nat) (x:Mech),m.nodes[i]?=some x->V i=S.Qk m roots act V i x
noncomputable def S.V(m:Causal)(roots act:List Int):Nat->Int:=Classical.epsilon (Sol m roots act)
noncomputable def S.Qq(m:Causal)(roots act:List Int):List Int:=(List.range m.nodes.length).map (S.V m roots act)
theorem B6{cards vals:List Int}(hl:cards.length=vals.length)(h:∀(i:Nat) c v,cards[i]?=some c->vals[i]?=some v->0<=v/\v<c):InC cards vals:=by
 induction cards generalizing vals with
 | nil=>cases vals with
  |nil=>trivial
  |cons v vals=>simp at hl
 | cons c cards ih=>cases vals with
  |nil=>simp at hl
  |cons v vals=>exact⟨h 0 c v rfl rfl,ih (by simpa using hl) λi c' v' h1 h2=>h (i+1) c' v' (by simpa using h1) (by simpa using h2)⟩
theorem InC.get{cards vals:List Int}(h:InC cards vals){i:Nat}{c:Int}(hc:cards[i]?=some c):∃v,vals[i]?=some v/\0<=v/\v<c:=All2.get h hc
end Hx
end
section
namespace Hx
open Go
noncomputable section
def hz(cs vs:List Int)(j:Nat):Int:=((cs.zip vs).take j).foldl (λa p=>a*p.1+p.2) 0
section
variable {d k:Nat}{m:Causal}{roots act:List Int}{V:Nat->Int}{a b w u:AV}{p1 p2 p3 p4 iu:Nat}{hid:Int}{r:Nat->Nat}
end
end
end Hx
end
section
namespace Hx
open Go
noncomputable section
theorem kU(ag:Bool)(n l sz off:Nat)(row:List AV)(g:G):qs ag n (.tptr l sz [row] 0 off) g=orV (bN ag n row off):=rfl
section
variable {d:Nat}{m:Causal}{a b:AV}
end
end
end Hx
end
section
namespace Hx
open Go
noncomputable section
theorem su{C:Cfg}{d:Nat}{r:List SR}{t:T}{g:G}{K:AV->G->Prop}{id:Nat}(hg:g.h.get id=.dfr true)(h:uc r t (g.put id (.dfr false)) λvs=>K (iB vs) (g.put id (.dfr false))):tG C d r t [.mark id] g K:=by
 unfold tG;have:eH (I C) d [.mark id] g=some (g.put id (.dfr false)):=by simp only[eH,G.get_eq,hg]
 rw[this];exact h
end
end Hx
end
section
namespace Hx
open Go
noncomputable section
def Fam(g:G)(b K:Nat)(V:Nat->AV)(W:Nat->List (List AV)):Prop :=
 (∀k,k<K->Own g b (V k) 1 (W k))/\∀k l,k<K->l<K->k≠l->∀id,vid (V k)=some id->vid (V l)≠some id
def O1(c:Nat->Int)(V:Nat->AV)(i:Nat):List AV:=[Uk (c i),V (3*i+1),V (3*i+2),V (3*i+3)]
def KR(n:Nat)(c:Nat->Int)(V:Nat->AV):List (List AV):=(List.range n).map (O1 c V)
structure ME where
 (n p4 q i5 p7 i9 b:Nat)
 (nv w5 w9 e7:AV)
 (gr:Int)
 (row0:List AV)
 (prow:List (List AV))
 (us:List UInt8)
structure ME.Ok (e:ME):Prop where
 ord:1<e.q/\e.q<e.p4/\e.p4<e.i5/\e.i5<e.p7/\e.p7<e.i9/\e.i9<e.b
 n1:1<=e.n/\e.n<=4
 g1:2<=e.gr/\e.gr<=12
 vn:vid e.nv=some e.q
 v5:vid e.w5=some e.i5
 v9:vid e.w9=some e.i9
 l7:SlR NoP 0 .nil e.us e.e7
structure MI (e:ME) (g:G) (V:Nat->AV) (W:Nat->List (List AV)) (c:Nat->Int) (ow:List Bool) (cap:Nat):Prop where
 h0:g.h.get 0=TD 5 [e.row0]
 h1:g.h.get 1=TD 3 [[Uk 0,.nils,.nils]]
 hN:Own g 0 e.nv 4 (KR e.n c V)
 h4:g.h.get e.p4=TD 3 [[Uk e.gr,V 0,e.nv]]
 h5:Own g 0 e.w5 4 e.prow
 h7:∃cc:Int,0<=cc/\cc<=(cap:Int)/\g.h.get e.p7=TD 2 [[e.e7,Uk cc]]
 h9:Own g 0 e.w9 1 (ow.map λx=>[.bool x])
 fam:Fam g e.b (3*e.n+1) V W
 nx:e.b<=g.nx
section
variable {e:ME}{g g':G}{V:Nat->AV}{W:Nat->List (List AV)}{c:Nat->Int}{ow:List Bool}{cap:Nat}
theorem fH{v:AV}{i j:Nat}(h:vid v=some i)(h':vid v=some j):i=j:=by rw[h]at h';injection h'
structure MP (e:ME) (g:G) (V V':Nat->AV) (W:Nat->List (List AV)) (c:Nat->Int) (ow:List Bool) (cap:Nat):Prop where
 h0:g.h.get 0=TD 5 [e.row0]
 h1:g.h.get 1=TD 3 [[Uk 0,.nils,.nils]]
 hN:Own g 0 e.nv 4 (KR e.n c V)
 h4:g.h.get e.p4=TD 3 [[Uk e.gr,V 0,e.nv]]
 h5:Own g 0 e.w5 4 e.prow
 h7:∃cc:Int,0<=cc/\cc<=(cap:Int)/\g.h.get e.p7=TD 2 [[e.e7,Uk cc]]
 h9:Own g 0 e.w9 1 (ow.map λx=>[.bool x])
 fam:Fam g e.b (3*e.n+1) V' W
 nx:e.b<=g.nx
end
end
end Hx
end
section
namespace Hx
open Go
noncomputable section
structure MD (e:ME) (W:Nat->List (List AV)) (R:List (List Int)) (F N O:Nat->List Int):Prop where
 r:All2 (Rp.rp NoP 0 .nil) R (W 0)
 f:∀i,i<e.n->W (3*i+1)=(F i).map ci
 n:∀i,i<e.n->W (3*i+2)=(N i).map ci
 o:∀i,i<e.n->W (3*i+3)=(O i).map ci
end
end Hx
end
section
namespace Hx
open Go
noncomputable section
end
end Hx
end
section
namespace Hx
open Go
noncomputable section
theorem vE{α β γ:Type}{R:β->γ->Prop}{f:α->β}{h:α->γ}:∀{l:List α},(∀x∈l,R (f x) (h x))->All2 R (l.map f) (l.map h)
 |[],_=>trivial
 |a::l,hl=>⟨hl a (by simp),vE λx hx=>hl x (by simp[hx])⟩
end
end Hx
end
section
namespace Hx
open Go
noncomputable section
theorem SlR.wide{α:Type} [Rp α]{P:Nat->Prop}{k k':Nat}{h h':H}{l:List α}{v:AV}(r:SlR NoP k h l v)(hk:k<=k'):SlR P k' h' l v:=by obtain⟨w,hw,q⟩:=Rp.tree (P:=P) (k':=k') (h':=h') (show Rp.rp NoP k h l [v] from ⟨v,rfl,r⟩) hk;injection hw with hw;subst hw;exact q
structure M0 (n p4 q i5 p7:Nat) (nv w5 cl:AV) (row0:List AV) (prow:List (List AV)) (gr:Int) (g:G) (cf:Nat->Int):Prop where
 h0:g.h.get 0=TD 5 [row0]
 h1:g.h.get 1=TD 3 [[Uk 0,.nils,.nils]]
 hN:Own g 2 nv 4 (KR n cf λ_=>.nils)
 h4:g.h.get p4=TD 3 [[Uk gr,.nils,nv]]
 h5:Own g 2 w5 4 prow
 h7:g.h.get p7=TD 2 [[cl,Uk 0]]
 nx:p7<g.nx
section
variable {n p4 q i5 p7:Nat}{nv w5 cl:AV}{row0:List AV}{prow:List (List AV)}{gr:Int}{g g':G}{cf cf':Nat->Int}
end
end
end Hx
end
section
namespace Hx
open Go
noncomputable section
def eid:AV->Option Nat
 |.hsl id _ _ _ _=>some id
 |.hptr id _ _ _=>some id
 |_=>none
def Bx(g:G)(b:Nat)(v:AV)(row:List AV):Prop:=∃id,b<=id/\id<g.nx/\v=Ul id/\g.h.get id=TD row.length [row]
inductive En where
 |sl (sz:Nat) (rows:List (List AV))
 |bx (row:List AV)
def En.ok(g:G)(b:Nat)(v:AV):En->Prop
 |.sl sz rows=>Own g b v sz rows
 |.bx row=>Bx g b v row
theorem bU{g:G}{b:Nat}{v:AV}{sz:Nat}{rows:List (List AV)}(h:Own g b v sz rows):eid v=vid v:=by rcases h with⟨rfl,-⟩|⟨id,ep,lo,h1,h2,rfl,k⟩<;>rfl
theorem En.lt{g:G}{b:Nat}{v:AV}{e:En}(h:e.ok g b v){i:Nat}(hi:eid v=some i):b<=i/\i<g.nx:=by
 cases e with
 | sl sz rows =>
  have h:Own g b v sz rows:=h;rw[bU h]at hi;exact h.lt hi
 | bx row =>
  obtain⟨id,h1,h2,rfl,k⟩:=h;injection hi with hi;subst hi;exact⟨h1,h2⟩
theorem En.fr{g g':G}{b:Nat}{v:AV}{e:En}(h:e.ok g b v)(hn:g.nx<=g'.nx)(hf:∀i,eid v=some i->g'.h.get i=g.h.get i):e.ok g' b v:=by
 cases e with
 | sl sz rows =>
  have h:Own g b v sz rows:=h;exact h.fr hn λi hi=>hf i (by rw[bU h];exact hi)
 | bx row =>
  obtain⟨id,h1,h2,rfl,k⟩:=h;exact⟨id,h1,by omega,rfl,by rw[hf id rfl,k]⟩
section
variable {κ:Type}
structure Hp (g:G) (b:Nat) (L:κ->Prop) (V:κ->AV) (E:κ->En):Prop where
 ok:∀k,L k->(E k).ok g b (V k)
 sep:∀k l,L k->L l->k≠l->∀id,eid (V k)=some id->eid (V l)≠some id
 nx:b<=g.nx
variable {g g':G}{b:Nat}{L L':κ->Prop}{V:κ->AV}{E:κ->En}{k:κ}
theorem Hp.sub(h:Hp g b L V E)(hl:∀k,L' k->L k):Hp g b L' V E:=⟨λk hk=>h.ok k (hl k hk),λk l hk hl2=>h.sep k l (hl k hk) (hl l hl2),h.nx⟩
theorem Hp.step(h:Hp g b L V E)(hn:g.nx<=g'.nx)(hf:∀i,b<=i->i<g.nx->g'.h.get i=g.h.get i):Hp g' b L V E :=
 ⟨λk hk=>En.fr (h.ok k hk) hn λi hi=>hf i (En.lt (h.ok k hk) hi).1 (En.lt (h.ok k hk) hi).2,h.sep,QW h.nx hn⟩
theorem Hp.same(h:Hp g b L V E)(hf:g'.h=g.h)(hn:g.nx<=g'.nx):Hp g' b L V E:=h.step hn λi _ _=>by rw[hf]
theorem Hp.own(h:Hp g b L V E)(hk:L k){sz:Nat}{rows:List (List AV)}(he:E k=.sl sz rows):Own g b (V k) sz rows:=by have:=h.ok k hk;rw[he]at this;exact this
theorem Hp.box(h:Hp g b L V E)(hk:L k){row:List AV}(he:E k=.bx row):Bx g b (V k) row:=by have:=h.ok k hk;rw[he]at this;exact this
end
section
variable {κ:Type} [DecidableEq κ]
def ups{α:Type}(f:κ->α)(k:κ)(x:α):κ->α:=λj=>if j=k then x else f j
theorem an{α:Type}(f:κ->α)(k:κ)(x:α):ups f k x k=x:=QA rfl
theorem ac{α:Type}(f:κ->α){k j:κ}(x:α)(h:j≠k):ups f k x j=f j:=Qw h
theorem Le{α:Type}{f:κ->α}{k:κ}{x:α}(h:f k=x):ups f k x=f:=by
 funext j;by_cases e:j=k
 ·subst e;rw[an,h]
 ·exact ac _ _ e
variable {g g':G}{b:Nat}{L L':κ->Prop}{V:κ->AV}{E:κ->En}{k:κ}
theorem Hp.set(h:Hp g b L V E){v':AV}{e':En}(hk:L k)(ho:e'.ok g' b v')(hn:g.nx<=g'.nx)(hf:∀i,b<=i->i<g.nx->eid (V k)≠some i->g'.h.get i=g.h.get i)
  (hv:eid v'=eid (V k)\/∃i,eid v'=some i/\g.nx<=i):Hp g' b L (ups V k v') (ups E k e'):=by
 refine⟨λj hj=>?_,λj l hj hl hne id e1 d=>?_,QW h.nx hn⟩
 ·by_cases e:j=k
  ·subst e;rw[an,an];exact ho
  ·rw[ac _ _ e,ac _ _ e];exact En.fr (h.ok j hj) hn λi hi=>hf i (En.lt (h.ok j hj) hi).1 (En.lt (h.ok j hj) hi).2 λd=>h.sep j k hj hk e i hi d
 ·have key:∀j,L j->j≠k->∀id,eid (V j)=some id->eid v'≠some id:=λj hj hne id e1 d=>by
   rcases hv with hv|⟨i,hv,hi⟩
   ·exact h.sep j k hj hk hne id e1 (hv ▸ d)
   ·rw[hv]at d;injection d with d;have:=(En.lt (h.ok j hj) e1).2;omega
  by_cases a:j=k
  ·subst a;rw[an]at e1;rw[ac _ _ (RJ hne)]at d;exact key l hl (RJ hne) id d e1
  ·rw[ac _ _ a]at e1
   by_cases c:l=k
   ·subst c;rw[an]at d;exact key j hj a id e1 d
   ·rw[ac _ _ c]at d;exact h.sep j l hj hl hne id e1 d
theorem Hp.add(h:Hp g b L V E){v':AV}{e':En}(hk:¬L k)(ho:e'.ok g' b v')(hn:g.nx<=g'.nx)(hf:∀i,b<=i->i<g.nx->g'.h.get i=g.h.get i)
  (hv:∀i,eid v'=some i->g.nx<=i) (hl:∀j,L' j->L j\/j=k):Hp g' b L' (ups V k v') (ups E k e'):=by
 refine⟨λj a=>?_,λj l a hl2 hne id e1 e2=>?_,QW h.nx hn⟩
 ·rcases hl j a with a|rfl
  ·have e:j≠k:=λe=>hk (e ▸ a);rw[ac _ _ e,ac _ _ e];exact En.fr (h.ok j a) hn λi hi=>hf i (En.lt (h.ok j a) hi).1 (En.lt (h.ok j a) hi).2
  ·rw[an,an];exact ho
 ·have key:∀j,L j->∀id,eid (V j)=some id->eid v'≠some id:=λj a id e1 e2=>by have:=hv id e2;have:=(En.lt (h.ok j a) e1).2;omega
  rcases hl j a with a|rfl
  ·have e:j≠k:=λe=>hk (e ▸ a);rw[ac _ _ e]at e1;rcases hl l hl2 with hl2|rfl
   ·have e':l≠k:=λe=>hk (e ▸ hl2);rw[ac _ _ e']at e2;exact h.sep j l a hl2 hne id e1 e2
   ·rw[an]at e2;exact key j a id e1 e2
  ·rw[an]at e1;rcases hl l hl2 with hl2|rfl
   ·have e':l≠j:=λe=>hne e.symm;rw[ac _ _ e']at e2;exact key l hl2 id e2 e1
   ·exact hne rfl
theorem Hp.app(h:Hp g b L V E)(hk:L k){sz bytes:Nat}{rows new:List (List AV)}(he:E k=.sl sz rows){x:AV}{K:AV->G->Prop}{D:ADf->Prop}(hx:af g.h sz x=some new)
  (hr:(rows.length+new.length)*bytes<=aQ)
  (kk:∀v' g',Hp g' b L (ups V k v') (ups E k (.sl sz (rows++new)))->g.nx<=g'.nx->(∀i,i<b->g'.h.get i=g.h.get i)->(∀i,i<g.nx->eid (V k)≠some i->g'.h.get i=g.h.get i)->(∀i∈g'.lg,i∈g.lg\/b<=i)->v'.cells=[v']->v'.isTup=false->K v' g') :
  (dh sz bytes (V k) x g).sat K g D:=by
 have ho:=h.own hk he;refine bD ho hx h.nx hr λv' g' hv' hn hf hvid hlg=>?_;refine kk v' g' (h.set hk (e':=.sl sz (rows++new)) hv' hn (λi _ hi hne=>hf i hi (by rw[<-bU ho];exact hne)) ?_) hn (λi hi=>hf i (QV hi h.nx) λe=>by have:=(ho.lt e).1;omega)
  (λi hi hne=>hf i hi (by rw[<-bU ho];exact hne)) hlg hv'.cell.1 hv'.cell.2
 rw[bU hv',bU ho];exact hvid
theorem Hp.put(h:Hp g b L V E)(hk:L k){sz n i off:Nat}{rows:List (List AV)}{row row':List AV}(he:E k=.sl sz rows){x:AV}{K:AV->G->Prop}{D:ADf->Prop}(hr:rows[i]?=some row)
  (hl:x.cells.length=n) (ht:x.isTup=false) (hp:bY row off x.cells=some row')
  (kk:∀g',Hp g' b L V (ups E k (.sl sz (rows.set i row')))->g'.nx=g.nx->(∀i,i<b->g'.h.get i=g.h.get i)->(∀i,eid (V k)≠some i->g'.h.get i=g.h.get i)->K .undef g'):(mi n (jf sz (V k) i off) x g).sat K g D:=by
 have ho:=h.own hk he;refine ck ho hr hl ht hp λg' hv' hn hf=>?_;have:=h.set hk (e':=.sl sz (rows.set i row')) hv' (by omega) (λi _ hi hne=>hf i (by rw[<-bU ho];exact hne)) (.inl rfl);rw[Le (f:=V) rfl]at this;exact kk g' this hn (λi hi=>hf i λe=>by have:=(ho.lt e).1;omega) λi hne=>hf i (by rw[<-bU ho];exact hne)
theorem Hp.putb(h:Hp g b L V E)(hk:L k){row row':List AV}(he:E k=.bx row){id:Nat}(hv:V k=Ul id)(hl:row'.length=row.length):Hp (g.put id (TD row.length [row'])) b L V (ups E k (.bx row')):=by
 obtain⟨id',h1,h2,a,h4⟩:=h.box hk he;rw[hv]at a;injection a with a;subst a;have:=h.set (g':=g.put id (TD row.length [row'])) hk (e':=.bx row') (v':=Ul id) ⟨id,h1,by simpa using h2,rfl,by rw[hl];simp[aV]⟩ (by simp) (λi _ hi hne=>by
  rw[G.put_h,aE _ _ _ (λe=>hne (by rw[hv,e];rfl))]) (.inl (by rw[hv]))
 rw[Le (f:=V) hv]at this;exact this
end
end
end Hx
end
section
namespace Hx
open Go
noncomputable section
theorem jo{C:Cfg}{d:Nat}{rd:Option Nat}{l:List SI}{b:SC}{Q:QT}{t:T}{df:List ADf}{g:G}{P:PT}(h1:wpO C d rd l P t df g)(h2:∀t df g,P t df g->wp C d rd b Q t df g):wp C d rd (Uj (.ops l) b) Q t df g:=by
 rw[dW];have:wp C d rd (.ops l) (λe t df g=>e=.norm/\P t df g) t df g:=by rw[CM];simpa using h1
 refine cK _ this ?_;rintro e t df g ⟨rfl,h⟩;exact h2 t df g h
structure Bnd (K:Nat) (m:Causal):Prop where
 r:m.roots.length<=K
 rr:∀x∈m.roots,x.length<=K
 n:m.nodes.length<=K
 f:∀x∈m.nodes,x.frm.length<=K/\x.noise.length<=K/\x.out.length<=K
abbrev Ky:Type:=Nat×Nat
structure BD (K R n:Nat) (V:Ky->AV) (E:Ky->En) (Rt:Nat->List Int) (c:Nat->Int) (F:Nat->Nat->List Int):Prop where
 r:∀i,i<R->E (0,i)=.sl 1 ((Rt i).map ci)/\(Rt i).length<=K
 f:∀q i,1<=q->q<=3->i<n->E (q,i)=.sl 1 ((F q i).map ci)/\(F q i).length<=K
 rs:E (4,0)=.sl 1 ((List.range R).map λi=>[V (0,i)])
 ns:E (4,1)=.sl 4 ((List.range n).map λi=>[Uk (c i),V (1,i),V (2,i),V (3,i)])
end
end Hx
end
section
namespace Hx
open Go
noncomputable section
structure TI (g:G) (q:Nat) (m:Causal) (k1 k2 act u1 u2 u3:AV) (A B W:List Int):Prop where
 a1:g.h.get 1=TD 1 [[act]]
 a2:g.h.get 2=TD 3 [[.nils,.nils,.nils]]
 a4:g.h.get 4=TD 4 [[Uk m.grain,k1,k2,Uk (S.Ql m)]]
 bq:g.h.get q=TD 3 [[u1,u2,u3]]
 o1:Own g 5 u1 1 (A.map ci)
 o2:Own g 5 u2 1 (B.map ci)
 o3:Own g 5 u3 1 (W.map ci)
 q5:5<=q/\q<g.nx
 n1:∀i,vid u1=some i->i≠q/\vid u2≠some i/\vid u3≠some i
 n2:∀i,vid u2=some i->i≠q/\vid u3≠some i
 n3:∀i,vid u3=some i->i≠q
section
variable {g g':G}{q:Nat}{m:Causal}{k1 k2 act u1 u2 u3:AV}{A B W:List Int}
end
end
end Hx
end
section
namespace Hx
open Go
noncomputable section
theorem fA{C:Cfg}{d:Nat}{rd:Option Nat}{a b:SC}{Q:QT}{t:T}{df:List ADf}{g:G}{P:PT}(h1:wp C d rd a (λe t df g=>e=.norm/\P t df g) t df g)(h2:∀t df g,P t df g->wp C d rd b Q t df g):wp C d rd (.seq a b) Q t df g:=by rw[dW];refine cK _ h1 ?_;rintro e t df g ⟨rfl,h⟩;exact h2 t df g h
end
end Hx
end
section
namespace Hx
open Go
noncomputable section
end
end Hx
end
section
namespace Hx
open Go
noncomputable section
theorem MB(a:ADf)(K:AV->G->Prop)(g:G)(D:ADf->Prop):(OR.dfr a).sat K g D=D a:=rfl
theorem L7(W:PT)(t:T)(df:List ADf)(g:G)(a:ADf):kD W none t df g a=W t (a::df) g:=rfl
theorem IG{C:Cfg}{d n:Nat}{t:T}{g:G}{f:Nat}{first cap:List AV}(h:tat t n=.clo f first cap):SO.run C d none t g (.raw (.defer ⟨.value (.tmp n),#[],#[]⟩))=.dfr (.call (.clo f [] cap) (first++[])):=by
 have:(gp AV.undef n).run t=.clo f first cap:=by rw[gp_run];exact h
 simp only[SO.run,b_,cOp,aN,bL,this]
theorem FO{C:Cfg}{d n:Nat}{t:T}{g:G}{f:Nat}{first cap:List AV}(h:tat t n=.clo f first cap):(b_ C (.defer ⟨.value (.tmp n),#[],#[]⟩)).run (I C) d none t g=.dfr (.call (.clo f [] cap) (first++[])):=IG h
theorem HZ{C:Cfg}{d:Nat}{r:List SR}{t:T}{g g':G}{K:AV->G->Prop}{f:Nat}{cap:List AV}{v:AV}(hc:(I C).call d f cap g=.ok v g')(h:uc r t g' λvs=>K (iB vs) g'):tG C d r t [.call (.clo f [] cap) []] g K:=by
 unfold tG;have:eH (I C) d [.call (.clo f [] cap) []] g=some g':=by simp only[eH,QY,hc]
 rw[this];exact h
theorem Ev{C:Cfg}{d:Nat}{rd:Option Nat}{t:T}{g:G}:SO.run C d rd t g (.raw (.call ⟨.builtin .recover,#[],#[]⟩))=.val .nili:=rfl
end
end Hx
end
section
namespace Hx
open Go
noncomputable section
end
end Hx
end
section
namespace Hx
open Go
noncomputable section
end
end Hx
end
section
namespace Hx
open Go
noncomputable section
end
end Hx
end
section
namespace Hx
open Go
noncomputable section
def S.Qa(vals e:List Int)(i:Nat):Bool:=decide (e[i]?.getD 0<0) || decide (e[i]?.getD 0=vals[i]?.getD 0)
def S.Pw(vals e:List Int):Bool:=(List.range e.length).all (S.Qa vals e)
end
end Hx
end
section
namespace Hx
open Go
noncomputable section
end
end Hx
end
section
namespace Hx
open Go
noncomputable section
end
end Hx
end
section
namespace Hx
open Go
noncomputable section
def S.Qr(s a:List Int):List Int:=(List.range s.length).map λi=>if a[i]?.getD 0<0 then -1 else s[i]?.getD 0
end
end Hx
end
section
namespace Hx
open Go
noncomputable section
theorem kM{α:Type}{C:α->Prop}{S:α->VS}{j:Nat}(h:∀a,Snb (S a) j):Snb (λP k h v=>∃a,C a/\S a P k h v) j :=
 ⟨λ{P k hh v n} d r hn=>by
  obtain⟨a,c,r⟩:=r;obtain⟨v',e,r'⟩:=(h a).snap d r hn;exact⟨v',e,a,c,r'⟩,λ{k hh v n} r hn=>by
  obtain⟨a,c,r⟩:=r;exact (h a).tag r hn⟩
theorem sE:∀{A L:List Nat},A.Nodup->(∀v∈A,v∈L)->A.length<=L.length
 |[],_,_,_=>Rf _
 | a::A,L,hA,h=>by rw[List.nodup_cons]at hA;have ha:=h a (by simp);have:=sE (A:=A) (L:=L.erase a) hA.2 λv hv=>(List.mem_erase_of_ne (λe=>hA.1 (by rw[<-e];exact hv))).2 (h v (by simp[hv]));rw[List.length_erase_of_mem ha]at this;have:=List.length_pos_of_mem ha;simp only[Q9];omega
def Ord(p:List Nat)(L:List Nat):Prop:=(∀v,v<p.length->v∈L)/\∀(i v:Nat),L[i]?=some v->v<p.length/\∀q,(Par p v).testBit q=true->q∈L.take i
def HK(p:List Nat)(L:List Nat):Prop:=L.Nodup/\∀(i v:Nat),L[i]?=some v->v<p.length/\∀q,(Par p v).testBit q=true->q∈L.take i
theorem Kt{p L:List Nat}(h:HK p L):L.length<=p.length:=by
 have:=sE (L:=List.range p.length) h.1 λv hv=>by obtain⟨i,hi,rfl⟩:=RU.1 hv;exact QX.2 (h.2 i _ (Qu hi)).1
 simpa using this
theorem Is{p L:List Nat}(h:HK p L){v:Nat}(hv:v ∉ L)(hl:v<p.length)(hp:∀q,(Par p v).testBit q=true->q∈L):HK p (L++[v]):=by
 refine⟨?_,λi u hu=>?_⟩
 ·rw[List.nodup_append];exact⟨h.1,by simp,λa ha b hb=>by simp at hb;subst hb;exact λe=>hv (e ▸ ha)⟩
 ·rcases RX i L.length with hi|hi
  ·rw[QE hi]at hu;obtain⟨h1,h2⟩:=h.2 i u hu;exact⟨h1,λq hq=>by rw[List.take_append_of_le_length (by omega)];exact h2 q hq⟩
  ·rw[QL hi]at hu;have:i=L.length:=by have:=(Qt.1 hu).1;simp at this;omega
   subst this;simp at hu;subst hu;exact⟨hl,λq hq=>by rw[List.take_left];exact hp q hq⟩
theorem Ir{p L:List Nat}(h:HK p L)(hl:p.length<=L.length):Ord p L:=by
 refine⟨λv hv=>?_,h.2⟩
 by_cases hm:v∈L
 ·exact hm
 ·have:=sE (A:=v::L) (L:=List.range p.length) (List.nodup_cons.2 ⟨hm,h.1⟩) λu hu=>by
   rcases Q8.1 hu with rfl|hu
   ·exact QX.2 hv
   ·obtain⟨i,hi,rfl⟩:=RU.1 hu;exact QX.2 (h.2 i _ (Qu hi)).1
  simp at this;omega
theorem Md{p L:List Nat}(h:HK p L)(hl:L.length<p.length):∃v,v<p.length/\v ∉ L:=by
 by_cases hh:∃v,v<p.length/\v ∉ L
 ·exact hh
 ·exfalso;have:=sE (A:=List.range p.length) (L:=L) List.nodup_range λv hv=>by
   by_cases h':v∈L
   ·exact h'
   ·exact absurd ⟨v,QX.1 hv,h'⟩ hh
  simp at this;omega
def Nx(D:Nat)(L:List Nat):Prop:=D<18446744073709551616/\∀v,D.testBit v=true↔v∈L
theorem IK{D:Nat}{L:List Nat}(h:Nx D L){v:Nat}(hv:v<64):Nx (D ||| S.Ph v) (L++[v]):=by
 refine⟨G9 h.1 (mX v),λu=>?_⟩;rw[rH,ym hv,Rk,h.2,QQ,Q0,Rg];constructor
 ·rintro (h|h)
  ·exact .inl h
  ·exact .inr h.symm
 ·rintro (h|h)
  ·exact .inl h
  ·exact .inr h.symm
end
end Hx
end
section
namespace Hx
open Go
noncomputable section
theorem Er[XOc]{d k k2:Nat}{g:G}{P P2:Nat->Prop}{v w:AV}{vals e:List Int}(hd:0<d)(hv:SlR P k g.h vals v)(hw:SlR P2 k2 g.h e w)(hl:vals.length=e.length) :
  aq C0 d 94 [v,w] g=.val (.bool (S.Pw vals e)):=by
 obtain⟨v',e1,n⟩:=bE hv d;obtain⟨w',o,p⟩:=bE hw d;rw[tE];refine d7 v8 (xs:=[v',w']) (by simp only[aF,e1,o]) (by simp[jV]) hd ?_;simp only[sz,simprocAttr,jV,lM];refine be e.length hw.1 (λj t df g=>df=[]/\St t [(0,v'),(1,w')]/\(List.range j).all (S.Qa vals e)=true) ⟨rfl,by simp[St,sx],rfl⟩ (by simp[sx]) (by decide) (by rintro j t df g v s (rfl|rfl|rfl)<;>simp[St,sx]) ?_ ?_ ?_
 ·rintro j t df g f ⟨rfl,⟨h0,h1,-⟩,c⟩ h5;have n1:gz .slice v' g=.val (Uk (e.length:Int)):=by rw[(n .nil).len,hl]
  simp only[sz,simprocAttr,h0,h1,h5,n1,St,c]
 ·rintro j t df g f ⟨rfl,⟨h0,h1,-⟩,c⟩ h5;obtain⟨x,hx,-,-⟩:=ae f;obtain⟨y,i,-,-⟩:=ae (l:=vals) (j:=j) (by omega);have q1:j<(e.map ci).length:=by simpa using f
  have q2:j<(vals.map ci).length:=by rw[QJ];omega
  have q3:(e.map ci)[j]?=some (ci x):=by rw[Qx,hx];rfl
  have m:(vals.map ci)[j]?=some (ci y):=by rw[Qx,i];rfl
  have b:S.Qa vals e j=(decide (x<0) || decide (x=y)):=by simp[S.Qa,hx,i]
  have ra:∀h',af h' 1 v'=some (vals.map ci):=λh'=>(n h').ints;have rb:∀h',af h' 1 w'=some (e.map ci):=λh'=>(p h').ints
  by_cases a:0<=x
  ·by_cases hxy:x=y
   ·simp only[sz,simprocAttr,h1,h5,rb,q1,q3,ci,hxy,St];have a:0<=y:=by omega
    simp only[sz,simprocAttr,a,h0,h1,h5,ra,rb,q1,q2,q3,m,ci,hxy];rw[dj,c,b];simp[hxy]
   ·simp only[sz,simprocAttr,h0,h1,h5,ra,rb,q1,q2,q3,m,ci,a,hxy];have:S.Qa vals e j=false:=by rw[b];simp;omega
    rw[S.Pw,gk f this]
  ·simp only[sz,simprocAttr,h0,h1,h5,rb,q1,q3,ci,a,St];rw[dj,c,b];simp;omega
 ·rintro t df g ⟨rfl,⟨h0,h1,-⟩,c⟩;simp only[sz,simprocAttr,lN];rw[S.Pw,c]
end
end Hx
end
section
namespace Hx
open Go
noncomputable section
theorem M3{g g':G}(hn:g.nx<=g'.nx)(h:∀i,i<g.nx->g'.h.get i=g.h.get i):Fr g g':=⟨hn,h⟩
theorem r_{C:Cfg}{d:Nat}{rd:Option Nat}{body:SC}{c ti k B b:Nat}{Q:QT}{m:Nat}{lim:Int}(hlim:lim=(m:Int))(hm:m<9223372036854775808)(J:Nat->PT){t:T}{df:List ADf}{g:G}
  (h0:J 0 t df g) (hi:tat t ti=Uk 0) (hc:c≠ti/\b≠B)
  (hJ:∀j t df g v s,s=c\/s=ti\/s=k->J j t df g->J j (fj t s v) df g)
  (step:∀j t df g,j<m->J j t df g->tat t ti=Uk (j:Int)->wp C d rd body (kR (λt df g=>J (j+1) t df g/\tat t ti=Uk (j:Int)) b Q) t df g)
  (fin:∀t df g,J m t df g->Q (.exit B) t df g) :
  wpL (wp C d rd (Uj (.ops [o c (.bin .lss (.t ti) (.k (Uk lim)))]) (Uj (.cond (.t c) .skip (.exit B)) (Uj (.blk b body) (.ops [o k (.bin .add (.t ti) (.k (Uk 1))),o ti (.mv (.t k))]))))) Q t df g:=by
 subst hlim;obtain⟨c1,f⟩:=hc;refine rZ (λn t df g=>∃j:Nat,n=m - j/\j<=m/\J j t df g/\tat t ti=Uk (j:Int)) m ⟨0,by omega,by omega,h0,hi⟩ ?_;rintro n t df g ⟨j,rfl,i,a,h1⟩;simp only[sz,simprocAttr,h1];refine⟨λhq=>?_,λhq=>?_⟩
 ·have hlt:j<m:=by simpa using hq
  simp only[sx];refine cK _ (step j _ df g hlt (hJ _ _ _ _ _ _ (.inl rfl) a) (by simp only[d8];rw[Qw (RJ c1),h1])) λe t df g h=>?_;have key:J (j+1) t df g/\tat t ti=Uk (j:Int)->wp C d rd (.ops [o k (.bin .add (.t ti) (.k (Uk 1))),o ti (.mv (.t k))])
    (kL (λn t df g=>∃j:Nat,n=m - j/\j<=m/\J j t df g/\tat t ti=Uk (j:Int)) (m - j) Q) t df g:=by
   rintro⟨a1,a2⟩;simp only[sz,simprocAttr,a2];refine⟨_,?_,j+1,rfl,by omega,hJ _ _ _ _ _ _ (.inr (.inl rfl)) (hJ _ _ _ _ _ _ (.inr (.inr rfl)) a1),?_⟩
   ·omega
   ·rw[aA (by omega) (by omega)];rfl
  cases e with
  |norm=>exact key h
  |ret=>exact h
  | exit x =>
   rw[mP]at h;rw[pD]
   split at h
   ·rename_i e;rw[QA e];exact key h
   ·rename_i e;rw[Qw e];exact h
 ·have:j=m:=by simp at hq;omega
  subst this;simp only[sx];exact fin _ _ _ (hJ _ _ _ _ _ _ (.inl rfl) a)
section
variable {m:Causal}{c1 c2 l w c9 v35 ls v48:AV}{al:List Int}{hid kk:Int}{p:Nat}
end
end
end Hx
end
section
namespace Hx
open Go
noncomputable section
theorem Fp(l:List Int)(j:Nat)(x:Int):(l.map ci).set j (ci x)=(l.set j x).map ci:=by rw[RD]
end
end Hx
end
section
namespace Hx
open Go
noncomputable section
theorem Hg{x y:Nat}(hy:0<y):bT .rem (Uk (x:Int)) (Uk (y:Int))=.val (Uk ((x % y:Nat):Int)):=by rw[dN .i64 (SU x) (by omega),<-Int.natCast_emod]
end
end Hx
end
section
namespace Hx
open Go
noncomputable section
theorem He{x y:Nat}(hx:x<9223372036854775808)(hy:0<y):bT .quo (Uk (x:Int)) (Uk (y:Int))=.val (Uk ((x / y:Nat):Int)):=by have h:x / y<=x:=Tq _ _;rw[BJ .i64 (SU x) (by omega),<-Int.natCast_ediv];generalize x / y=z at h;rw[aA (by omega) (by omega)]
end
end Hx
end
section
namespace Hx
open Go
noncomputable section
def S.PY:List Int->Int
 |[]=>0
 |x::l=>x+10000*S.PY l
end
end Hx
end
section
namespace Hx
open Go
noncomputable section
end
end Hx
end
section
namespace Hx
open Go
noncomputable section
end
end Hx
end
section
namespace Hx
open Go
noncomputable section
end
end Hx
end
section
namespace Hx
open Go
noncomputable section
structure S.tI (bl:List Int) (n i:Nat) (V ai:Int) (k:Nat) (c:Int) (L:List Int):Prop where
 len:L.length=n
 rng:∀x∈L,0<=x/\x<10000
 zer:∀j,i+bl.length<=j->i+k<=j->L[j]?.getD 0=0
 kle:k<=bl.length+1
 c0:0<=c
 c1:c<10000
 ce:k=bl.length+1->c=0
 cs:k=0->c=0
 eq:S.PY L+c*10000 ^ (i+k)=V+ai*10000 ^ i*S.PY (bl.take k)
structure S.tO (al bl:List Int) (i:Nat) (L:List Int):Prop where
 len:L.length=al.length+bl.length
 rng:∀x∈L,0<=x/\x<10000
 zer:∀j,i+bl.length<=j->L[j]?.getD 0=0
 eq:S.PY L=S.PY (al.take i)*S.PY bl
structure S.mI (al bl:List Int) (i:Nat) (r:Int) (L:List Int):Prop where
 len:L.length=i
 rng:∀x∈L,0<=x/\x<10000
 r01:r=0\/r=1
 eq:S.PY L=S.PY (al.take i) - S.PY (bl.take i)+r*10000 ^ i
end
end Hx
end
section
namespace Hx
open Go
noncomputable section
theorem Ja{x y:Int}(h0:0<=x)(h1:x<9223372036854775808)(hy:0<y):bT .quo (Uk x) (Uk y)=.val (Uk (x / y)):=by obtain⟨n,rfl⟩:=QD h0;obtain⟨m,rfl⟩:=QD (by omega:0<=y);have:=He (x:=n) (y:=m) (by omega) (by omega);rw[this,Int.natCast_ediv]
end
end Hx
end
section
namespace Hx
open Go
noncomputable section
structure S.qI (x b n:Nat) (i:Nat) (L:List Int):Prop where
 len:L.length=n
 rng:∀z∈L,0<=z/\z<10000
 eq:S.PY (L.drop i)=((x / 10000 ^ i / b:Nat):Int)
end
end Hx
end
section
namespace Hx
open Go
noncomputable section
end
end Hx
end
section
namespace Hx
open Go
noncomputable section
theorem SlR.wd{α:Type} [Rp α]{P P':Nat->Prop}{k:Nat}{h h':H}{l:List α}{v:AV}(r:SlR P k h l v)(hf:∀i,P i->P' i/\h'.get i=h.get i):SlR P' k h' l v:=by obtain⟨w,hw,q⟩:=Rp.mono (k':=k) (P':=P') (h':=h') (show Rp.rp P k h l [v] from ⟨v,rfl,r⟩) hf (Qv _);injection hw with hw;subst hw;exact q
end
end Hx
end
section
namespace Hx
open Go
noncomputable section
end
end Hx
end
section
namespace Hx
open Go
noncomputable section
abbrev P3:Nat->Prop:=λi=>3<=i
end
end Hx
end
section
namespace Hx
open Go
noncomputable section
end
end Hx
end
section
namespace Hx
open Go
noncomputable section
structure HS (m:Causal) (c1 c2 la lb lc:AV) (p q:Nat) (gb g:G):Prop where
 fr:Fr gb g
 mp:g.h.get p=TD 3 [[Uk m.grain,c1,c2]]
 ml:g.h.get q=TD 3 [[la,lb,lc]]
 pn:p<gb.nx
 q0:gb.nx<=q
 qn:q<g.nx
section
variable {m:Causal}{c1 c2 la lb lc w c28 vi c90 vj:AV}{A B Z:List Int}{p q:Nat}
end
end
end Hx
end
end
namespace Hx
open Go
noncomputable section
variable {g:G}{n:Net}{d k i q A k2 b:Nat}{v w:AV}{P P2:Nat->Prop}{l vals:List Int}{x:Node}{t:T}{Q:QT}{h:H}{K:AV->G->Prop}
section
variable {p:List Nat}
theorem A_:HJ p 0:=⟨λv _ hb=>by simp at hb,λv _ hb=>by simp at hb⟩
theorem Ds(ih:HJ p q){j:Nat}(hj:j<64)(hd:Sub (Par p j) q):HJ p (q ||| S.Ph j):=by
 refine⟨λv hv hb=>?_,λv hv hb=>?_⟩
 ·intro u hu;rw[rH,ym hj,Rk,QQ]at hb;rw[rH,Rk];rcases hb with hb|hb
  ·exact .inl (ih.1 v hv hb u hu)
  ·subst hb;exact .inl (hd u hu)
 ·rw[rH,ym hj,Rk,QQ]at hb;cases hq:q.testBit v
  ·rw[hq]at hb;simp at hb;subst hb;rw[<-RL];intro hu;have:=F8 ih.1 hd p.length j hu;rw[hq]at this;cases this
  ·exact ih.2 v hv hq
theorem ul(h:HJ p q)(hf:∀v,v<p.length->q.testBit v=true):S.Py p=true :=
 uk.2 λv hv=>h.2 v hv (hf v hv)
theorem BE(hp:∀x∈p,x<2 ^ p.length)(h:S.Py p=true){T:Nat}(hst:∀v,v<p.length->T.testBit v=false->¬Sub (Par p v) T):∀v,v<p.length->T.testBit v=true:=by
 rw[uk]at h;have none:∀r v,v<p.length->T.testBit v=false->S.up p (Par p v) p.length=r->False:=by
  intro r
  induction r using Nat.strongRecOn with
  | _ r ih =>
   intro v i hb hr;have d:=hst v i hb;have:∃u,(Par p v).testBit u=true/\T.testBit u=false:=by
    apply RK;intro c;apply d;intro u hu;cases hc:T.testBit u
    ·exact absurd ⟨u,hu,hc⟩ c
    ·rfl
   obtain⟨u,hu,f⟩:=this;have k:u<p.length:=K9 (FA hp) hu;have hcl:=IU hp (s:=Par p v) (FA hp);have a:(S.up p (Par p v) p.length).testBit u=true:=x_ _ u hu;have b:Sub (S.up p (Par p u) p.length) (S.up p (Par p v) p.length):=F8 hcl (hcl u k a) _;have hlt:S.up p (Par p u) p.length<S.up p (Par p v) p.length:=by refine Nat.lt_of_le_of_ne (Oh b) λe=>?_;have:=h u k;rw[e,a]at this;cases this
   exact ih _ (by omega) u k f rfl
 intro v i;cases hc:T.testBit v
 ·exact (none _ v i hc rfl).elim
 ·rfl
end
theorem oV:∀a b:List Int,S.O4 (a++b)=S.O4 a*S.O4 b
 |[],b=>by simp[S.O4]
 |x::a,b=>by rw[QI,cF,cF,oV a b,Tm]
theorem uT:∀{a va:List Int} (b vb:List Int),a.length=va.length->S.O5 (a++b) (va++vb)=S.O5 a va*S.O4 b+S.O5 b vb
 |[],[],b,vb,_=>by simp[S.O5]
 |[],_::_,_,_,h=>by simp at h
 |_::_,[],_,_,h=>by simp at h
 | c::a,v::va,b,vb,h=>by rw[QI,QI,S.O5,S.O5,uT b vb (by simpa using h),oV,Tv,Tm];omega
theorem Ek:∀{cs vs:List Int} (a:Int),(∀c∈cs,1<=c)->InC cs vs->S.PI cs (a*S.O4 cs+S.O5 cs vs)=a
 |[],[],a,_,_=>by simp[S.PI,S.O4,S.O5]
 |[],_::_,_,_,h=>by cases h
 |_::_,[],_,_,h=>by cases h
 | c::cs,v::vs,a,hc,h=>by
  obtain⟨⟨h1,h2⟩,k⟩:=h;have ih:=Ek (cs:=cs) (vs:=vs) (a*c+v) (λx hx=>hc x (by simp[hx])) k;have e:a*S.O4 (c::cs)+S.O5 (c::cs) (v::vs)=(a*c+v)*S.O4 cs+S.O5 cs vs:=by rw[cF,S.O5,Tv,Tm];omega
  rw[e];show S.PI cs _ / c=a;rw[ih,Int.add_comm,Int.add_mul_ediv_right _ _ (by omega),Int.ediv_eq_zero_of_lt h1 h2];omega
theorem A4:∀{cs vs:List Int} (a:Int) (i:Nat),(∀c∈cs,1<=c)->InC cs vs->i<cs.length->S.Pz cs (a*S.O4 cs+S.O5 cs vs) i=vs[i]?.getD 0
 |[],_,_,_,_,_,hi=>by simp at hi
 |_::_,[],_,_,_,h,_=>by cases h
 | c::cs,v::vs,a,i,hc,h,hi=>by
  obtain⟨⟨h1,h2⟩,b⟩:=h;have k:∀x∈cs,1<=x:=λx hx=>hc x (by simp[hx]);have e:a*S.O4 (c::cs)+S.O5 (c::cs) (v::vs)=(a*c+v)*S.O4 cs+S.O5 cs vs:=by rw[cF,S.O5,Tv,Tm];omega
  rw[e];cases i with
  | zero =>
   show S.PI cs _ % c=v;rw[Ek _ k b,Int.add_comm,Int.add_mul_emod_self_right,Int.emod_eq_of_lt h1 h2]
  | succ i =>
   have:=A4 (a*c+v) i k b (by simpa using hi);simpa [S.Pz] using this
theorem F9{cs vs:List Int}(hc:∀c∈cs,1<=c)(h:InC cs vs):S.O7 cs (S.O5 cs vs)=vs:=by
 have hl:=h.len;refine S4 (by simp[S.O7,hl]) λi h1 h2=>?_;have hi:i<cs.length:=by simpa [S.O7] using h1
 have:=A4 0 i hc h hi;rw[Int.zero_mul,Int.zero_add,Qu h2,QC]at this;simp[S.O7,this]
theorem zY{cs:List Int}(hc:∀c∈cs,1<=c)(h:Int):InC cs (S.O7 cs h):=by refine B6 (by simp[S.O7]) λi c v h1 h2=>?_;have hi:=(Qt.1 h1).1;rw[S.O7,Qx,S3 hi,Rz,Rv]at h2;have k:=hc c (Qz h1);rw[<-h2,S.Pz,h1,QC];exact⟨SJ _ (by omega),Sr _ (by omega)⟩
theorem zZ(cs:List Int)(h:Int):(S.O7 cs h).length=cs.length:=by simp[S.O7]
theorem kV:∀{cs:List Int},(∀c∈cs,1<=c)->1<=S.O4 cs
 |[],_=>by decide
 | c::cs,h=>by rw[cF];have h1:=h c (by simp);have h2:=kV (cs:=cs) λx hx=>h x (by simp[hx]);exact Int.le_trans h1 (by have:=Sx h2 (show 0<=c by omega);omega)
theorem zb:∀(cs:List Int) (n:Nat),S.O5 cs (List.replicate n 0)=0
 |[],n=>by cases n<;>rfl
 |_::_,0=>rfl
 |c::cs,n+1=>by rw[RT,S.O5,zb cs n];simp
theorem B5:∀{cs vs:List Int},cs.length=vs.length->(∀(i:Nat) (c:Int),cs[i]?=some c->vs[i]?.getD 0=c - 1)->S.O5 cs vs=S.O4 cs - 1
 |[],[],_,_=>by decide
 |[],_::_,h,_=>by simp at h
 |_::_,[],h,_=>by simp at h
 | c::cs,v::vs,hl,h=>by
  have h0:=h 0 c rfl;have ih:=B5 (cs:=cs) (vs:=vs) (by simpa using hl) λi x hx=>by have:=h (i+1) x (by simpa using hx);simpa using this
  simp at h0;rw[S.O5,ih,cF,h0,Int.sub_mul];omega
theorem J1{cs vs:List Int}(hl:cs.length=vs.length){x:Int}(hi:vs[i]?=some x)(hm:∀(j:Nat) (c:Int),i<j->cs[j]?=some c->vs[j]?.getD 0=c - 1) :
  S.O5 cs (vs.take i++(x+1)::List.replicate (vs.length - (i+1)) 0)=S.O5 cs vs+1:=by
 have h:=(Qt.1 hi).1;obtain⟨c,hc⟩:∃c,cs[i]?=some c:=⟨_,Qu (by omega)⟩;have e1:cs=cs.take i++c::cs.drop (i+1):=by have:=RA (l:=cs) (i:=i) (by omega);rw[Qu (by omega),Rv]at hc;rw[<-hc,<-this,Ry]
 have a:vs=vs.take i++x::vs.drop (i+1):=by have:=RA (l:=vs) (i:=i) h;rw[Qu h,Rv]at hi;rw[<-hi,<-this,Ry]
 have hlt:(cs.take i).length=(vs.take i).length:=by simp[hl]
 have k:S.O5 (cs.drop (i+1)) (vs.drop (i+1))=S.O4 (cs.drop (i+1)) - 1:=by refine B5 (by simp[hl]) λj d hj=>?_;rw[Q5]at hj ⊢;exact hm _ d (by omega) hj
 have h1:S.O5 cs vs=S.O5 (cs.take i) (vs.take i)*S.O4 (c::cs.drop (i+1))+(x*S.O4 (cs.drop (i+1))+S.O5 (cs.drop (i+1)) (vs.drop (i+1))):=by
  conv=>lhs;rw[e1,a,uT _ _ hlt,S.O5]
 have h2:S.O5 cs (vs.take i++(x+1)::List.replicate (vs.length - (i+1)) 0)=S.O5 (cs.take i) (vs.take i)*S.O4 (c::cs.drop (i+1))+((x+1)*S.O4 (cs.drop (i+1))+0):=by
  conv=>lhs;rw[e1,uT _ _ hlt,S.O5,zb]
 rw[h2,h1,k,Tv];omega
section
variable {k:Int}
def S.O2(n:Net):List Int:=n.nodes.map (·.card)
def S.O3(cs ps:List Int):List Int:=ps.map λp=>cs[p.toNat]?.getD 0
def S.O6(n:Net):List Nat:=n.nodes.map λx=>S.O9 x.parents
def S.Pg(gr card:Int)(r:List Int):Bool:=decide ((r.length:Int)=card)&&r.all (λx=>decide (0<=x)&&decide (x<=gr))&&decide (r.sum=gr)
def S.PD(k:Int)(x:Node):Bool:=decide (1<=x.card)&&decide (x.card<=4)&&S.Px x.parents k
def S.P5(n:Net)(x:Node):Bool:=decide ((x.rows.length:Int)=S.O4 (S.O3 (S.O2 n) x.parents))&&x.rows.all (S.Pg n.grain x.card)
def S.O_(n:Net):Bool:=decide (1<=n.grain)&&decide (n.grain<=60)&&decide (1<=n.nodes.length)&&decide (n.nodes.length<=8)&&n.nodes.all (S.PD n.nodes.length)&&decide (S.O4 (S.O2 n)<=1024)&&S.Py (S.O6 n)&&n.nodes.all (S.P5 n)
structure NR (n:Net):Prop where
 g1:1<=n.grain
 g2:n.grain<=60
 l1:1<=n.nodes.length
 l2:n.nodes.length<=8
 card:∀x∈n.nodes,1<=x.card/\x.card<=4
 places:∀x∈n.nodes,S.Px x.parents n.nodes.length=true
 worlds:S.O4 (S.O2 n)<=1024
 acyc:S.Py (S.O6 n)=true
 rows:∀x∈n.nodes,(x.rows.length:Int)=S.O4 (S.O3 (S.O2 n) x.parents)
 row:∀x∈n.nodes,∀r∈x.rows,(r.length:Int)=x.card/\(∀y∈r,0<=y/\y<=n.grain)/\r.sum=n.grain
theorem cp:S.O_ n=true↔NR n:=by
 simp only[S.O_,S.PD,S.P5,S.Pg,Qy,QQ,QS];constructor
 ·rintro⟨⟨⟨⟨⟨⟨⟨a,b⟩,c⟩,d⟩,e⟩,f⟩,g⟩,h⟩;exact⟨a,b,c,d,λx hx=>(e x hx).1,λx hx=>(e x hx).2,f,g,λx hx=>(h x hx).1,λx hx r hr=>⟨((h x hx).2 r hr).1.1,((h x hx).2 r hr).1.2,((h x hx).2 r hr).2⟩⟩
 ·rintro⟨a,b,c,d,e1,k,f,g,h1,h2⟩;exact⟨⟨⟨⟨⟨⟨⟨a,b⟩,c⟩,d⟩,λx hx=>⟨e1 x hx,k x hx⟩⟩,f⟩,g⟩,λx hx=>⟨h1 x hx,λr hr=>⟨⟨(h2 x hx r hr).1,(h2 x hx r hr).2.1⟩,(h2 x hx r hr).2.2⟩⟩⟩
theorem dH(h:S.Px l k=true):∀x∈l,0<=x/\x<k:=by
 intro x hx;obtain⟨i,hi,he⟩:=RU.1 hx;have:=QS.1 h i (QX.2 hi);have e:l[i]?.getD 0=x:=by rw[Qu hi,he];rfl
 simp only[S.PL,Qy,QQ,e]at this;omega
theorem ua(h:S.Px l k=true){x y:Int}(hx:l[i]?=some x)(hy:l[i+1]?=some y):x<y:=by have hi:=(Qt.1 hy).1;have:=QS.1 h (i+1) (QX.2 hi);simp only[S.PL,Qy,QQ,hy,QC,Nat.add_sub_cancel,hx]at this;simp at this;omega
theorem It(h:S.Px l k=true):∀{i j:Nat} {x y:Int},l[i]?=some x->l[j]?=some y->i<j->x<y:=by
 intro i j
 induction j with
 |zero=>intro x y _ _ h;omega
 | succ j ih =>
  intro x y hx a b;have c:=(Qt.1 a).1;have hz:l[j]?=some l[j]:=Qu (by omega);have h1:=ua h hz a
  by_cases e:i=j
  ·subst e;rw[hx]at hz;injection hz with hz;omega
  ·have:=ih hx hz (by omega);omega
theorem jd(h:S.Px l k=true)(hk:0<=k):(l.length:Int)<=k:=by
 have key:∀(i:Nat) (x:Int),l[i]?=some x->(i:Int)<=x:=by
  intro i
  induction i with
  |zero=>intro x hx;have:=dH h x (Qz hx);omega
  | succ i ih =>
   intro x hx;have hi:=(Qt.1 hx).1;have h1:=ih l[i] (Qu (by omega));have:=ua h (Qu (show i<l.length by omega)) hx;omega
 by_cases hl:l.length=0
 ·omega
 ·have h1:=key (l.length - 1) l[l.length - 1] (Qu (by omega));have h2:=dH h _ (RZ (show l.length - 1<l.length by omega));omega
theorem NR.cs(h:NR n):∀c∈S.O2 n,1<=c/\c<=4:=λc hc=>by obtain⟨x,hx,rfl⟩:=Ri.1 hc;exact h.card x hx
theorem aP(n:Net):(S.O2 n).length=n.nodes.length:=by simp[S.O2]
theorem bC{cs ps:List Int}(hc:∀c∈cs,1<=c/\c<=4)(hp:∀p∈ps,0<=p/\p<cs.length):∀c∈S.O3 cs ps,1<=c/\c<=4:=λc h=>by obtain⟨p,h1,rfl⟩:=Ri.1 h;have h2:=hp p h1;rw[Qu (by omega),QC];exact hc _ (RZ _)
theorem jc{cs ps:List Int}(h:InC cs vals)(hp:∀p∈ps,0<=p/\p<cs.length):InC (S.O3 cs ps) (S.O3 vals ps):=by refine B6 (by simp[S.O3]) λi c v h1 h2=>?_;simp only[S.O3,Qx,Option.map_eq_some_iff]at h1 h2;obtain⟨p,k,rfl⟩:=h1;obtain⟨p',h4,rfl⟩:=h2;rw[k]at h4;injection h4 with h4;subst h4;have h5:=hp p (Qz k);have a:cs[p.toNat]?=some cs[p.toNat]:=Qu (by omega);obtain⟨v,h7,h8⟩:=h.get a;rw[a,h7,QC,QC];exact h8
theorem dS(cs a b:List Int):S.O3 cs (a++b)=S.O3 cs a++S.O3 cs b:=by simp[S.O3]
def S.Pk(n:Net)(vals:List Int)(v:Nat):Int:=match n.nodes[v]? with
 |none=>1
 |some x=>(x.rows[(S.O5 (S.O3 (S.O2 n) x.parents) (S.O3 vals x.parents)).toNat]?.getD [])[(vals[v]?.getD 0).toNat]?.getD 0
def S.PA(n:Net)(vals:List Int):Int:=S.O4 ((List.range n.nodes.length).map (S.Pk n vals))
theorem NR.pin(h:NR n)(hx:x∈n.nodes):∀p∈x.parents,0<=p/\p<(S.O2 n).length:=λp hp=>by rw[aP];exact dH (h.places x hx) p hp
theorem yX(h:NR n)(hv:InC (S.O2 n) vals){v:Nat}(hx:n.nodes[v]?=some x) :
  ∃(i:Nat) (r:List Int) (c y:Int),S.O5 (S.O3 (S.O2 n) x.parents) (S.O3 vals x.parents)=(i:Int)/\i<x.rows.length/\x.rows[i]?=some r/\vals[v]?=some c/\0<=c/\c<x.card/\r[c.toNat]?=some y/\S.Pk n vals v=y/\0<=y/\y<=n.grain:=by
 have hm:=Qz hx;have hi:=d9 (bC h.cs (h.pin hm)) (jc hv (h.pin hm));rw[<-h.rows x hm]at hi;obtain⟨i,he⟩:=QD hi.1;have k:i<x.rows.length:=by omega
 have hc:(S.O2 n)[v]?=some x.card:=by simp[S.O2,hx]
 obtain⟨c,h1,h2,a⟩:=hv.get hc;obtain⟨d,b,-⟩:=h.row x hm x.rows[i] (RZ k);have hcl:c.toNat<(x.rows[i]).length:=by omega
 refine⟨i,x.rows[i],c,(x.rows[i])[c.toNat],he,k,Qu k,h1,h2,a,Qu hcl,?_,b _ (RZ hcl)⟩;simp only[S.Pk,hx,he,h1,Rb,Qu k,QC,Qu hcl]
theorem ve:∀{l:List Int},(∀x∈l,0<=x/\x<=60)->0<=S.O4 l/\S.O4 l<=60 ^ l.length
 |[],_=>by decide
 | x::l,h=>by have h1:=ve (l:=l) λy hy=>h y (by simp[hy]);have h2:=h x (by simp);rw[cF,Q9,Int.pow_succ,Int.mul_comm x];refine⟨Sy h1.1 h2.1,Int.le_trans (Sx h2.2 h1.1) (Int.mul_le_mul_of_nonneg_right h1.2 (by decide))⟩
theorem OG{k:Nat}(h:k<=8):(60:Int) ^ k<=167961600000000:=by
 have hk:k=0\/k=1\/k=2\/k=3\/k=4\/k=5\/k=6\/k=7\/k=8:=by omega
 rcases hk with rfl|rfl|rfl|rfl|rfl|rfl|rfl|rfl|rfl<;>decide
theorem H7(h:NR n)(hv:InC (S.O2 n) vals){v:Nat}(hi:v<n.nodes.length):0<=S.Pk n vals v/\S.Pk n vals v<=60:=by obtain⟨i,r,c,y,-,-,-,-,-,-,-,e,a,b⟩:=yX h hv (Qu hi);have:=h.g2;omega
theorem nN(h:NR n)(hv:InC (S.O2 n) vals){j:Nat}(hj:j<=n.nodes.length):0<=S.O4 ((List.range j).map (S.Pk n vals))/\S.O4 ((List.range j).map (S.Pk n vals))<=167961600000000:=by
 have h1:=ve (l:=(List.range j).map (S.Pk n vals)) λx hx=>by obtain⟨i,hi,rfl⟩:=Ri.1 hx;exact H7 h hv (by have:=QX.1 hi;omega)
 have h2:=OG (k:=((List.range j).map (S.Pk n vals)).length) (by have:=h.l2;simp;omega);omega
theorem uh(n:Net)(vals:List Int)(j:Nat):S.O4 ((List.range (j+1)).map (S.Pk n vals))=S.O4 ((List.range j).map (S.Pk n vals))*S.Pk n vals j:=by rw[Sd,SL,List.map_singleton,sG]
def S.Pe(n:Net)(p:Nat->Bool):Nat->Int
 |0=>0
 |j+1=>S.Pe n p j+if p j then S.PA n (S.O7 (S.O2 n) (j:Int)) else 0
theorem AH(h:NR n)(hv:InC (S.O2 n) vals):0<=S.PA n vals/\S.PA n vals<=167961600000000:=nN h hv (Qv _)
theorem pR{n:Net}(h:NR n)(p:Nat->Bool):∀j:Nat,0<=S.Pe n p j/\S.Pe n p j<=167961600000000*j
 |0=>by simp[S.Pe]
 | j+1=>by
  have ih:=pR h p j;have hw:=AH h (zY (λc hc=>(h.cs c hc).1) (j:Int));rw[S.Pe]
  split<;>omega
def S.Pn(n:Net):Nat:=(S.O4 (S.O2 n)).toNat
def S.Pi(n:Net)(e:List Int):Int:=S.Pe n (λw=>S.Pw (S.O7 (S.O2 n) (w:Int)) e) (S.Pn n)
theorem NR.wl(h:NR n):1<=S.Pn n/\S.Pn n<=1024/\((S.Pn n:Nat):Int)=S.O4 (S.O2 n):=by have h1:=kV λc hc=>(h.cs c hc).1;have h2:=h.worlds;unfold S.Pn;omega
theorem DW(h:NR n)(e:List Int):0<=S.Pi n e/\S.Pi n e<=171992678400000000:=by have h1:=pR h (λw=>S.Pw (S.O7 (S.O2 n) (w:Int)) e) (S.Pn n);have h2:=h.wl;unfold S.Pi;omega
def S.O8(n:Net)(e:List Int):Bool:=decide (e.length=n.nodes.length)&&(List.range e.length).all λv=>decide (-1<=e[v]?.getD 0)&&decide (e[v]?.getD 0<(S.O2 n)[v]?.getD 0)
def S.Pf(n:Net)(e:List Int):Int:=if S.O_ n then (if S.O8 n e then 0 else 2) else 50
end
section
variable {x:Nat}
section
variable {b card:Nat}
def S.Pb(b card i x:Nat):Nat:=(i / b*card+x)*b+i % b
def S.Pv(b card p:Nat):Nat:=p / (b*card)*b+p % b
def S.PN(b card p:Nat):Nat:=p / b % card
theorem Hb(hb:0<b)(hx:x<card):S.Pv b card (S.Pb b card i x)=i/\S.PN b card (S.Pb b card i x)=x:=by
 have hm:=R_ i hb;have h1:S.Pb b card i x / b=i / b*card+x:=by unfold S.Pb;rw[Sj,Sb _ _ hb,Su hm,Rc]
 have h2:S.Pb b card i x % b=i % b:=by unfold S.Pb;rw[Sj,Sk,Nat.mod_mod]
 have h:(i / b*card+x) / card=i / b:=by rw[Sj,Sb _ _ (by omega),Su hx,Rc]
 have h4:(i / b*card+x) % card=x:=by rw[Sj,Sk,RO hx]
 refine⟨?_,?_⟩
 ·unfold S.Pv;rw[<-Nat.div_div_eq_div_mul,h1,h2,h,Sw];exact Tp i b
 ·unfold S.PN;rw[h1,h4]
theorem N5(hb:0<b)(p:Nat):S.Pb b card (S.Pv b card p) (S.PN b card p)=p:=by
 have hm:=R_ p hb;have h1:S.Pv b card p / b=p / (b*card):=by unfold S.Pv;rw[Sj,Sb _ _ hb,Su hm,Rc]
 have h2:S.Pv b card p % b=p % b:=by unfold S.Pv;rw[Sj,Sk,Nat.mod_mod]
 unfold S.Pb S.PN;rw[h1,h2,<-Nat.div_div_eq_div_mul,Sw (p / b / card) card,Tp,Sw];exact Tp p b
theorem GG(hc:0<card)(p:Nat):S.PN b card p<card:=R_ _ hc
theorem L0{p:Nat}(hb:0<b)(hp:p<A*b*card):S.Pv b card p<A*b:=by have h1:p / (b*card)<A:=Nat.div_lt_of_lt_mul (by rw[Sw (b*card),<-SP];exact hp);have hm:=R_ p hb;unfold S.Pv;have:(p / (b*card)+1)*b<=A*b:=QK _ h1;rw[QR,RB]at this;omega
theorem B4(hb:0<b)(hi:i<A*b)(hx:x<card):S.Pb b card i x<A*b*card:=by have h1:i / b<A:=Nat.div_lt_of_lt_mul (by rw[Sw];exact hi);have hm:=R_ i hb;unfold S.Pb;have h2:(i / b+1)*card<=A*card:=QK _ h1;rw[QR,RB]at h2;have h:(i / b*card+x+1)*b<=A*card*b:=QK _ (by omega);rw[QR (i / b*card+x),RB,SP A,Sw card b,<-SP]at h;omega
def S.Pp(rows:List (List Int))(b card t:Nat):List Int:=(List.range (rows.length*card)).map λp=>if S.Pv b card p*card+S.PN b card p<t then (rows[S.Pv b card p]?.getD [])[S.PN b card p]?.getD 0 else 0
def S.P9(rows:List (List Int))(b card:Nat):List Int:=(List.range (rows.length*card)).map λp=>(rows[S.Pv b card p]?.getD [])[S.PN b card p]?.getD 0
theorem Di(rows:List (List Int))(b card t:Nat):(S.Pp rows b card t).length=rows.length*card:=by simp[S.Pp]
theorem H9(rows:List (List Int))(b card:Nat):S.Pp rows b card 0=List.replicate (rows.length*card) 0:=by refine S4 (by simp[S.Pp]) λi h1 h2=>?_;simp[S.Pp]
theorem H8{rows:List (List Int)}{r:List Int}{w:Int}(hb:0<b)(hA:rows.length=A*b)(hr:rows[i]?=some r)(hx:x<card)(hw:r[x]?=some w) :
  (S.Pp rows b card (i*card+x)).set (S.Pb b card i x) w=S.Pp rows b card (i*card+x+1):=by
 have hi:=(Qt.1 hr).1;refine S4 (by simp[S.Pp]) λp h1 h2=>?_;have hp:p<rows.length*card:=by simpa [S.Pp] using h2
 obtain⟨q1,q2⟩:=Hb hb (i:=i) hx;rw[List.getElem_set]
 by_cases e:S.Pb b card i x=p
 ·subst e;rw[QA rfl];simp only[S.Pp,List.getElem_map,List.getElem_range,q1,q2];rw[QA (by omega),hr,QC,hw,QC]
 ·rw[Qw e];simp only[S.Pp,List.getElem_map,List.getElem_range];have hf:=GG (b:=b) (card:=card) (by omega) p;have a:S.Pv b card p*card+S.PN b card p≠i*card+x:=λh=>e (by
   have e1:S.Pv b card p=i:=by
    have h1:(S.Pv b card p*card+S.PN b card p) / card=S.Pv b card p:=by rw[Sj,Sb _ _ (by omega),Su hf,Rc]
    have h2:(i*card+x) / card=i:=by rw[Sj,Sb _ _ (by omega),Su hx,Rc]
    rw[<-h1,h,h2]
   have k:S.PN b card p=x:=by rw[e1]at h;omega
   rw[<-N5 hb p (card:=card),e1,k])
  by_cases h:S.Pv b card p*card+S.PN b card p<i*card+x
  ·rw[QA h,QA (by omega)]
  ·rw[Qw h,Qw (by omega)]
theorem JA{rows:List (List Int)}(hb:0<b)(hA:rows.length=A*b):S.Pp rows b card (rows.length*card)=S.P9 rows b card:=by
 unfold S.Pp S.P9;refine R0 λp hp=>?_;have hp:=QX.1 hp;have hc:0<card:=Nat.pos_of_ne_zero λe=>by subst e;simp at hp
 have h1:=L0 (A:=A) hb (by rw[<-hA];exact hp);have h2:=GG (b:=b) hc p;rw[QA];rw[<-hA]at h1;have:(S.Pv b card p+1)*card<=rows.length*card:=QK _ h1;rw[QR,RB]at this;omega
theorem LR{rows:List (List Int)}(hb:0<b)(hA:rows.length=A*b)(hi:i<rows.length)(hx:x<card):(S.P9 rows b card)[S.Pb b card i x]?=some ((rows[i]?.getD [])[x]?.getD 0):=by obtain⟨q1,q2⟩:=Hb hb (i:=i) hx;have hp:=B4 (A:=A) (i:=i) hb (by rw[<-hA];exact hi) hx;simp only[S.P9,Qx];rw[S3 (by rw[hA];exact hp)];simp only[Rz,q1,q2]
end
def S.Pa(ps:List Int)(k:Nat)(v:Int):List Int:=ps.take k++v::ps.drop k
theorem NL(h:NR n)(hv:InC (S.O2 n) vals){v:Nat}{x:Node}(hx:n.nodes[v]?=some x)(k:Nat) :
  ∃p:Nat,S.O5 (S.O3 (S.O2 n) (S.Pa x.parents k (v:Int))) (S.O3 vals (S.Pa x.parents k (v:Int)))=(p:Int)/\p<x.rows.length*x.card.toNat /\
   (S.P9 x.rows (S.O4 (S.O3 (S.O2 n) (x.parents.drop k))).toNat x.card.toNat)[p]?=some (S.Pk n vals v):=by
 have hm:=Qz hx;obtain⟨i,r,c,y,e1,u,w,z,D,E,e7,F,-,-⟩:=yX h hv hx;have b:=h.pin hm;have G:=bC h.cs b;have H:=jc hv b;have j:(S.O2 n)[v]?=some x.card:=by simp[S.O2,hx]
 have ps:x.parents=x.parents.take k++x.parents.drop k:=(Ry k _).symm;have e:∀c∈S.O3 (S.O2 n) (x.parents.drop k),1<=c/\c<=4:=bC h.cs λp hp=>b p (Rd hp);have l:InC (S.O3 (S.O2 n) (x.parents.drop k)) (S.O3 vals (x.parents.drop k)):=jc hv λp hp=>b p (Rd hp);have s:∀c∈S.O3 (S.O2 n) (x.parents.take k),1<=c/\c<=4:=bC h.cs λp hp=>b p (Rs hp);have t:InC (S.O3 (S.O2 n) (x.parents.take k)) (S.O3 vals (x.parents.take k)):=jc hv λp hp=>b p (Rs hp);obtain⟨b1,b2⟩:=d9 e l;obtain⟨a1,a2⟩:=d9 s t;have hlt:(S.O3 (S.O2 n) (x.parents.take k)).length=(S.O3 vals (x.parents.take k)).length:=by simp[S.O3]
 have ei:S.O5 (S.O3 (S.O2 n) x.parents) (S.O3 vals x.parents)=S.O5 (S.O3 (S.O2 n) (x.parents.take k)) (S.O3 vals (x.parents.take k))*S.O4 (S.O3 (S.O2 n) (x.parents.drop k))+S.O5 (S.O3 (S.O2 n) (x.parents.drop k)) (S.O3 vals (x.parents.drop k)):=by
  conv=>lhs;rw[ps,dS,dS,uT _ _ hlt]
 have er:(x.rows.length:Int)=S.O4 (S.O3 (S.O2 n) (x.parents.take k))*S.O4 (S.O3 (S.O2 n) (x.parents.drop k)):=by
  rw[h.rows x hm]
  conv=>lhs;rw[ps,dS,oV]
 have ef:S.O5 (S.O3 (S.O2 n) (S.Pa x.parents k (v:Int))) (S.O3 vals (S.Pa x.parents k (v:Int))) =
   S.O5 (S.O3 (S.O2 n) (x.parents.take k)) (S.O3 vals (x.parents.take k))*(x.card*S.O4 (S.O3 (S.O2 n) (x.parents.drop k)))+(c*S.O4 (S.O3 (S.O2 n) (x.parents.drop k))+S.O5 (S.O3 (S.O2 n) (x.parents.drop k)) (S.O3 vals (x.parents.drop k))):=by
  rw[S.Pa,dS,dS,uT _ _ hlt];have:S.O3 (S.O2 n) ((v:Int)::x.parents.drop k)=x.card::S.O3 (S.O2 n) (x.parents.drop k):=by simp[S.O3,j]
  have h2:S.O3 vals ((v:Int)::x.parents.drop k)=c::S.O3 vals (x.parents.drop k):=by simp[S.O3,z]
  rw[this,h2,cF,S.O5]
 have I:=kV λc hc=>(e c hc).1;generalize S.O4 (S.O3 (S.O2 n) (x.parents.drop k))=B at *;generalize S.O4 (S.O3 (S.O2 n) (x.parents.take k))=A at *;generalize S.O5 (S.O3 (S.O2 n) (x.parents.drop k)) (S.O3 vals (x.parents.drop k))=q at *;generalize S.O5 (S.O3 (S.O2 n) (x.parents.take k)) (S.O3 vals (x.parents.take k))=a at *;obtain⟨B,rfl⟩:=QD (show 0<=B by omega);obtain⟨A,rfl⟩:=QD (show 0<=A by omega);obtain⟨q,rfl⟩:=QD b1;obtain⟨a,rfl⟩:=QD a1;obtain⟨c,rfl⟩:=QD D;obtain⟨C,hC⟩:=QD (show 0<=x.card by omega);rw[hC]at ef E ⊢;have f:0<B:=by omega
 have hq:q<B:=by omega
 have hc:c<C:=by omega
 rw[e1]at ei;have hi:i=a*B+q:=by
  have:(i:Int)=((a*B+q:Nat):Int):=by rw[ei,Tn,Rq]
  omega
 have m:i / B=a:=by rw[hi,Sj,Sb _ _ f,Su hq,Rc]
 have o:i % B=q:=by rw[hi,Sj,Sk,RO hq]
 have d:x.rows.length=A*B:=by
  have:((x.rows.length:Nat):Int)=((A*B:Nat):Int):=by rw[er,Rq]
  omega
 refine⟨S.Pb B C i c,?_,?_,?_⟩
 ·rw[ef,S.Pb,m,o,QR,Tn,Tn,Rq,Rq,Rq,Tm];omega
 ·rw[Rb,d];exact B4 f (by rw[<-d];exact u) hc
 ·rw[Rb,Rb,LR f d u hc,w,QC];rw[Rb]at e7;rw[e7,F];rfl
end
abbrev BC:Type:=UInt8×UInt8×List UInt8
abbrev vD:Type:=UInt8×List BC×List UInt8
abbrev k_:Type:=UInt8×UInt8×UInt8×Int
theorem Bp{x:BC}{cs:List AV}:Rp.rp P k h x cs↔∃a,cs=[u8v x.1,u8v x.2.1,a]/\SlR P k h x.2.2 a:=by
 constructor
 ·rintro⟨c1,b,rfl,h1,c,d,rfl,h2,⟨a,rfl,h4⟩⟩;rw[dL.1 h1,dL.1 h2];exact⟨a,rfl,h4⟩
 ·rintro⟨a,rfl,h4⟩;exact⟨[_],[_,a],rfl,dL.2 rfl,[_],[a],rfl,dL.2 rfl,⟨a,rfl,h4⟩⟩
theorem Bo{x:vD}{cs:List AV}:Rp.rp P k h x cs↔∃a b,cs=[u8v x.1,a,b]/\SlR P k h x.2.1 a/\SlR P k h x.2.2 b:=by
 constructor
 ·rintro⟨c1,c,rfl,h1,d,e,rfl,⟨a,rfl,ha⟩,⟨b,rfl,hb⟩⟩;rw[dL.1 h1];exact⟨a,b,rfl,ha,hb⟩
 ·rintro⟨a,b,rfl,ha,hb⟩;exact⟨[_],[a,b],rfl,dL.2 rfl,[a],[b],rfl,⟨a,rfl,ha⟩,⟨b,rfl,hb⟩⟩
theorem Et{x:k_}{cs:List AV}:Rp.rp P k h x cs↔cs=[u8v x.1,u8v x.2.1,u8v x.2.2.1,Uk x.2.2.2]:=by
 constructor
 ·rintro⟨c1,b,rfl,h1,c,d,rfl,h2,e,f,rfl,a,h4⟩;rw[dL.1 h1,dL.1 h2,dL.1 a,aI.1 h4];rfl
 ·rintro rfl;exact⟨[_],[_,_,_],rfl,dL.2 rfl,[_],[_,_],rfl,dL.2 rfl,[_],[_],rfl,dL.2 rfl,aI.2 rfl⟩
theorem KG[XOc]{p:List Int}(hd:0<d)(hv:SlR P k g.h l v)(hw:SlR P2 k2 g.h p w)(hp:p.length<1073741824)(hin:∀x∈p,0<=x/\x<l.length) :
  ∃r,aq C0 d 72 [v,w] g=.val r/\IT 0 (S.O3 l p) r:=by
 obtain⟨v',e1,y⟩:=bE hv d;obtain⟨w',o,i⟩:=bE hw d;rw[Ag];refine bj De (xs:=[v',w']) (by simp only[aF,e1,o]) (by simp[tQ]) (aU _) (by decide) hd ?_;simp only[sz,simprocAttr,tQ];have n2:=λg=>(i .nil).len g;have ra:∀h',af h' 1 v'=some (l.map ci):=λh'=>(y h').ints;have rb:∀h',af h' 1 w'=some (p.map ci):=λh'=>(i h').ints;refine sP (v:=w') (m:=p.length) (by omega) n2 (λj t df g=>df=[]/\St t [(0,v')]/\∃u,tat t 5=u/\Own g 0 u 1 ((S.O3 l (p.take j)).map ci)) ⟨rfl,by simp[St,sx],_,rfl,.inl ⟨by simp[sx],by simp[S.O3]⟩⟩ (by simp[sx]) (by simp[sx]) (by decide)
  (by rintro j t df g v s (rfl|rfl|rfl|rfl|rfl|rfl|rfl)<;>simp[sx,St]) ?_ ?_
 ·rintro j t df g1 f ⟨rfl,⟨h0,-⟩,u,h5,hu⟩ e h1;obtain⟨x,hx,b,hm⟩:=ae f;obtain⟨c,q⟩:=hin x hm;obtain⟨n,rfl⟩:=QD c;have a:n<l.length:=by omega
  simp only[sz,simprocAttr,ra,rb,h0,h1,h5,e,hx,f,a,QJ,Qx,Rz,ci,Qu a];refine bD (new:=[ci l[n]]) (hu.step (Fr.new _ _)) (by simp[sx,sy,ci]) (by simp) (by simp[aQ,S.O3];omega) λv2 g2 hv2 n2 f2 _ l2=>?_;simp only[sz,simprocAttr,h0,h1,e,St];refine⟨_,rfl,?_⟩;rw[b];simpa [a,ci,S.O3] using hv2
 ·rintro t df g1 ⟨rfl,⟨h0,-⟩,u,h5,hu⟩ -;rw[Q4]at hu;simp only[sz,simprocAttr,th,h5];exact⟨_,hu.ints (by simp[S.O3];omega)⟩
theorem wm[XOc](hd:0<d)(hm:Agg n P k g.h v)(hn:n.nodes.length<1073741824) :
  ∃r,aq C0 d 73 [v] g=.val r/\IT 0 (S.O2 n) r:=by
 obtain⟨v',e,cs,rfl,hc⟩:=jK (c_ n) (by decide) d hm;obtain⟨b,rfl,hN⟩:=dT.1 hc;obtain⟨rows,l,w,p,q⟩:=hN.all;have l:∀h',af h' 3 b=some rows:=l;rw[vN];refine bj yT (xs:=[.agg [Uk n.grain,b]]) (by simp only[aF,e]) (by simp[np]) (aU _) (by decide) hd ?_;simp only[sz,simprocAttr,np,qe,oe];refine be n.nodes.length (by omega) (λj t df g=>df=[]/\tat t 1=Ul 0/\g.h.get 0=TD 2 [[Uk n.grain,b]]/\1<=g.nx/\∃u,tat t 3=u/\Own g 1 u 1 (((n.nodes.take j).map (·.card)).map ci))
  ⟨rfl,by simp[sx],by simp[sx],by simp[sx],_,rfl,.inl ⟨by simp[sx],rfl⟩⟩ (by simp[sx]) (by decide)
  (by rintro j t df g v s (rfl|rfl|rfl)<;>simp[sx]) ?_ ?_ ?_
 ·rintro j t df g m ⟨rfl,h1,hg,a,u,c,hu⟩ h4;simp only[sz,simprocAttr,h1,h4,hg,hN.len];exact⟨a,u,c,hu⟩
 ·rintro j t df g m ⟨rfl,h1,hg,a,u,c,hu⟩ h4;obtain⟨x,hx,i,hm⟩:=ae m;obtain⟨row,q1,q2⟩:=p j x hx;obtain⟨a',b',rfl,o,-⟩:=bV.1 q2;have hlt:j<rows.length:=by omega
  have f:=q (by omega);simp only[sz,simprocAttr,h1,c,h4,hg,l,hlt,q1,f];refine bD (new:=[ci x.card]) (hu.step (Fr.new _ _)) (by simp[sx,sy,ci]) (by simp) (by simp[aQ];omega) λv2 g2 hv2 n2 f2 _ l2=>?_;simp only[sz,simprocAttr,h1,h4];refine⟨?_,?_,_,rfl,?_⟩
  ·rw[f2 0 (by simp) (λe=>by have:=(hu.lt e).1;omega),G.new_h,aE _ _ _ (by omega),hg]
  ·simp at n2;omega
  ·rw[i];simpa [ci] using hv2
 ·rintro t df g ⟨rfl,h1,hg,a,u,c,hu⟩;rw[Q4]at hu;simp only[sz,simprocAttr,oh,c];exact⟨_,hu.ints (by simp;omega)⟩
theorem KF[XOc](hd:0<d)(hm:Agg n P k g.h v)(hn:n.nodes.length<1073741824)(hp:∀x∈n.nodes,∀y∈x.parents,0<=y/\y<18446744073709551616) :
  ∃r,aq C0 d 125 [v] g=.val r/\UT 0 (S.O6 n) r:=by
 obtain⟨v',e,cs,rfl,hc⟩:=jK (c_ n) (by decide) d hm;obtain⟨b,rfl,hN⟩:=dT.1 hc;obtain⟨rows,p,F,D,E⟩:=hN.all;have p:∀h',af h' 3 b=some rows:=p;rw[qt];refine bj sW (xs:=[.agg [Uk n.grain,b]]) (by simp only[aF,e]) (by simp[gx]) (aU _) (by decide) hd ?_;simp only[sz,simprocAttr,gx,jB];refine be n.nodes.length (by omega) (λj t df g=>df=[]/\tat t 1=Ul 0/\g.h.get 0=TD 2 [[Uk n.grain,b]]/\1<=g.nx/\∃u,tat t 3=u/\Own g 1 u 1 (((n.nodes.take j).map λx=>S.O9 x.parents).map cu))
  ⟨rfl,by simp[sx],by simp[sx],by simp[sx],_,rfl,.inl ⟨by simp[sx],rfl⟩⟩ (by simp[sx]) (by decide)
  (by rintro j t df g v s (rfl|rfl|rfl)<;>simp[sx]) ?_ ?_ ?_
 ·rintro j t df g B ⟨rfl,h1,hg,f,u,a,hu⟩ h4;simp only[sz,simprocAttr,h1,h4,hg,hN.len];exact⟨f,u,a,hu⟩
 ·rintro j t df g B ⟨rfl,h1,hg,f,u,a,hu⟩ h4;obtain⟨x,hx,z,hm⟩:=ae B;obtain⟨row,q1,q2⟩:=D j x hx;obtain⟨a',b',rfl,c,-⟩:=bV.1 q2;have hlt:j<rows.length:=by omega
  have l:=E (by omega);simp only[sz,simprocAttr];refine be x.parents.length c.1 (λi t df g'=>df=[]/\St t [(1,Ul 0),(4,Uk j),(3,u),(5,Um (S.O9 (x.parents.take i):Int))]/\g'=g)
   ⟨rfl,by simp[sx,St,S.O9,h1,a,h4],rfl⟩ (by simp[sx]) (by decide)
   (by rintro j t df g v s (rfl|rfl|rfl)<;>simp[sx,St]) ?_ ?_ ?_
  ·rintro i t df g' hi ⟨rfl,⟨h1,h4,a,h5,-⟩,rfl⟩ q;simp only[sz,simprocAttr,h1,a,h4,h5,q,hg,p,hlt,q1,l,c.len,St]
  ·rintro i t df g' hi ⟨rfl,⟨h1,h4,a,h5,-⟩,rfl⟩ q;obtain⟨y,C,m,w⟩:=ae hi;obtain⟨o,A⟩:=hp x hm y w;obtain⟨n,rfl⟩:=QD o;simp only[sz,simprocAttr,h1,a,h4,h5,q,hg,p,hlt,q1,l,(c.tree (h':=g'.h) (Qv _)).ints,hi,C,QJ,Qx,Rz,ci,jp o A,eK,vH _ _ (sC _) (mX _),St];rw[m,Bg];rfl
  ·rintro t df g' ⟨rfl,⟨h1,h4,a,h5,-⟩,rfl⟩;rw[Q4]at h5;simp only[sz,simprocAttr,iQ,a,h5];refine bD (new:=[cu (S.O9 x.parents)]) (hu.step (Fr.new _ _)) (by simp[sx,sy,cu]) (by simp) (by simp[aQ];omega) λv2 g2 hv2 n2 f2 _ l2=>?_;simp only[sz,simprocAttr,h1,h4];refine⟨?_,?_,_,rfl,?_⟩
   ·rw[f2 0 (by simp) (λe=>by have:=(hu.lt e).1;omega),G.new_h,aE _ _ _ (by omega),hg]
   ·simp at n2;omega
   ·rw[z];simpa [cu] using hv2
 ·rintro t df g ⟨rfl,h1,hg,f,u,a,hu⟩;rw[Q4]at hu;simp only[sz,simprocAttr,iS,a];exact⟨_,hu.nats (by simp;omega) (by simp only[Ri];rintro x ⟨y,-,rfl⟩;exact sC _)⟩
theorem wk[XOc](hd:0<d)(hm:Agg n P k g.h v)(hn:n.nodes.length<1073741824)(hx:n.nodes[i]?=some x)(hl:x.parents.length<1073741824)(hin:∀p∈x.parents,0<=p/\p<n.nodes.length) :
  ∃r,aq C0 d 31 [v,Uk (i:Int)] g=.val r/\IT 0 (S.O3 (S.O2 n) x.parents) r:=by
 obtain⟨v',e,cs,rfl,hc⟩:=jK (c_ n) (by decide) d hm;have f:=hc;obtain⟨b,rfl,hN⟩:=dT.1 hc;have j:∀h,Agg n NoP (max k d) h (.agg [Uk n.grain,b]):=λh=>⟨_,rfl,Rp.tree f (Qv _)⟩;obtain⟨rows,o,u,s,t⟩:=hN.all;have o:∀h',af h' 3 b=some rows:=o;obtain⟨row,q1,q2⟩:=s i x hx;obtain⟨a',b',rfl,a,-⟩:=bV.1 q2;have q:=(Qt.1 hx).1;have hlt:i<rows.length:=by omega
 have m:=t (by omega);rw[pc];refine bj qQ (xs:=[.agg [Uk n.grain,b],Uk (i:Int)]) (by simp only[aF,e,bJ 0]) (by simp[fN]) (aU _) (by decide) hd ?_;simp only[sz,simprocAttr,fN,iP];refine bF (wm (QM d) (j _) hn) λrc hrc=>?_;have c:=λg=>KG (d:=d+1) (g:=g) (P:=NoP) (P2:=NoP) (k:=0) (k2:=max k d) (l:=S.O2 n) (p:=x.parents) (QM d) (hrc.sl g.h) (a.tree (h':=g.h) (Qv _)) hl (λp hp=>by rw[aP];exact hin p hp);simp only[sz,simprocAttr,o,hlt,q1,m];refine bF (c _) λr hr=>?_;simp only[sz,simprocAttr];obtain⟨w,hw,hs⟩:=hr;exact⟨_,w,hw,hs.tree (Qv _)⟩
theorem zL[XOc](hd:0<d)(hv:SlR P k g.h l v):aq C0 d 30 [v] g=.val (Uk (S.PX l)):=by have b:=GJ hv.ints;have:=MJ hd (Ik hv.ints) (by rw[b];exact hv.1);rwa [b]at this
theorem FQ[XOc](hd:0<d)(hm:Agg n P k g.h v)(hr:NR n):aq C0 d 93 [v] g=.val (Uk (S.Pn n:Int)):=by have hl2:=hr.l2;obtain⟨v',e,cs,rfl,hc⟩:=jK (c_ n) (by decide) d hm;have a:∀h,Agg n NoP (max k d) h (.agg cs):=λh=>⟨_,rfl,Rp.tree hc (Qv _)⟩;obtain⟨b,rfl,hN⟩:=dT.1 hc;rw[uB];refine eF xn (xs:=[.agg [Uk n.grain,b]]) (by simp only[aF,e]) (by simp[lQ]) hd ?_;simp only[sz,simprocAttr,lQ,oD];refine bF (wm (QM d) (a _) (by omega)) λrc hrc=>?_;have hs:=λg=>zL (d:=d+1) (g:=g) (P:=NoP) (k:=0) (QM d) (hrc.sl g.h);rw[wo hr.cs (by rw[aP];omega),<-hr.wl.2.2]at hs;simp only[sz,simprocAttr,hs]
theorem zN[XOc]{w:Nat}(hd:0<d)(hm:Agg n P k g.h v)(hr:NR n)(hw:w<9223372036854775808):∃r,aq C0 d 95 [v,Uk (w:Int)] g=.val r/\IT 0 (S.O7 (S.O2 n) (w:Int)) r:=by have hl2:=hr.l2;obtain⟨v',e,cs,rfl,hc⟩:=jK (c_ n) (by decide) d hm;have a:∀h,Agg n NoP (max k d) h (.agg cs):=λh=>⟨_,rfl,Rp.tree hc (Qv _)⟩;obtain⟨b,rfl,hN⟩:=dT.1 hc;rw[uz];refine bj xk (xs:=[.agg [Uk n.grain,b],Uk (w:Int)]) (by simp only[aF,e,bJ 0]) (by simp[lO]) (aU _) (by decide) hd ?_;simp only[sz,simprocAttr,lO,oB];refine bF (wm (QM d) (a _) (by omega)) λrc hrc=>?_;simp only[sz,simprocAttr];refine bF (IV (d:=d+1) (P:=NoP) (k:=0) (l:=S.O2 n) (h:=(w:Int)) (QM d) (hrc.sl _) (by rw[aP];omega) (λc hc=>by have:=hr.cs c hc;omega) ⟨SU w,by omega⟩) λr hr2=>?_;simp only[sz,simprocAttr];obtain⟨w,hw,hs⟩:=hr2;exact⟨_,w,hw,hs.tree (Qv _)⟩
theorem cy(d:Nat)(hm:Agg n NoP 0 g.h v):∃b rows,v=.agg [Uk n.grain,b]/\Hx.snap g.h d aD v=some v/\(∀h,Agg n NoP 0 h v)/\SlR NoP 0 .nil n.nodes b/\(∀h,af h 3 b=some rows)/\rows.length=n.nodes.length /\
  (∀(i:Nat) (x:Node),n.nodes[i]?=some x->∃pa ra,rows[i]?=some [Uk x.card,pa,ra]/\i<rows.length/\SlR NoP 0 .nil x.parents pa/\SlR NoP 0 .nil x.rows ra)/\(0<n.nodes.length->md b=true):=by
 have e:=g8 d hm;obtain⟨cs,rfl,hc⟩:=hm;have c:=hc;obtain⟨b,rfl,hN⟩:=dT.1 hc;have hN:=hN.tree (h':=.nil) (Qv _);obtain⟨rows,j,f,l,m⟩:=hN.all;refine⟨b,rows,rfl,e,λh=>⟨_,rfl,Rp.tree c (Qv _)⟩,hN,j,f,λi x hx=>?_,m⟩;obtain⟨row,q1,q2⟩:=l i x hx;obtain⟨a',b',rfl,k,a⟩:=bV.1 q2;exact⟨a',b',q1,by rw[f];exact (Qt.1 hx).1,k,a⟩
theorem xT{l:List (List Int)}{b:AV}(hb:SlR NoP k .nil l b):∃rows:List (List AV),(∀h,af h 1 b=some rows)/\rows.length=l.length/\(∀(i:Nat) (r:List Int),l[i]?=some r->∃z,rows[i]?=some [z]/\i<rows.length/\SlR NoP k .nil r z)/\(0<l.length->md b=true):=by obtain⟨rows,c,a,d,e⟩:=hb.all;refine⟨rows,c,a,λi r hr=>?_,e⟩;obtain⟨row,q1,q2⟩:=d i r hr;obtain⟨z,rfl,hz⟩:=gm.1 q2;exact⟨z,q1,by rw[a];exact (Qt.1 hr).1,hz⟩
theorem Mz[XOc]{j:Nat}{r:List Int}(hd:0<d)(hm:Agg n NoP 0 g.h v)(hr:NR n)(hx:n.nodes[i]?=some x)(hw:SlR P2 k2 g.h vals w)(hv:InC (S.O2 n) vals)
  (hj:S.O5 (S.O3 (S.O2 n) x.parents) (S.O3 vals x.parents)=(j:Int)) (hrr:x.rows[j]?=some r):∃z,aq C0 d 127 [v,Uk (i:Int),w] g=.val z/\IT 0 r z:=by
 obtain⟨w',B,u⟩:=bE hw d;obtain⟨b,rows,rfl,e,q,hN,A,K,E,F⟩:=cy d hm;have o:=Qz hx;obtain⟨pa,ra,q1,hlt,s,t⟩:=E i x hx;obtain⟨rr,H,L,I,J⟩:=xT t;obtain⟨z,q2,f,hz⟩:=I j r hrr;have hl2:=hr.l2;have D:=jd (hr.places x o) (by omega);have a:=hr.pin o;have C:=(Qt.1 hx).1;have m:=F (by omega);have y:=J (by omega);rw[yA];refine bj B0 (xs:=[.agg [Uk n.grain,b],Uk (i:Int),w']) (by simp only[aF,e,B,bJ 0]) (by simp[q8]) (aU _) (by decide) hd ?_;simp only[sz,simprocAttr,q8,tj,A,hlt,q1,m];refine bF (wk (QM d) (q _) (by omega) hx (by omega) (λp hp=>by have:=a p hp;rw[aP]at this;exact this)) λrc hrc=>?_;simp only[sz,simprocAttr,A,hlt,q1,m];refine bF (KG (d:=d+1) (P:=NoP) (P2:=NoP) (k:=max k2 d) (k2:=0) (l:=vals) (p:=x.parents) (QM d) (u _) (s.tree (Qv _)) (by omega) (λp hp=>by have:=a p hp;rw[<-hv.len]at this;exact this)) λrv hrv=>?_;have c:=λg=>J4 (d:=d+1) (g:=g) (P:=NoP) (P2:=NoP) (k:=0) (k2:=0) (cards:=S.O3 (S.O2 n) x.parents) (vals:=S.O3 vals x.parents) (QM d) (hrc.sl g.h) (hrv.sl g.h) (by simp[S.O3];omega) (bC hr.cs a) (jc hv a);rw[hj]at c;simp only[sz,simprocAttr,c,H,q2,f];exact⟨_,z,rfl,hz.tree (Qv _)⟩
theorem FP[XOc]{w:Nat}(hd:0<d)(hm:Agg n NoP 0 g.h v)(hr:NR n)(hw:w<9223372036854775808):aq C0 d 96 [v,Uk (w:Int)] g=.val (Uk (S.PA n (S.O7 (S.O2 n) (w:Int)))):=by
 obtain⟨b,rows,rfl,e,f,hN,H,I,J,K⟩:=cy d hm;have m:=zY (λc hc=>(hr.cs c hc).1) (w:Int);have o:=zZ (S.O2 n) (w:Int);rw[aP]at o;have hl2:=hr.l2;rw[uA];refine eF xl (xs:=[.agg [Uk n.grain,b],Uk (w:Int)]) (by simp only[aF,e,bJ 0]) (by simp[lP]) hd ?_;simp only[sz,simprocAttr,lP,oC];refine bF (zN (d:=d+1) (P:=NoP) (k:=0) (w:=w) (QM d) (f _) hr hw) λrv hrv=>?_;simp only[sz,simprocAttr,mD];generalize S.O7 (S.O2 n) (w:Int)=vals at *;refine be n.nodes.length (by omega) (λj t df g=>df=[]/\St t [(2,Ul 0),(5,rv),(6,Uk (S.O4 ((List.range j).map (S.Pk n vals))))]/\g.h.get 0=TD 2 [[Uk n.grain,b]])
  ⟨rfl,by simp[St,sx,S.O4],by simp[sx]⟩ (by simp[sx]) (by decide) (by rintro j t df g v s (rfl|rfl|rfl)<;>simp[St,sx]) ?_ ?_ ?_
 ·rintro j t df g q ⟨rfl,⟨h2,h5,a,-⟩,hg⟩ h7;simp only[sz,simprocAttr,h2,h5,a,h7,hg,hN.len,St]
 ·rintro j t df g q ⟨rfl,⟨h2,h5,a,-⟩,hg⟩ h7;obtain⟨x,hx,-,-⟩:=ae q;obtain⟨i,r,c,y,f1,f2,u,A,B,F,l,p,-,-⟩:=yX hr m hx;obtain⟨c,rfl⟩:=QD B;rw[Rb]at l;have ri:=λh=>hrv.rows h;have C:j<(vals.map ci).length:=by rw[QJ];omega
  have D:(vals.map ci)[j]?=some (ci (c:Int)):=by rw[Qx,A];rfl
  have wb:=nN hr m (j:=j+1) (by omega);rw[uh,p]at wb;have w1:IntKind.wrap .i64 (S.O4 ((List.range j).map (S.Pk n vals))*y)=S.O4 ((List.range (j+1)).map (S.Pk n vals)):=by rw[uh,p,aA (by omega) (by omega)]
  simp only[sz,simprocAttr,h2,h5,a,h7,hg];refine bF (Mz (d:=d+1) (P2:=NoP) (k2:=0) (i:=j) (QM d) (f _) hr hx (hrv.sl _) m f1 u) λz hz=>?_;have rz:=λh=>hz.rows h;have u3:c<(r.map ci).length:=by rw[QJ];exact (Qt.1 l).1
  have E:(r.map ci)[c]?=some (ci y):=by rw[Qx,l];rfl
  simp only[sz,simprocAttr,h2,h5,h7,hg,ri,rz,C,D,u3,E,ci,St,w1]
 ·rintro t df g ⟨rfl,⟨h2,h5,a,-⟩,hg⟩;simp only[sz,simprocAttr,mE,a]
  rfl
theorem rO[XOc]{e:List Int}(hd:0<d)(hm:Agg n NoP 0 g.h v)(hr:NR n)(he:SlR P2 k2 g.h e w)(hel:e.length=n.nodes.length):aq C0 d 61 [v,w] g=.val (Uk (S.Pi n e)):=by
 obtain⟨w',m,i⟩:=bE he d;obtain⟨b,rows,rfl,e1,c,hN,p,q,r,u⟩:=cy d hm;have hl2:=hr.l2;obtain⟨wl1,wl2,wl3⟩:=hr.wl;rw[wZ];refine eF Aq (xs:=[.agg [Uk n.grain,b],w']) (by simp only[aF,e1,m]) (by simp[py]) hd ?_;simp only[sz,simprocAttr,py,q7,qf,qg];refine be (S.Pn n) (by omega) (λj t df g=>df=[]/\St t [(1,w'),(2,Ul 0),(5,Uk (S.Pe n (λw=>S.Pw (S.O7 (S.O2 n) (w:Int)) e) j))]/\g.h.get 0=TD 2 [[Uk n.grain,b]])
  ⟨rfl,by simp[St,sx,S.Pe],by simp[sx]⟩ (by simp[sx]) (by decide) (by rintro j t df g v s (rfl|rfl|rfl)<;>simp[St,sx]) ?_ ?_ ?_
 ·rintro j t df g o ⟨rfl,⟨h1,h2,h5,-⟩,hg⟩ f;have hw:=λg=>FQ (d:=d+1) (g:=g) (P:=NoP) (k:=0) (QM d) (c g.h) hr;simp only[sz,simprocAttr,h1,h2,h5,f,hg,hw,St]
 ·rintro j t df g o ⟨rfl,⟨h1,h2,h5,-⟩,hg⟩ f;simp only[sz,simprocAttr,h2,f,hg];refine bF (zN (d:=d+1) (P:=NoP) (k:=0) (w:=j) (QM d) (c _) hr (by omega)) λrv hrv=>?_;have a:=λg=>Er (d:=d+1) (g:=g) (P:=NoP) (P2:=NoP) (k:=0) (k2:=max k2 d) (vals:=S.O7 (S.O2 n) (j:Int)) (e:=e) (QM d) (hrv.sl g.h) (i g.h) (by rw[zZ,aP,hel]);have sb:=pR hr (λw=>S.Pw (S.O7 (S.O2 n) (w:Int)) e) (j+1);cases hmt:S.Pw (S.O7 (S.O2 n) (j:Int)) e with
  | true =>
   have l:=λg=>FP (d:=d+1) (g:=g) (w:=j) (QM d) (c g.h) hr (by omega);rw[hmt]at a;have w1:IntKind.wrap .i64 (S.Pe n (λw=>S.Pw (S.O7 (S.O2 n) (w:Int)) e) j+S.PA n (S.O7 (S.O2 n) (j:Int)))=S.Pe n (λw=>S.Pw (S.O7 (S.O2 n) (w:Int)) e) (j+1):=by
    have e1:S.Pe n (λw=>S.Pw (S.O7 (S.O2 n) (w:Int)) e) (j+1)=S.Pe n (λw=>S.Pw (S.O7 (S.O2 n) (w:Int)) e) j+S.PA n (S.O7 (S.O2 n) (j:Int)):=by rw[S.Pe,hmt];rfl
    rw[<-e1,aA (by omega) (by omega)]
   simp only[sz,simprocAttr,h1,h2,h5,f,hg,a,l,St,w1]
  | false =>
   rw[hmt]at a;have e1:S.Pe n (λw=>S.Pw (S.O7 (S.O2 n) (w:Int)) e) (j+1)=S.Pe n (λw=>S.Pw (S.O7 (S.O2 n) (w:Int)) e) j:=by rw[S.Pe,hmt];simp
   simp only[sz,simprocAttr,h1,h2,h5,f,hg,a,St,e1]
 ·rintro t df g ⟨rfl,⟨h1,h2,h5,-⟩,hg⟩;simp only[sz,simprocAttr,qh,h5]
  rfl
theorem KL[XOc]{e:List Int}(hd:0<d)(hm:Agg n P k g.h v)(he:SlR P2 k2 g.h e w):aq C0 d 92 [v,w] g=.val (.bool (S.O8 n e)):=by
 obtain⟨w',A,f⟩:=bE he d;obtain⟨v',e1,cs,rfl,hc⟩:=jK (c_ n) (by decide) d hm;obtain⟨b,rfl,hN⟩:=dT.1 hc;obtain⟨rows,m,D,B,C⟩:=hN.all;have m:∀h',af h' 3 b=some rows:=m;have n2:=λg=>(f .nil).len g;have rb:=λh=>(f h).ints;rw[sU];refine d7 uK (xs:=[.agg [Uk n.grain,b],w']) (by simp only[aF,e1,A]) (by simp[fC]) hd ?_;have p:=he.1
 by_cases hl:e.length=n.nodes.length
 ·simp only[sz,simprocAttr,fC,gw,kh,n2,hN.len,hl];refine be e.length p (λj t df g=>df=[]/\St t [(1,w'),(2,Ul 0)]/\g.h.get 0=TD 2 [[Uk n.grain,b]]/\((List.range j).all λv=>decide (-1<=e[v]?.getD 0)&&decide (e[v]?.getD 0<(S.O2 n)[v]?.getD 0))=true)
   ⟨rfl,by simp[St,sx],by simp[sx],by simp⟩ (by simp[sx]) (by decide) (by rintro j t df g v s (rfl|rfl|rfl)<;>simp[St,sx]) ?_ ?_ ?_
  ·rintro j t df g i ⟨rfl,⟨h1,h2,-⟩,hg,ha⟩ h5;simp only[sz,simprocAttr,h1,h2,h5,hg,n2,St,ha]
  ·rintro j t df g i ⟨rfl,⟨h1,h2,-⟩,hg,ha⟩ h5;obtain⟨y,r,-,-⟩:=ae i;obtain⟨x,hx,-,-⟩:=ae (l:=n.nodes) (j:=j) (by omega);obtain⟨row,q1,q2⟩:=B j x hx;obtain⟨a',b',rfl,-,-⟩:=bV.1 q2;have hlt:j<rows.length:=by omega
   have c:=C (by omega);have u:j<(e.map ci).length:=by simpa using i
   have z:(e.map ci)[j]?=some (ci y):=by rw[Qx,r];rfl
   have a:(S.O2 n)[j]?.getD 0=x.card:=by simp[S.O2,hx]
   have q:((List.range (j+1)).all λv=>decide (-1<=e[v]?.getD 0)&&decide (e[v]?.getD 0<(S.O2 n)[v]?.getD 0))=(decide (-1<=y)&&decide (y<x.card)):=by rw[Sd,List.all_append,ha,a.symm];simp[r]
   have bad:(decide (-1<=y)&&decide (y<x.card))=false->S.O8 n e=false:=λh=>by
    rw[S.O8];have:((List.range e.length).all λv=>decide (-1<=e[v]?.getD 0)&&decide (e[v]?.getD 0<(S.O2 n)[v]?.getD 0))=false:=by rw[<-RL,QS];intro h2;have:=h2 j (QX.2 i);rw[r,QC,a,h]at this;cases this
    rw[this,Bool.and_false]
   by_cases c1:y < -1
   ·have:=bad (by simp;omega);simp only[sz,simprocAttr,h1,h5,rb,u,z,ci,c1,this]
   ·by_cases c2:x.card<=y
    ·have:=bad (by simp;omega);simp only[sz,simprocAttr,h1,h2,h5,hg,rb,m,hlt,q1,c,u,z,ci,c1,c2,this]
    ·simp only[sz,simprocAttr,h1,h2,h5,hg,rb,m,hlt,q1,c,u,z,ci,c1,c2,St,q];simp;omega
  ·rintro t df g ⟨rfl,⟨h1,h2,-⟩,hg,ha⟩;simp only[sz,simprocAttr,ko];rw[S.O8,ha,hl];simp
 ·have o:¬((e.length:Int)=(n.nodes.length:Int)):=by omega
  simp only[sz,simprocAttr,fC,gw,n2,hN.len,o];rw[S.O8];simp[hl]
section
variable {d:Nat}{b pa ra z:AV}{gr card:Int}{r:List Int}
def LR5(v:Nat)(q:Nat):List (Nat×AV):=[(1,Ul 0),(6,Uk (v:Int)),(7,Ul q)]
structure RJ1 (gr:Int) (r:List Int) (v q i j:Nat) (t:T):Prop where
 st:St t ((8,Uk (i:Int))::LR5 v q)
 s9:tat t 9=Uk (r.take j).sum
 all:∀y∈r.take j,0<=y/\y<=gr
structure RJ4 (gr card:Int) (rws:List (List Int)) (v q j:Nat) (t:T):Prop where
 st:St t (LR5 v q)
 all:∀r∈rws.take j,S.Pg gr card r=true
structure RJ0 (n:Net) (b:AV) (j:Nat) (t:T) (g:G):Prop where
 st:St t [(1,Ul 0),(3,Uk (S.O4 ((S.O2 n).take j)))]
 hg:g.h.get 0=TD 2 [[Uk n.grain,b]]
 nx:1<=g.nx
 all:∀x∈n.nodes.take j,S.PD n.nodes.length x=true
structure RJ6 (n:Net) (b:AV) (j:Nat) (t:T) (g:G):Prop where
 st:St t [(1,Ul 0)]
 hg:g.h.get 0=TD 2 [[Uk n.grain,b]]
 nx:1<=g.nx
 all:∀x∈n.nodes.take j,S.P5 n x=true
theorem KN[XOc]{rr:List (List AV)}{v:Nat}(s1:∀h,af h 1 ra=some rr)(s2:rr[i]?=some [z])(s3:i<rr.length)(s4:md ra=true)(hz:SlR NoP 0 .nil r z)(hl:r.length<=4)(hg1:1<=gr/\gr<=60)
  (ht:St t ((8,Uk (i:Int))::LR5 v q)) (h9:tat t 9=Uk 0) (h10:tat t 10=Uk 0) (e0:g.h.get 0=TD 2 [[Uk gr,b]]) (eq:g.h.get q=TD 3 [[Uk card,pa,ra]])
  (bad:∀t,(∃y∈r,¬(0<=y/\y<=gr))->tat t 2=.bool false->Q .ret t [] g) (fin:∀t,(∀y∈r,0<=y/\y<=gr)->St t ((8,Uk (i:Int))::LR5 v q)->tat t 9=Uk r.sum->Q (.exit 6) t [] g) :
  wpL (wp C0 d none i6) Q t [] g:=by
 have n1:=λg=>hz.len g;have rz:=λh=>(hz.tree (h':=h) (Qv 0)).ints;simp only[i6];refine be r.length (by omega) (λj t df g'=>df=[]/\g'=g/\RJ1 gr r v q i j t)
  ⟨rfl,rfl,ht,by simp[h9],by simp⟩ h10 (by decide) (by rintro j t df g v s (rfl|rfl|rfl) ⟨a1,a2,⟨b1,b2,b3,b4,-⟩,n,o⟩<;>exact⟨a1,a2,by simp[St,LR5,sx,b1,b2,b3,b4],by simp[sx,n],o⟩) ?_ ?_ ?_
 ·rintro j t df g' e ⟨rfl,rfl,⟨⟨h8,h1,c,h7,-⟩,h9,ha⟩⟩ h10;simp only[sz,simprocAttr,h7,h8,h10,eq,s1,s2,s3,n1];exact⟨by simp[St,LR5,sx,h1,c,h7,h8],by simp[sx,h9],ha⟩
 ·rintro j t df g' e ⟨rfl,rfl,⟨⟨h8,h1,c,h7,-⟩,h9,ha⟩⟩ h10;obtain⟨y,w,a,hm⟩:=ae e;have f:j<(r.map ci).length:=by simpa using e
  have m:(r.map ci)[j]?=some (ci y):=by rw[Qx,w];rfl
  by_cases c1:y<0
  ·simp only[sz,simprocAttr,h7,h8,h10,eq,s1,s2,s3,rz,f,m,ci,c1];exact bad _ ⟨y,hm,by omega⟩ (by simp[sx])
  ·by_cases c2:gr<y
   ·simp only[sz,simprocAttr,h1,h7,h8,h10,e0,eq,s1,s2,s3,rz,f,m,ci,c1,c2];exact bad _ ⟨y,hm,by omega⟩ (by simp[sx])
   ·have k:∀x∈r.take (j+1),0<=x/\x<=gr:=λx hx=>by
     rw[a]at hx;rcases Q0.1 hx with h|h
     ·exact ha x h
     ·rw[Rg.1 h];omega
    have u:=Bt (b:=60) (by decide) (l:=r.take (j+1)) λx hx=>by have:=k x hx;omega
    have p:(r.take (j+1)).length<=4:=by rw[Q_];omega
    have w1:IntKind.wrap .i64 ((r.take j).sum+y)=(r.take (j+1)).sum:=by
     have e1:(r.take (j+1)).sum=(r.take j).sum+y:=by rw[a,vz]
     rw[<-e1,aA (by omega) (by omega)]
    simp only[sz,simprocAttr,h1,h7,h8,h9,h10,e0,eq,s1,s2,s3,rz,f,m,ci,c1,c2,w1];exact⟨by simp[St,LR5,sx,h1,c,h7,h8],by simp[sx],k⟩
 ·rintro t df g' ⟨rfl,rfl,⟨ht,h9,ha⟩⟩;rw[Q4]at h9 ha;exact fin t ha ht h9
theorem KO[XOc]{rws:List (List Int)}{v:Nat}(hra:SlR NoP 0 .nil rws ra)(hc:1<=card/\card<=4)(hg1:1<=gr/\gr<=60)
  (ht:St t (LR5 v q)) (h8:tat t 8=Uk 0) (e0:g.h.get 0=TD 2 [[Uk gr,b]]) (eq:g.h.get q=TD 3 [[Uk card,pa,ra]])
  (bad:∀t,(∃r∈rws,S.Pg gr card r=false)->tat t 2=.bool false->Q .ret t [] g) (fin:∀t,(∀r∈rws,S.Pg gr card r=true)->St t (LR5 v q)->Q (.exit 4) t [] g) :
  wpL (wp C0 d none i7) Q t [] g:=by
 obtain⟨rr,i,u,o,p⟩:=xT hra;have n1:=λg=>hra.len g;simp only[i7,oo];refine be rws.length hra.1 (λj t df g'=>df=[]/\g'=g/\RJ4 gr card rws v q j t)
  ⟨rfl,rfl,ht,by simp⟩ h8 (by decide) (by rintro j t df g v s (rfl|rfl|rfl) ⟨a1,a2,⟨b1,b2,b3,-⟩,m⟩<;>exact⟨a1,a2,by simp[St,LR5,sx,b1,b2,b3],m⟩) ?_ ?_ ?_
 ·rintro j t df g' l ⟨rfl,rfl,⟨⟨h1,k,h7,-⟩,ha⟩⟩ h8;simp only[sz,simprocAttr,h7,h8,eq,n1];exact⟨by simp[St,LR5,sx,h1,k,h7],ha⟩
 ·rintro j t df g' l ⟨rfl,rfl,⟨⟨h1,k,h7,-⟩,ha⟩⟩ h8;obtain⟨r,hr,e,hm⟩:=ae l;obtain⟨z,q2,q3,hz⟩:=o j r hr;have c:=p (by omega);have n2:=λg=>hz.len g
  by_cases c1:(r.length:Int)=card
  ·simp only[sz,simprocAttr,h7,h8,eq,i,q2,q3,n2,c1];refine KN (v:=v) (q:=q) (b:=b) (pa:=pa) (card:=card) (gr:=gr) i q2 q3 c hz (by omega) hg1 (by simp[St,LR5,sx,h1,k,h7,h8]) (by simp[sx]) (by simp[sx]) e0 eq ?_ ?_
   ·rintro t ⟨y,n,f⟩ h2;refine bad t ⟨r,hm,?_⟩ h2;rw[<-RL,S.Pg];simp only[Qy,QQ,QS];rintro⟨⟨-,h⟩,-⟩;exact f (h y n)
   ·rintro t a ⟨h8,h1,k,h7,-⟩ h9
    by_cases c2:r.sum=gr
    ·simp only[sz,simprocAttr,i8,h1,h8,h9,e0,c2];refine⟨?_,λx hx=>?_⟩
     ·simp[St,LR5,sx,h1,k,h7]
     ·rw[e]at hx;rcases Q0.1 hx with h|h
      ·exact ha x h
      ·rw[Rg.1 h,S.Pg];simp only[Qy,QQ,QS];exact⟨⟨c1,a⟩,c2⟩
    ·simp only[sz,simprocAttr,i8,h1,h9,e0,c2];refine bad _ ⟨r,hm,?_⟩ (by simp[sx]);rw[S.Pg];simp[c2]
  ·simp only[sz,simprocAttr,h7,h8,eq,i,q2,q3,n2,c1];refine bad _ ⟨r,hm,?_⟩ (by simp[sx]);rw[S.Pg];simp[c1]
 ·rintro t df g' ⟨rfl,rfl,⟨ht,ha⟩⟩;rw[Q4]at ha;exact fin t ha ht
end
theorem IE[XOc]{d:Nat}(hd:0<d)(hm:Agg n NoP 0 g.h v):aq C0 d 91 [v] g=.val (.bool (S.O_ n)):=by
 obtain⟨b,rows,rfl,e,N,hN,U,r2,X,r4⟩:=cy d hm;have bad:¬NR n->AV.bool false=AV.bool (S.O_ n):=λh=>by
  cases hn:S.O_ n with
  |true=>exact absurd (cp.1 hn) h
  |false=>rfl
 rw[vO];refine d7 yU (xs:=[.agg [Uk n.grain,b]]) (by simp only[aF,e]) (by simp[nq]) hd ?_;have nl:=λg=>hN.len g;simp only[sz,simprocAttr,nq];obtain⟨g0,hg0⟩:∃g0,g0=G.empty.new (.cells [Uk n.grain,b].length [[Uk n.grain,b]] 0 false false):=⟨_,rfl⟩;have f0:g0.h.get 0=TD 2 [[Uk n.grain,b]]:=by rw[hg0];simp[sx]
 have f1:1<=g0.nx:=by rw[hg0];simp[sx]
 rw[show (G.empty.new (TD 2 [[Uk n.grain,b]]))=g0 from by rw[hg0];rfl];clear hg0;simp only[qi]
 by_cases c1:n.grain<1
 ·simp only[sz,simprocAttr,f0,c1];exact bad λh=>by have:=h.g1;omega
 by_cases c2:60<n.grain
 ·simp only[sz,simprocAttr,f0,c1,c2];exact bad λh=>by have:=h.g2;omega
 by_cases c3:(n.nodes.length:Int)<1
 ·simp only[sz,simprocAttr,f0,c1,c2,c3,nl];exact bad λh=>by have:=h.l1;omega
 by_cases c4:8<(n.nodes.length:Int)
 ·simp only[sz,simprocAttr,f0,c1,c2,c3,c4,nl];exact bad λh=>by have:=h.l2;omega
 refine fA (P:=λt' df g'=>df=[]/\g'=g0/\St t' [(1,Ul 0)]) ?_ ?_
 ·simp only[sz,simprocAttr,f0,c1,c2,c3,c4,nl];simp[St,sx]
 rintro t df g1 ⟨rfl,rfl,h1,-⟩;simp only[sz,simprocAttr,ol];have h5:=r4 (by omega);refine be n.nodes.length (by omega) (λj t df g=>df=[]/\RJ0 n b j t g)
  ⟨rfl,by simp[St,sx,h1,S.O4],f0,f1,by simp⟩ (by simp[sx]) (by decide) (by rintro j t df g v s (rfl|rfl|rfl) ⟨a1,⟨b1,b2,-⟩,b3,b4,V⟩<;>exact⟨a1,by simp[St,sx,b1,b2],b3,b4,V⟩) ?_ ?_ ?_
 ·rintro j t df g M ⟨rfl,⟨⟨h1,C,-⟩,hg,f,ha⟩⟩ h4;simp only[sz,simprocAttr,h1,h4,hg,nl];exact⟨by simp[St,sx,h1,C],hg,f,ha⟩
 ·rintro j t df g M ⟨rfl,⟨⟨h1,C,-⟩,hg,f,ha⟩⟩ h4;obtain⟨x,hx,J,i⟩:=ae M;obtain⟨pa,ra,q1,hlt,O,H⟩:=X j x hx;have z:=λg=>FI (d:=d+1) (g:=g) (P:=NoP) (k:=0) (l:=x.parents) (n:=(n.nodes.length:Int)) (QM d) (O.tree (h':=g.h) (Qv 0));have m:¬(0=g.nx):=by omega
  have badn:S.PD n.nodes.length x=false->AV.bool false=AV.bool (S.O_ n):=λh=>bad λhr=>by have h1:=hr.card x i;have h2:=hr.places x i;rw[S.PD,h2]at h;simp at h;omega
  by_cases d1:x.card<1
  ·simp only[sz,simprocAttr,h1,h4,hg,U,hlt,q1,d1];exact badn (by rw[S.PD];simp;omega)
  by_cases d2:4<x.card
  ·simp only[sz,simprocAttr,h1,h4,hg,U,hlt,q1,d1,d2];exact badn (by rw[S.PD];simp;omega)
  cases d3:S.Px x.parents n.nodes.length with
  | false =>
   rw[d3]at z;simp only[sz,simprocAttr,h1,h4,hg,U,hlt,q1,m,nl,z,d1,d2];exact badn (by rw[S.PD,d3];simp)
  | true =>
   rw[d3]at z;have W:S.PD n.nodes.length x=true:=by rw[S.PD,d3];simp;omega
   have o:∀y∈n.nodes.take (j+1),S.PD n.nodes.length y=true:=λy B=>by
    rw[J]at B;rcases Q0.1 B with h|h
    ·exact ha y h
    ·rw[Rg.1 h];exact W
   have F:∀c∈(S.O2 n).take (j+1),1<=c/\c<=4:=λc hc=>by rw[S.O2,<-List.map_take]at hc;obtain⟨y,B,rfl⟩:=Ri.1 hc;have:=o y B;simp[S.PD]at this;omega
   have Q:=bO F;have Z:=dI (a:=((S.O2 n).take (j+1)).length) (b:=8) (by rw[Q_];omega);have Y:(4:Int) ^ 8=65536:=by decide
   have e1:S.O4 ((S.O2 n).take (j+1))=S.O4 ((S.O2 n).take j)*x.card:=by
    rw[SG];have:(S.O2 n)[j]?=some x.card:=by simp[S.O2,hx]
    rw[this];exact sG _ _
   have w1:IntKind.wrap .i64 (S.O4 ((S.O2 n).take j)*x.card)=S.O4 ((S.O2 n).take (j+1)):=by rw[<-e1,aA (by omega) (by omega)]
   simp only[sz,simprocAttr,h1,C,h4,hg,U,hlt,q1,m,nl,z,d1,d2,w1];refine⟨?_,?_,?_,o⟩
   ·simp[St,sx,h1]
   ·simp[O6,m,hg]
   ·first| (simp;done)| (simp;omega)
 rintro t df g ⟨rfl,⟨⟨h1,C,-⟩,hg,f,ha⟩⟩;rw[Q4]at ha;rw[RE (by rw[aP];exact Qv _)]at C;have w:∀x∈n.nodes,1<=x.card/\x.card<=4:=λx hx=>by have:=ha x hx;simp[S.PD]at this;omega
 have A:∀x∈n.nodes,S.Px x.parents n.nodes.length=true:=λx hx=>by have:=ha x hx;simp[S.PD]at this;exact this.2
 have F:∀c∈S.O2 n,1<=c/\c<=4:=λc hc=>by obtain⟨y,B,rfl⟩:=Ri.1 hc;exact w y B
 simp only[oy]
 by_cases d1:1024<S.O4 (S.O2 n)
 ·simp only[sz,simprocAttr,C,d1];exact bad λh=>by have:=h.worlds;omega
 have R:=λg=>KF (d:=d+1) (g:=g) (k:=0) (P:=NoP) (QM d) (N g.h) (by omega) λx hx y B=>by have:=dH (A x hx) y B;omega
 cases d2:S.Py (S.O6 n) with
 | false =>
  simp only[sz,simprocAttr,h1,C,hg,d1];refine bF (R _) λrp hrp=>?_;have u:=λg=>wL (d:=d+1) (g:=g) (P:=NoP) (k:=0) (p:=S.O6 n) (QM d) (hrp.sl g.h);rw[d2]at u;simp only[sz,simprocAttr,u];exact bad λh=>by have:=h.acyc;rw[d2]at this;cases this
 |true =>
 refine fA (P:=λt' df g'=>df=[]/\g'=g/\St t' [(1,Ul 0)]/\S.Py (S.O6 n)=true) ?_ ?_
 ·simp only[sz,simprocAttr,h1,C,hg,d1];refine bF (R _) λrp hrp=>?_;have u:=λg=>wL (d:=d+1) (g:=g) (P:=NoP) (k:=0) (p:=S.O6 n) (QM d) (hrp.sl g.h);rw[d2]at u;simp only[sz,simprocAttr,u];simp[St,sx,h1,d2]
 clear h1 C;rintro t df g ⟨rfl,rfl,⟨h1,-⟩,E⟩;simp only[sz,simprocAttr,om,oq];refine be n.nodes.length (by omega) (λj t df g=>df=[]/\RJ6 n b j t g)
  ⟨rfl,by simp[St,sx,h1],hg,f,by simp⟩ (by simp[sx]) (by decide) (by rintro j t df g v s (rfl|rfl|rfl) ⟨a1,⟨b1,-⟩,b3,b4,V⟩<;>exact⟨a1,by simp[St,sx,b1],b3,b4,V⟩) ?_ ?_ ?_
 ·rintro j t df g M ⟨rfl,⟨⟨h1,-⟩,hg,f,ha⟩⟩ K;simp only[sz,simprocAttr,h1,K,hg,nl];exact⟨by simp[St,sx,h1],hg,f,ha⟩
 ·rintro j t df g M ⟨rfl,⟨⟨h1,-⟩,hg,f,ha⟩⟩ K;obtain⟨x,hx,J,i⟩:=ae M;obtain⟨pa,ra,q1,hlt,O,H⟩:=X j x hx;have m:¬(0=g.nx):=by omega
  have z:=jd (A x i) (by omega);have D:∀p∈x.parents,0<=p/\p<(n.nodes.length:Int):=dH (A x i);have Q:∀c∈S.O3 (S.O2 n) x.parents,1<=c/\c<=4:=bC F λp hp=>by rw[aP];exact D p hp
  have badn:S.P5 n x=false->AV.bool false=AV.bool (S.O_ n):=λh=>bad λhr=>by
   have h1:=hr.rows x i;have h2:=hr.row x i;have:S.P5 n x=true:=by simp only[S.P5,S.Pg,Qy,QQ,QS];exact⟨h1,λr hr=>⟨⟨(h2 r hr).1,(h2 r hr).2.1⟩,(h2 r hr).2.2⟩⟩
   rw[h]at this;cases this
  simp only[sz,simprocAttr,h1,K,hg,U,hlt,q1,m,H.len];refine bF (wk (d:=d+1) (k:=0) (P:=NoP) (QM d) (N _) (by omega) hx (by omega) D) λrc hrc=>?_;have I:=λg=>zL (d:=d+1) (g:=g) (P:=NoP) (k:=0) (QM d) (hrc.sl g.h);rw[wo Q (by simp[S.O3];omega)]at I
  by_cases d1:(x.rows.length:Int)=S.O4 (S.O3 (S.O2 n) x.parents)
  ·simp only[sz,simprocAttr,I,d1];refine KO (v:=j) (q:=g.nx) (b:=b) (pa:=pa) (card:=x.card) (gr:=n.grain) (rws:=x.rows) H (w x i) (by omega) (by simp[St,LR5,sx,h1,K]) (by simp[sx]) (by simp[O6,m,hg]) (by simp[O6]) ?_ ?_
   ·rintro t ⟨r,hr,T⟩ h2;simp only[sx,sy,h2];refine badn ?_;rw[S.P5];have:x.rows.all (S.Pg n.grain x.card)=false:=by rw[<-RL,QS];intro h;rw[h r hr]at T;cases T
    rw[this,Bool.and_false]
   ·rintro t o ⟨h1,K,h7,-⟩;simp only[sx,sy,↓reduceIte,K];refine⟨?_,?_,?_,λy B=>?_⟩
    ·simp[St,h1]
    ·simp[O6,m,hg]
    ·first| (simp;done)| (simp;omega)
    ·rw[J]at B;rcases Q0.1 B with h|h
     ·exact ha y h
     ·rw[Rg.1 h,S.P5,QS.2 o];simp[d1]
  ·simp only[sz,simprocAttr,I,d1];exact badn (by rw[S.P5];simp[d1])
 ·rintro t df g ⟨rfl,⟨⟨h1,-⟩,hg,f,L⟩⟩;rw[Q4]at L;simp only[sz,simprocAttr,ox];have:S.O_ n=true:=by unfold S.O_;simp only[Qy,QQ,QS];exact⟨⟨⟨⟨⟨⟨⟨by omega,by omega⟩,by omega⟩,by omega⟩,ha⟩,by omega⟩,E⟩,L⟩
  rw[this]
section
variable {tl:List Int}
def OwnC(g:G)(b id:Nat)(l tl:List Int):Prop:=b<=id/\id<g.nx/\g.h.get id=TD 1 (l.map ci++tl.map ci)
theorem OwnC.rows{id:Nat}(h:OwnC g b id l tl):af g.h 1 (.hsl id 0 0 l.length none)=some (l.map ci):=by rw[ff,h.2.2,dg,QA (by simp),Sz,List.take_left' (by simp)]
theorem OwnC.fr{g':G}{id:Nat}(h:OwnC g b id l tl)(hn:g.nx<=g'.nx)(hf:g'.h.get id=g.h.get id):OwnC g' b id l tl:=⟨h.1,QV h.2.1 hn,by rw[hf,h.2.2]⟩
theorem OC{n:Nat}{D:ADf->Prop}(hn:n<=1000)(hb:b<=g.nx)(k:∀g',OwnC g' b g.nx [] (List.replicate n 0)->g'.nx=g.nx+1->(∀i,i<g.nx->g'.h.get i=g.h.get i)->K (.hsl g.nx 0 0 0 none) g') :
  (Fs 1 8 [Uk 0] (Uk 0) (Uk (n:Int)) g).sat K g D:=by
 have h1:n<=aQ:=by unfold aQ;omega
 have h2:n*8<=aQ:=by unfold aQ;omega
 have key:Fs 1 8 [Uk 0] (Uk 0) (Uk (n:Int)) g=.upd (.hsl g.nx 0 0 0 none) (g.new (TD 1 (gc n [Uk 0]))):=by
  show (match cL aQ (Uk (.ofNat n)) with
   | some cn=>match cL cn (Uk 0) with
    |some ln=>ap (Nat.ble (cn*8) aQ) (OR.upd (.hsl g.nx 0 0 ln none) (g.new (TD 1 (gc cn [Uk 0])))) .fail
    |none=>.fail
   |none=>.fail)=_
  have a1:cL aQ (Uk (.ofNat n))=some n:=by show ap (Nat.ble n aQ) (some n) none=_;rw[aa,QA (by simpa using h1)]
  have a2:cL n (Uk 0)=some 0:=by show ap (Nat.ble 0 n) (some 0) none=_;rw[aa,QA (by simp)]
  rw[a1];dsimp only;rw[a2];dsimp only;rw[aa,QA (by simpa using h2)]
 rw[key];refine k _ ⟨hb,by simp,?_⟩ (by simp) (λi hi=>?_)
 ·simp[aV,gc,ci]
 ·rw[G.new_h,aE _ _ _ (by omega)]
theorem I8{id:Nat}{x y:Int}{D:ADf->Prop}(hv:OwnC g b id l (y::tl))(hx:af g.h 1 w=some [ci x])(hr:l.length<=1000)
  (k:∀g',OwnC g' b id (l++[x]) tl->g'.nx=g.nx->(∀i,i≠id->g'.h.get i=g.h.get i)->K (.hsl id 0 0 (l++[x]).length none) g'):(dh 1 8 (.hsl id 0 0 l.length none) w g).sat K g D:=by
 unfold dh;rw[hx];obtain⟨h1,h2,d⟩:=hv;simp only[bg,G.get_eq,d,au,aa,Q7,RS,Q6,Qy,Rc,SS,SN,RW,QJ,Q9,Sc];rw[QA ⟨by omega,by unfold aQ;omega⟩,QA (by omega)];have a:iA false=true:=rfl;rw[QA ⟨by omega,a⟩];have e:kH (l.map ci++(y::tl).map ci) l.length [ci x]=(l++[x]).map ci++tl.map ci:=by simp only[kH,iD];rw[SL,RG,Rx,R2 _ _ (by simp)];simp
 rw[e];have k:=k (g.put id (TD 1 ((l++[x]).map ci++tl.map ci))) ⟨h1,by simpa using h2,by simp[aV]⟩ (by simp) (λi hi=>by rw[G.put_h,aE _ _ _ hi]);have c:l.length+1=(l++[x]).length:=by simp
 rw[c];exact k
def Oq(p:List Nat):VS:=λP k h v=>∃o:List Int,True/\yf (One o) (One (S.Py p)) P k h v
theorem IM[XOc]{p:List Nat}(hd:0<d)(hv:SlR P k g.h p v)(hn:p.length<=8)(hp:∀x∈p,x<2 ^ p.length) :
  ∃z,aq C0 d 131 [v] g=.val z/\Oq p NoP 0 .nil z:=by
 obtain⟨v',e,r1⟩:=bE hv d;have hlt:=o5 hv;rw[wX];refine bj Ao (xs:=[v']) (by simp only[aF,e]) (by simp[pt]) (kM λo=>iE (m:=1) (aU _) (aU _) (by decide) (by decide)) (by decide) hd ?_;have vl:∀g,gz .slice v' g=.val (Uk (p.length:Int)):=λg=>(r1 .nil).len g;simp only[sz,simprocAttr,pt,vl];refine OC (b:=0) (n:=p.length) (by omega) (Rf _) λg1 hu hn1 hf1=>?_;obtain⟨id,J⟩:∃id,id=G.empty.nx:=⟨_,rfl⟩;rw[<-J]at hu ⊢;clear J hn1 hf1;simp only[sz,simprocAttr];refine rZ (λn t df g=>df=[]/\∃(L:List Nat) (D:Nat) (tl:List Int),n=p.length - L.length/\L.length+tl.length=p.length/\HK p L/\Nx D L/\HJ p D/\St t [(0,v'),(4,.hsl id 0 0 (L.map λi:Nat=>(i:Int)).length none),(5,Um (D:Int))]/\OwnC g 0 id (L.map λi:Nat=>(i:Int)) tl) p.length
  ⟨rfl,[],0,List.replicate p.length 0,by simp,by simp,⟨by simp,by simp⟩,⟨by decide,by simp⟩,A_,by simp[sx,St],hu⟩ ?_
 rintro n t df g ⟨rfl,L,D,tl,rfl,I,O,f,hG,⟨h0,h4,h5,-⟩,hu⟩;have h8:=Kt O;have Z:∀g',gz .slice (.hsl id 0 0 (L.map λi:Nat=>(i:Int)).length none) g'=.val (Uk (L.length:Int)):=λg'=>by rw[dG hu.rows];simp
 simp only[sz,simprocAttr,qa,h0,h4,vl,Z];refine ba (λhb=>?_) (λhb=>?_)
 ·have K:L.length<p.length:=by simpa using hb
  obtain⟨y,tl,rfl⟩:∃y tl',tl=y::tl':=by
   cases tl with
   |nil=>simp at I;omega
   |cons y tl=>exact⟨y,tl,rfl⟩
  simp only[sz,simprocAttr,h0,vl,p_];refine bz (m:=p.length) (by omega) (λj t df g'=>df=[]/\g'=g/\St t [(0,v'),(16,v'),(4,.hsl id 0 0 (L.map λi:Nat=>(i:Int)).length none),(5,Um (D:Int))]/\∀v,v<j->D.testBit v=true\/¬Sub (Par p v) D)
   ⟨rfl,rfl,by simp[sx,St,h0,h4,h5],λv hv=>by omega⟩ (by simp[sx]) (by simp[sx]) (by decide) (by rintro j t df g v s (rfl|rfl|rfl)<;>simp[sx,St]) ?_ ?_
  ·rintro j t df g' V ⟨rfl,rfl,⟨h0,u,h4,h5,-⟩,c⟩ w H;obtain⟨x,hx,-,h7⟩:=ae V;have F:Par p j=x:=by simp[Par,hx]
   have h6:=hlt x h7;have C:j<(p.map cu).length:=by simpa using V
   have E:(p.map cu)[j]?=some (cu x):=by rw[Qx,hx];rfl
   have b1:=sj .i64 D j f.1;have R:D / 2 ^ j<18446744073709551616:=SW (Tq _ _) f.1;have b2:bT .and (Um ((D / 2 ^ j:Nat):Int)) (Um 1)=.val (Um ((D / 2 ^ j &&& 1:Nat):Int)):=ut _ 1 R (by decide);have b3:=yk x D h6 f.1;have ra:=λh=>(r1 h).nats;have l:D.testBit j = !decide (((D / 2 ^ j &&& 1:Nat):Int)=0):=by
    rw[<-kC,S.Pq];have h2:D / 2 ^ j &&& 1=(D / 2 ^ j) % 2:=Nat.and_one_is_mod _;rw[h2];have:=R_ (D / 2 ^ j) (show 0<2 by decide)
    by_cases h3:D / 2 ^ j % 2=0
    ·rw[h3];simp
    ·have h4:D / 2 ^ j % 2=1:=by omega
     rw[h4];simp
   have next:(D.testBit j=true\/¬Sub (Par p j) D)->∀v,v<j+1->D.testBit v=true\/¬Sub (Par p v) D:=λh v hv=>by
    by_cases e:v=j
    ·subst e;exact h
    ·exact c v (by omega)
   by_cases c1:((D / 2 ^ j &&& 1:Nat):Int)=0
   ·by_cases c2:((x ^^^ (x &&& D):Nat):Int)=0
    ·have Q:S.PU x D=0:=by simpa [S.PU] using c2
     have r:=A3.1 Q;have W:j ∉ L:=λh=>by have:=(f.2 j).2 h;rw[l,c1]at this;simp at this
     have h9:D ||| S.Ph j<18446744073709551616:=G9 f.1 (mX j);simp only[sz,simprocAttr,u,h4,h5,w,b1,b2,b3,ra,C,E,cu,c1,c2];refine I8 (x:=(j:Int)) (hu.fr (by simp) (by rw[G.new_h,aE _ _ _ (by have:=hu.2.1;omega)])) (by simp[sx,sy,ci]) (by simp;omega) λg2 hu2 n2 f2=>?_;have M:bT .shl (Um 1) (Uk (j:Int))=.val (Um (S.Ph j:Int)):=eK .i64 j;have e1:(L.map λi:Nat=>(i:Int))++[(j:Int)]=(L++[j]).map λi:Nat=>(i:Int):=by simp
     rw[e1]at hu2 ⊢;simp only[sz,simprocAttr,h5,M,vH _ _ f.1 (mX j)];refine⟨p.length - (L++[j]).length,by simp;omega,L++[j],D ||| S.Ph j,tl,rfl,by simp at I ⊢;omega,Is O W V λq hq=>?_,IK f (by omega),Ds hG (by omega) (by rw[F];exact r),by simp[sx,St,h0],hu2⟩;rw[F]at hq;exact (f.2 q).1 (r q hq)
    ·have X:¬Sub (Par p j) D:=λh=>c2 (by
      have:=A3.2 h;rw[F]at this;simp[S.PU]at this;simp[this])
     simp only[sz,simprocAttr,h0,u,h4,h5,w,H,b1,b2,b3,ra,C,E,cu,c1,c2,St];exact next (.inr X)
   ·simp only[sz,simprocAttr,h0,u,h4,h5,w,H,b1,b2,ra,C,E,cu,c1,St];exact next (.inl (by rw[l,So c1];rfl))
  ·rintro t df g' ⟨rfl,rfl,-,c⟩;obtain⟨v0,h1,N⟩:=Md O K;have A:S.Py p=false:=by
    cases hc:S.Py p with
    |false=>rfl
    | true =>
     have:=BE hp hc (T:=D) (λv hv hb=>by
      rcases c v hv with h|h
      ·rw[h]at hb;cases hb
      ·exact h) v0 h1
     exact absurd ((f.2 v0).1 this) N
   simp only[sz,simprocAttr,qb];exact⟨λ_=>True,[],.nils,.bool false,rfl,⟨.nils,rfl,by show 0<9223372036854775808;decide,rfl⟩,pO.2 (by rw[A])⟩
 ·have U:p.length<=L.length:=by simp at hb;omega
  have Y:tl=[]:=QU (by omega);subst Y;have B:=Ir O U;have A:=ul hG λv hv=>(f.2 v).2 (B.1 v hv);simp only[sz,simprocAttr,qc,h4];refine⟨λ_=>True,L.map (λi:Nat=>(i:Int)),_,_,rfl,⟨_,rfl,by simp;omega,trivial,_,hu.rows,O2 (λa=>aI.2 rfl) _⟩,pO.2 (by rw[A])⟩
end
section
variable {nt:Nat}
theorem Iz{C:Cfg}{id:Nat}{ps:List Nat}{assign body:Code}{a b:SC}{dfr:Nat}{args:List AV}{D:ADf->Prop}{t':T}
  (hg:g.h.get id=.loop nt t ps assign body dfr .ready none) (ha:bP C nt assign=a) (hb:bP C nt body=b) (hp:dK t nt ps args=some t')
  (h:wp C d (some id) a (λe t1 df g1=>e=.norm/\df=[]/\g1=g /\
   wp C d (some id) b (λe _ df g2=>df=[]/\g2.h.get id=.loop nt t ps assign body dfr .busy none/\((e=.norm/\K (.bool true) (g2.put id (.loop nt t ps assign body dfr .ready none)))\/(e=.ret/\K (.bool false) (g2.put id (.loop nt t ps assign body dfr .done (some .ret))))))
    t1 [] (g.put id (.loop nt t ps assign body dfr .busy none))) t' [] g) :
  (cQ (I C) d id args g).sat K g D:=by
 subst ha;subst hb;unfold cQ;rw[show g.get id=_ from hg];dsimp only;rw[hp];dsimp only;have h1:=si h;cases hc:(I C).code nt d (some id) assign t' [] g with
 |fail=>rw[hc]at h1;exact h1.elim
 | ok e t1 df g1 =>
  rw[hc]at h1;obtain⟨rfl,rfl,rfl,h2⟩:=h1;dsimp only;rw[show g1.get id=_ from hg];dsimp only;have k:=si h2;cases hc2:(I C).code nt d (some id) body t1 [] (g1.put id (.loop nt t ps assign body dfr .busy none)) with
  |fail=>rw[hc2]at k;exact k.elim
  | ok e t2 df2 g2 =>
   rw[hc2]at k;obtain⟨rfl,h4,h5⟩:=k;dsimp only;rw[show g2.get id=_ from h4];rcases h5 with⟨rfl,h5⟩|⟨rfl,h5⟩<;>exact h5
theorem z_{C:Cfg}{f:Od}{ps:List Nat}{a b:SC}{df:List ADf}{fn:Nat}{first cap:List AV}{s:SF}(hv:f.get t=.clo fn first cap)(he:C.ext fn=none)(hs:nFn C fn=some s)
  (hl:(first++(.yld (g.nx+1)::cap)).length<=s.nt)
  (h:∀assign body,bP C nt assign=a->bP C nt body=b ->
   wp C d none s.code (fnQ C d s.res λ_ g2=>∃nt' t' ps' as' bd' dfr',(g2.h.get (g.nx+1)=.loop nt' t' ps' as' bd' dfr' .ready none/\Q .norm t (.mark g.nx::df) (g2.put (g.nx+1) (.loop nt' t' ps' as' bd' dfr' .exhausted none))) \/
     (g2.h.get (g.nx+1)=.loop nt' t' ps' as' bd' dfr' .done (some .ret)/\Q .ret t (.mark g.nx::df) (g2.put (g.nx+1) (.loop nt' t' ps' as' bd' dfr' .exhausted (some .ret)))))
    (bh 0 (first++(.yld (g.nx+1)::cap)) .nil) [] ((g.new (.dfr true)).new (.loop nt t ps assign body g.nx .ready none))) :
  wp C d none (.rng nt f ps a b) Q t df g:=by
 intro assign body ha hb;have h:=o9 hs hl (h assign body ha hb);show (cG C (I C) nt d none (f.get t) ps assign body t (.mark g.nx::df) g.nx (g.new (.dfr true))).sat Q;rw[hv];unfold cG;dsimp only;rw[he];show (match (I C).call d fn (first++(AV.yld (g.nx+1)::cap)) ((g.new (.dfr true)).new (.loop nt t ps assign body g.nx .ready none)) with
  |.ok _ g2=>dJ (I C) nt d none (g.nx+1) t (.mark g.nx::df) g2
  |.fail=>.fail).sat Q
 cases hc:(I C).call d fn (first++(AV.yld (g.nx+1)::cap)) ((g.new (.dfr true)).new (.loop nt t ps assign body g.nx .ready none)) with
 |fail=>rw[hc]at h;exact h.elim
 | ok v g2 =>
  rw[hc]at h;obtain⟨nt',t',ps',as',bd',dfr',h⟩:=h;show (dJ (I C) nt d none (g.nx+1) t (.mark g.nx::df) g2).sat Q;unfold dJ;rcases h with⟨h1,h2⟩|⟨h1,h2⟩
  ·rw[show g2.get (g.nx+1)=_ from h1];exact h2
  ·rw[show g2.get (g.nx+1)=_ from h1];dsimp only;rw[EM];exact h2
def RwV(x:Node):VS:=λP k h v=>∃p,v=.clo 169 [] [p] /\
 ((∃id cs,p=Ul id/\P id/\h.get id=TD 3 [cs]/\Rp.rp P k h x cs)\/∃t cs,p=.tptr t 3 [cs] 0 0/\t<=k/\Rp.rp NoP k .nil x cs)
theorem Of(x:Node):Snb (RwV x) 2:=by
 refine⟨λ{P k h v n} d r hn=>?_,λ{k h v n} r hn=>?_⟩
 ·obtain⟨p,rfl,r⟩:=r;obtain⟨n,rfl⟩:∃q,n=q+2:=⟨n - 2,by omega⟩;rcases r with⟨id,cs,rfl,-,hg,r⟩|⟨t,cs,rfl,ht,r⟩
  ·obtain⟨cs',e,r'⟩:=Rp.snap (n:=n) d r (by show (_:Nat)<=n;exact QW (show Rp.dp Node<=20 by decide) (by omega)) (by decide);obtain⟨m,a,l2⟩:=Rp.tag (n:=aD) r' (by decide);refine⟨.clo 169 [] [.tptr (Nat.max d (Nat.max m 0)) 3 [cs'] 0 0],?_,_,rfl,.inr ⟨_,cs',rfl,?_,r'⟩⟩
   ·have:Hx.snap h d (n+1) (Ul id)=some (.tptr (Nat.max d (Nat.max m 0)) 3 [cs'] 0 0):=by simp only[Hx.snap,hg,show Nat.beq 0 0=true from rfl,aF,e,fG,gB,a]
    simp only[Hx.snap,aF]at this ⊢;rw[this]
   ·show max d (max m 0)<=max k d;omega
  ·refine⟨.clo 169 [] [.tptr t 3 [cs] 0 0],rfl,_,rfl,.inr ⟨t,cs,rfl,by omega,Rp.mono r (λi hi=>hi.elim) (by omega)⟩⟩
 ·obtain⟨p,rfl,r⟩:=r;obtain⟨n,rfl⟩:∃q,n=q+2:=⟨n - 2,by omega⟩;rcases r with⟨id,cs,rfl,b,-⟩|⟨t,cs,rfl,ht,r⟩
  ·exact b.elim
  ·exact⟨Nat.max t 0,rfl,by show max t 0<=k;omega⟩
theorem zz[XOc](hd:0<d)(hm:Agg x NoP 0 g.h v) :
  ∃pa ra,aq C0 d 156 [v] g=.val (.clo 169 [] [.tptr 0 3 [[Uk x.card,pa,ra]] 0 0])/\SlR NoP 0 .nil x.parents pa/\SlR NoP 0 .nil x.rows ra:=by
 have e0:=g8 d hm;obtain⟨cs,rfl,hc⟩:=hm;obtain⟨a,b,rfl,hR,hN⟩:=bV.1 hc;have key:∃r,aq C0 d 156 [.agg [Uk x.card,a,b]] g=.val r/\RwV x NoP 0 .nil r:=by rw[Af];refine bj Dd (xs:=[.agg [Uk x.card,a,b]]) (by simp only[aF,e0]) (by simp[tP]) (Of x) (by decide) hd ?_;simp only[sz,simprocAttr,tP,uN];exact⟨λ_=>True,_,rfl,.inl ⟨0,_,rfl,trivial,by simp[sx],Rp.tree hc (Qv _)⟩⟩
 obtain⟨r,h1,p,rfl,h2⟩:=key;rcases h2 with⟨id,cs,rfl,e,-⟩|⟨t,cs,rfl,ht,hr⟩
 ·exact e.elim
 ·have:t=0:=by omega
  subst this;obtain⟨a',b',rfl,c,k⟩:=bV.1 hr;exact⟨a',b',h1,c,k⟩
theorem uQ(fo l sz i off:Nat)(rows:List (List AV)):JC fo (.tptr l sz rows i off)=.val (.tptr l sz rows i (off+fo)):=rfl
theorem KQ[XOc]{id:Nat}{c:Int}{pa ra:AV}{rws:List (List Int)}{g0:G}(hra:SlR NoP 0 .nil rws ra)(J:Nat->H->Prop)(E:G->Prop)
  (step:∀(j:Nat) (r:List Int) (z:AV) (g:G) (K':AV->G->Prop) (D:ADf->Prop),rws[j]?=some r->SlR NoP 0 .nil r z->g0.nx<=g.nx->J j g.h ->
   (∀g',J (j+1) g'.h->g.nx<=g'.nx->K' (.bool true) g')->(∀g',E g'->K' (.bool false) g')->(cQ (I C0) d id [Uk (j:Int),z] g).sat K' g D)
  (h0:J 0 g0.h) (fin:∀g',J rws.length g'.h->g0.nx<=g'.nx->K (.tup []) g') (finE:∀g',E g'->K (.tup []) g') :
  wp C0 d none fB.code (fnQ C0 d fB.res K) (bh 0 [.yld id,.tptr 0 3 [[Uk c,pa,ra]] 0 0] .nil) [] g0:=by
 obtain⟨rr,i,o,l,n⟩:=xT hra;simp only[sz,simprocAttr,fB,pZ,uQ,kU,hra.len];refine bz (m:=rws.length) hra.1 (λj t df g=>df=[]/\St t [(0,.yld id),(6,ra)]/\J j g.h/\g0.nx<=g.nx) ⟨rfl,by simp[St,sx],h0,Qv _⟩ (by simp[sx]) (by simp[sx]) (by decide) (by rintro j t df g v s (rfl|rfl|rfl)<;>simp[St,sx]) ?_ ?_
 ·rintro j t df g e ⟨rfl,⟨h0,b,-⟩,a,k⟩ h8 h7;obtain⟨r,hr,-,-⟩:=ae e;obtain⟨z,q2,q3,hz⟩:=l j r hr;have f:=n (by omega);simp only[sz,simprocAttr,h0,b,h8,i,q2,q3];show (cQ (I C0) d id [Uk (j:Int),z] g).sat _ _ _;refine step j r z g _ _ hr hz k a (λg' hJ' hn'=>?_) λg' hE=>?_
  ·simp only[sz,simprocAttr,h7,h8];simp[St,sx,h0,b,hJ',QW k hn']
  ·simp only[sz,simprocAttr];exact finE g' hE
 ·rintro t df g ⟨rfl,-,a,k⟩;simp only[sx,↓reduceIte];exact fin g a k
theorem E8[XOc]:C0.ext 169=none:=by kernel_rfl
structure RowQ (b:Nat) (g2 g3:G) (e:Ex) (A B:Prop):Prop where
 nx:g2.nx<=g3.nx
 fr:∀i,b<=i->i<g2.nx->g3.h.get i=g2.h.get i
 st:(e=.norm/\A)\/(e=.ret/\B)
theorem Es[XOc]{y p:Nat}{c:Int}{pa ra:AV}{rws:List (List Int)}{ca cb:SC}(hra:SlR NoP 0 .nil rws ra)(hv:tat t y=.clo 169 [] [.tptr 0 3 [[Uk c,pa,ra]] 0 0])(hp:p<nt)(hq:q<nt)
  (J:Nat->H->Prop) (E:H->Prop) (hJ:∀j h h',(∀i,i<g.nx->h'.get i=h.get i)->J j h->J j h') (hE:∀h h',(∀i,i<g.nx->h'.get i=h.get i)->E h->E h') (h0:J 0 g.h)
  (step:∀(j:Nat) (r:List Int) (z:AV) (g1:G),rws[j]?=some r->SlR NoP 0 .nil r z->J j g1.h->g.nx+2<=g1.nx ->
   wp C0 d (some (g.nx+1)) ca (λe t1 df g1'=>e=.norm/\df=[]/\g1'=g1/\∀g2:G,g2.nx=g1.nx->(∀i,i≠g.nx+1->g2.h.get i=g1.h.get i) ->
    wp C0 d (some (g.nx+1)) cb (λe _ df g3=>df=[]/\RowQ g.nx g2 g3 e (J (j+1) g3.h) (E g3.h)) t1 [] g2)
    (fj (fj t p (Uk (j:Int))) q z) [] g1)
  (fin:∀g',J rws.length g'.h->g.nx+2<=g'.nx->g'.h.get g.nx=.dfr true->Q .norm t [.mark g.nx] g')
  (finE:∀g',E g'.h->g.nx+2<=g'.nx->g'.h.get g.nx=.dfr true->Q .ret t [.mark g.nx] g') :
  wp C0 d none (.rng nt (.t y) [p,q] ca cb) Q t [] g:=by
 refine z_ (fn:=169) (first:=[]) (cap:=[.tptr 0 3 [[Uk c,pa,ra]] 0 0]) (s:=fB) hv E8 An (by simp[fB]) ?_;intro assign body ha hb;have e1:((g.new (.dfr true)).new (.loop nt t [p,q] assign body g.nx .ready none)).nx=g.nx+2:=by simp
 refine KQ (g0:=(g.new (.dfr true)).new (.loop nt t [p,q] assign body g.nx .ready none)) (id:=g.nx+1) hra
  (λj h=>J j h/\h.get g.nx=.dfr true/\h.get (g.nx+1)=.loop nt t [p,q] assign body g.nx .ready none)
  (λg'=>E g'.h/\g'.h.get g.nx=.dfr true/\g'.h.get (g.nx+1)=.loop nt t [p,q] assign body g.nx .done (some .ret)/\g.nx+2<=g'.nx) ?_ ?_ ?_ ?_
 ·rintro j r z g1 K' D hr hz k ⟨a1,a2,a3⟩ kk kE;rw[e1]at k;refine Iz a3 ha hb (t':=fj (fj t p (Uk (j:Int))) q z) ?_ ?_
  ·simp only[dK,aa,Rn,QA hp,QA hq];rfl
  ·refine cK _ (step j r z g1 hr hz a1 (by omega)) ?_;rintro e t1 df g1' ⟨rfl,rfl,rfl,h⟩;refine⟨rfl,rfl,rfl,?_⟩;have hl:g.nx+1<g1'.nx:=by omega
   refine cK _ (h (g1'.put (g.nx+1) (.loop nt t [p,q] assign body g.nx .busy none)) (by simp) (λi hi=>by simp[O6,hi])) ?_;rintro e t2 df g3 ⟨rfl,⟨b2,b3,b1⟩⟩;have b4:g3.h.get (g.nx+1)=.loop nt t [p,q] assign body g.nx .busy none:=by rw[b3 _ (by omega) (by simpa using hl)];simp[O6]
   have a:g3.h.get g.nx=.dfr true:=by rw[b3 _ (by omega) (by simp;omega)];simp[O6,a2]
   refine⟨rfl,b4,?_⟩;rcases b1 with⟨rfl,b1⟩|⟨rfl,b1⟩
   ·refine .inl ⟨rfl,kk _ ⟨hJ _ g3.h _ (λi hi=>by simp[O6,show ¬i=g.nx+1 by omega]) b1,?_,?_⟩ (by simpa using b2)⟩
    ·simp[O6,a]
    ·simp[O6]
   ·refine .inr ⟨rfl,kE _ ⟨hE g3.h _ (λi hi=>by simp[O6,show ¬i=g.nx+1 by omega]) b1,?_,?_,?_⟩⟩
    ·simp[O6,a]
    ·simp[O6]
    ·simp at b2 ⊢;omega
 ·refine⟨hJ 0 g.h _ (λi hi=>?_) h0,?_,?_⟩
  ·simp[O6,show ¬i=g.nx+1 by omega,show ¬i=g.nx by omega]
  ·simp[O6]
  ·simp[O6]
 ·rintro g' ⟨a1,a2,a3⟩ k;rw[e1]at k;refine⟨_,_,_,_,_,_,.inl ⟨a3,fin _ (hJ _ g'.h _ (λi hi=>by simp[O6,show ¬i=g.nx+1 by omega]) a1) (by simpa using k) ?_⟩⟩;simp[O6,a2]
 ·rintro g' ⟨a1,a2,a3,k⟩;refine⟨_,_,_,_,_,_,.inr ⟨a3,finE _ (hE g'.h _ (λi hi=>by simp[O6,show ¬i=g.nx+1 by omega]) a1) (by simpa using k) ?_⟩⟩;simp[O6,a2]
end
abbrev NwM:Type:=Net×List Int×List Nat×List Int
theorem wO{x:NwM}{cs:List AV}:Rp.rp P k h x cs↔∃a b c e,cs=[Uk x.1.grain,a,b,c,e]/\SlR P k h x.1.nodes a/\SlR P k h x.2.1 b/\SlR P k h x.2.2.1 c/\SlR P k h x.2.2.2 e:=by
 constructor
 ·rintro⟨c1,d,rfl,h1,f,i,rfl,⟨b,rfl,hb⟩,j,l,rfl,⟨c,rfl,hc⟩,⟨e,rfl,he⟩⟩;obtain⟨a,rfl,ha⟩:=dT.1 h1;exact⟨a,b,c,e,rfl,ha,hb,hc,he⟩
 ·rintro⟨a,b,c,e,rfl,ha,hb,hc,he⟩;exact⟨[_,a],[b,c,e],rfl,dT.2 ⟨a,rfl,ha⟩,[b],[c,e],rfl,⟨b,rfl,hb⟩,[c],[e],rfl,⟨c,rfl,hc⟩,⟨e,rfl,he⟩⟩
theorem CF:∀{l:List Int},(∀x∈l,0<=x)->0<=l.sum
 |[],_=>by simp
 | x::l,h=>by have:=CF (l:=l) λy hy=>h y (by simp[hy]);have:=h x (by simp);rw[Sv];omega
theorem EF(h:∀x∈l,0<=x)(j:Nat):(l.take j).sum<=l.sum:=by
 have:=CF (l:=l.drop j) λx hx=>h x (Rd hx);have e:l.sum=(l.take j).sum+(l.drop j).sum:=by rw[<-List.sum_append,Ry]
 omega
theorem zu:∀{l:List Int},(∀x∈l,0<=x)->∀x∈l,x<=l.sum
 |[],_,x,hx=>by simp at hx
 | y::l,h,x,hx=>by
  have h1:=CF (l:=l) λz hz=>h z (by simp[hz]);have h2:=h y (by simp);rw[Sv];rcases Q8.1 hx with rfl|hx
  ·omega
  ·have:=zu (l:=l) (λz hz=>h z (by simp[hz])) x hx;omega
def S.PK(gr:Int)(cs:List Int)(x:Node):Bool:=decide ((x.rows.length:Int)=S.O4 (S.O3 cs x.parents))&&x.rows.all (S.Pg gr x.card)
structure FJ (gr:Int) (r:List Int) (z:AV) (j:Nat) (t:T):Prop where
 st:St t [(2,Ul 0),(3,Ul 1),(4,Ul 2),(9,z),(40,z),(10,Uk (gr - (r.take j).sum))]
 nn:∀x∈r.take j,0<=x
 le:(r.take j).sum<=gr
theorem Id[XOc]{rd:Option Nat}{gr:Int}{r:List Int}{z:AV}(hz:SlR NoP 0 .nil r z)(hg1:1<=gr/\gr<=60)
  (ht:St t [(2,Ul 0),(3,Ul 1),(4,Ul 2),(9,z),(40,z),(10,Uk gr)]) (h42:tat t 42=Uk 0) (h41:tat t 41=Uk (r.length:Int)) (e2:g.h.get 2=TD 1 [[.bool false]])
  (bad:∀t,(∀card,S.Pg gr card r=false)->Q .ret t [] (g.put 2 (TD 1 [[.bool false]])))
  (fin:∀t,(∀x∈r,0<=x)->r.sum<=gr->St t [(2,Ul 0),(3,Ul 1),(4,Ul 2),(9,z),(10,Uk (gr - r.sum))]->Q (.exit 4) t [] g) :
  wpL (wp C0 d rd dB) Q t [] g:=by
 have rz:=λh=>(hz.tree (h':=h) (Qv 0)).ints;simp only[dB];refine bz (m:=r.length) hz.1 (λj t df g'=>df=[]/\g'=g/\FJ gr r z j t) ⟨rfl,rfl,by simpa using ht,by simp,by simp;omega⟩ h42 h41 (by decide)
  (by rintro j t df g v s (rfl|rfl|rfl) ⟨a1,a2,⟨b1,b2,b3,b4,p,q,-⟩,u,w⟩<;>exact⟨a1,a2,by simp[St,sx,b1,b2,b3,b4,p,q],u,w⟩) ?_ ?_
 ·rintro j t df g' o ⟨rfl,rfl,⟨⟨h2,f,h4,h9,a,k,-⟩,b,e⟩⟩ h42 h41;obtain⟨y,B,c,hm⟩:=ae o;have i:j<(r.map ci).length:=by simpa using o
  have n:(r.map ci)[j]?=some (ci y):=by rw[Qx,B];rfl
  have A:=CF b
  by_cases c1:y<0
  ·simp only[sz,simprocAttr,h4,a,h42,rz,i,n,ci,c1,e2];exact bad _ (λcard=>by
    rw[<-RL,S.Pg];simp only[Qy,QQ,QS];rintro⟨⟨-,h⟩,-⟩;have:=h y hm;omega)
  ·by_cases c2:gr - (r.take j).sum<y
   ·simp only[sz,simprocAttr,h4,a,k,h42,rz,i,n,ci,c1,c2,e2];exact bad _ (λcard=>by
     rw[<-RL,S.Pg];simp only[Qy,QQ,QS];rintro⟨⟨-,h⟩,hs⟩;have h1:=EF (l:=r) (λx hx=>(h x hx).1) (j+1);rw[c,vz]at h1;omega)
   ·have w1:IntKind.wrap .i64 (gr - (r.take j).sum - y)=gr - (r.take (j+1)).sum:=by rw[aA (by omega) (by omega),c,vz];omega
    simp only[sz,simprocAttr,a,k,h42,h41,rz,i,n,ci,c1,c2,w1];refine⟨by simp[St,sx,h2,f,h4,h9,a],λx hx=>?_,by rw[c,vz];omega⟩;rw[c]at hx;rcases Q0.1 hx with h|h
    ·exact b x h
    ·rw[Rg.1 h];omega
 ·rintro t df g' ⟨rfl,rfl,⟨⟨h2,f,h4,h9,a,k,-⟩,b,e⟩⟩;rw[Q4]at b e k;exact fin t b e ⟨h2,f,h4,h9,k,trivial⟩
structure FlJ (cs1 cs2:List AV) (gr card:Int) (rws:List (List Int)) (j:Nat) (h:H):Prop where
 a0:h.get 0=TD 5 [cs1]
 a1:h.get 1=TD 3 [cs2]
 a2:h.get 2=TD 1 [[.bool false]]
 all:∀r∈rws.take j,S.Pg gr card r=true
structure FlE (gr card:Int) (rws:List (List Int)) (h:H):Prop where
 a2:h.get 2=TD 1 [[.bool false]]
 ex:∃r∈rws,S.Pg gr card r=false
theorem Ie[XOc]{k1:Nat}{P1:Nat->Prop}{m:NwM}(hd:0<d)(hm:Agg m P1 k1 g.h v)(hx:Agg x P2 k2 g.h w)(hk:k2=0/\P2=NoP)(hg1:1<=m.1.grain/\m.1.grain<=60)(hc:∀c∈m.2.1,1<=c/\c<=4)
  (hp:∀p∈x.parents,0<=p/\p<m.2.1.length) (hpl:x.parents.length<=8):aq C0 d 130 [v,w] g=.val (.bool (S.PK m.1.grain m.2.1 x)):=by
 obtain⟨rfl,rfl⟩:=hk;obtain⟨v',e1,cs,rfl,U⟩:=jK (c_ m) (by decide) d hm;obtain⟨nb,cb,sb,ob,rfl,-,T,-,-⟩:=wO.1 U;have e2:=g8 d hx;obtain⟨cs2,rfl,u⟩:=hx;obtain⟨pa,ra,rfl,M,E⟩:=bV.1 u;have A:∀h,Agg x NoP 0 h (.agg [Uk x.card,pa,ra]):=λh=>⟨_,rfl,Rp.tree u (Qv _)⟩;have E:=E.tree (h':=.nil) (Qv 0);have rp:=λh=>(M.tree (h':=h) (Qv 0)).ints;have rc:=λh=>(T.tree (h':=h) (Qv _)).ints;have pl:=λg=>(M.tree (h':=.nil) (Qv 0)).len g;have rl:=λg=>E.len g;rw[nT];refine d7 qw (xs:=[.agg [Uk m.1.grain,nb,cb,sb,ob],.agg [Uk x.card,pa,ra]]) (by simp only[aF,e1,e2]) (by simp[eR]) hd ?_;simp only[sz,simprocAttr,eR];obtain⟨g0,hg0⟩:∃g0,g0=((G.empty.new (TD 5 [[Uk m.1.grain,nb,cb,sb,ob]])).new (TD 3 [[Uk x.card,pa,ra]])).new (TD 1 [[.bool false]]):=⟨_,rfl⟩;rw[<-hg0];have f0:g0.h.get 0=TD 5 [[Uk m.1.grain,nb,cb,sb,ob]]:=by rw[hg0];simp[sx,O6]
 have f1:g0.h.get 1=TD 3 [[Uk x.card,pa,ra]]:=by rw[hg0];simp[sx,O6]
 have f2:g0.h.get 2=TD 1 [[.bool false]]:=by rw[hg0];simp[sx]
 have f3:g0.nx=3:=by rw[hg0];simp[sx]
 clear hg0;simp only[sz,simprocAttr,ij,f1,pl,gS];refine bz (m:=x.parents.length) (by omega) (λj t df g=>df=[]/\g=g0/\St t [(2,Ul 0),(3,Ul 1),(4,Ul 2),(14,pa),(5,Uk (S.O4 (S.O3 m.2.1 (x.parents.take j))))])
  ⟨rfl,rfl,by simp[St,sx,S.O4,S.O3]⟩ (by simp[sx]) (by simp[sx]) (by decide) (by rintro j t df g v s (rfl|rfl|rfl)<;>simp[St,sx]) ?_ ?_
 ·rintro j t df g Y ⟨rfl,rfl,⟨h2,k,h4,n,h5,-⟩⟩ R Q;obtain⟨p,W,H,V⟩:=ae Y;obtain⟨p0,p1⟩:=hp p V;obtain⟨p,rfl⟩:=QD p0;have f:p<m.2.1.length:=by omega
  have u1:j<(x.parents.map ci).length:=by simpa using Y
  have u2:(x.parents.map ci)[j]?=some (ci (p:Int)):=by rw[Qx,W];rfl
  have u3:p<(m.2.1.map ci).length:=by simpa using f
  have u4:(m.2.1.map ci)[p]?=some (ci m.2.1[p]):=by rw[Qx,Qu f];rfl
  have e3:S.O4 (S.O3 m.2.1 (x.parents.take (j+1)))=S.O4 (S.O3 m.2.1 (x.parents.take j))*m.2.1[p]:=by rw[H,dS,oV];congr 1;simp[S.O3,S.O4,Qu f]
  have hb:=bO (l:=S.O3 m.2.1 (x.parents.take (j+1))) (bC hc λq hq=>hp q (Rs hq));have ha:=dI (a:=(S.O3 m.2.1 (x.parents.take (j+1))).length) (b:=8) (by simp[S.O3];omega);have h7:(4:Int) ^ 8=65536:=by decide
  have w1:IntKind.wrap .i64 (S.O4 (S.O3 m.2.1 (x.parents.take j))*m.2.1[p])=S.O4 (S.O3 m.2.1 (x.parents.take (j+1))):=by rw[<-e3,aA (by omega) (by omega)]
  simp only[sz,simprocAttr,h2,n,h5,R,Q,f0,rp,rc,u1,u2,u3,u4,ci,w1];simp[St,sx,h2,k,h4,n]
 rintro t df g ⟨rfl,rfl,⟨h2,k,h4,n,h5,-⟩⟩;rw[Q4]at h5;simp only[gV]
 by_cases c1:(x.rows.length:Int)=S.O4 (S.O3 m.2.1 x.parents)
 ·obtain⟨pa',ra',er,h6,N⟩:=zz (d:=d+1) (g:=g) (QM d) (A g.h);refine fA (P:=λt' df g'=>df=[]/\g'=g/\St t' [(2,Ul 0),(3,Ul 1),(4,Ul 2)]) ?_ ?_
  ·simp only[sz,simprocAttr,k,h5,f1,rl,c1];simp[St,sx,h2,k,h4]
  clear h2 k h4 h5 n;rintro t df g ⟨rfl,rfl,h2,k,h4,-⟩;rw[dW,dW];simp only[sz,simprocAttr,k,f1,er];refine Es (c:=x.card) (pa:=pa') N (by simp[sx]) (by decide) (by decide)
   (FlJ [Uk m.1.grain,nb,cb,sb,ob] [Uk x.card,pa,ra] m.1.grain x.card x.rows)
   (FlE m.1.grain x.card x.rows) ?_ ?_ ⟨f0,f1,f2,by simp⟩ ?_ ?_ ?_
  ·rintro j h h' K ⟨a0,a1,a2,a3⟩;exact⟨by rw[K 0 (by omega),a0],by rw[K 1 (by omega),a1],by rw[K 2 (by omega),a2],a3⟩
  ·rintro h h' K ⟨a2,a3⟩;exact⟨by rw[K 2 (by omega),a2],a3⟩
  ·rintro j r z g1 hr hz ⟨a0,a1,a2,a3⟩ Z;obtain⟨r',o,H,F⟩:=ae (l:=x.rows) (j:=j) (Qt.1 hr).1;rw[hr]at o;injection o with o;subst o;simp only[sz,simprocAttr,gR];intro g2 X C;have b0:g2.h.get 0=TD 5 [[Uk m.1.grain,nb,cb,sb,ob]]:=by rw[C 0 (by omega),a0]
   have b1:g2.h.get 1=TD 3 [[Uk x.card,pa,ra]]:=by rw[C 1 (by omega),a1]
   have b2:g2.h.get 2=TD 1 [[.bool false]]:=by rw[C 2 (by omega),a2]
   simp only[sz,simprocAttr,gT,h2,b0,hz.len];refine Id (gr:=m.1.grain) (r:=r) (z:=z) hz hg1 (by simp[St,sx,h2,k,h4]) (by simp[sx]) (by simp[sx]) b2 ?_ ?_
   ·rintro t O;simp only[sx,sy];exact⟨by simp,λi h1 h2=>by simp[O6,show ¬i=2 by omega],.inr ⟨rfl,by simp[O6],r,F,O _⟩⟩
   ·rintro t L h8 ⟨h2,k,h4,h9,J,-⟩;have I:=λg=>hz.len g
    by_cases c2:(r.length:Int)=x.card
    ·by_cases c3:m.1.grain - r.sum=0
     ·simp only[sz,simprocAttr,cg,k,h9,J,I,b1,c2,c3];refine⟨Qv _,λi _ _=>rfl,.inl ⟨rfl,b0,b1,b2,λy hy=>?_⟩⟩;rw[H]at hy;rcases Q0.1 hy with h|h
      ·exact a3 y h
      ·rw[Rg.1 h,S.Pg];simp only[Qy,QQ,QS];exact⟨⟨c2,λq hq=>⟨L q hq,by have:=zu L q hq;omega⟩⟩,by omega⟩
     ·have e:S.Pg m.1.grain x.card r=false:=by rw[S.Pg];simp;intros;omega
      simp only[sz,simprocAttr,cg,k,h4,h9,J,I,b1,b2,c2,c3];exact⟨by simp,λi h1 h2=>by simp[O6,show ¬i=2 by omega],.inr ⟨rfl,by simp[O6],r,F,e⟩⟩
    ·have e:S.Pg m.1.grain x.card r=false:=by rw[S.Pg];simp[c2]
     simp only[sz,simprocAttr,cg,k,h4,h9,I,b1,b2,c2];exact⟨by simp,λi h1 h2=>by simp[O6,show ¬i=2 by omega],.inr ⟨rfl,by simp[O6],r,F,e⟩⟩
  ·rintro g' ⟨a0,a1,a2,a3⟩ Z B;rw[Q4]at a3;have D:S.PK m.1.grain m.2.1 x=true:=by rw[S.PK,QS.2 a3];simp[c1]
   simp only[sz,simprocAttr,gU,h4,a2];refine su (by simp[O6,show ¬g.nx=2 by omega,B]) ?_;simp only[sx,sy,↓reduceIte,Nat.reduceEqDiff,h4,D];simp[show ¬(2=g.nx) by omega]
   rfl
  ·rintro g' ⟨a2,r,hr,e⟩ Z B;have D:S.PK m.1.grain m.2.1 x=false:=by
    rw[S.PK];have:x.rows.all (S.Pg m.1.grain x.card)=false:=by rw[<-RL,QS];intro h;rw[h r hr]at e;cases e
    rw[this,Bool.and_false]
   simp only[sx];refine su B ?_;simp only[sx,sy,↓reduceIte,Nat.reduceEqDiff,h4,D];rw[Qw (by omega),a2]
   rfl
 ·simp only[sz,simprocAttr,k,h4,h5,f1,f2,rl,c1];rw[S.PK];simp[c1]
end
end Hx
